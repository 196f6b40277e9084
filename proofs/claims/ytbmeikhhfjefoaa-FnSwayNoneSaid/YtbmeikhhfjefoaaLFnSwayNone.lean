/- What the law FnSwayNone, and what it alone calls, returns. Conditions: none. -/
import Derived.Test.YtbmeikhhfjefoaaA5
set_option linter.all false
section
namespace Go.Proofs.X
open Go Go.Proofs.XVai Go.Proofs Go.Proofs.XN
set_option linter.unusedVariables false
set_option linter.unusedSimpArgs false
set_option maxHeartbeats 40000000
set_option maxRecDepth 100000

abbrev andI (a b : Int) : Int := IntKind.i64.wrap (BitVec.ofInt IntKind.i64.bits a &&& BitVec.ofInt IntKind.i64.bits b).toNat
abbrev andNotI (a b : Int) : Int := IntKind.i64.wrap (BitVec.ofInt IntKind.i64.bits a &&& ~~~BitVec.ofInt IntKind.i64.bits b).toNat
theorem set8 {a : Int} (h : setB a = true) : ∃ n : Nat, n < 8 ∧ a = n := by
  simp only [setB, inB, decide_eq_true_eq] at h
  exact ⟨a.toNat, by omega, by omega⟩
theorem and8 : ∀ a : Nat, a < 8 → ∀ b : Nat, b < 8 → andI a b = bothG a b := by decide +kernel
theorem andNot8 : ∀ a : Nat, a < 8 → ∀ b : Nat, b < 8 → (andNotI a b == 0) = withinG a b := by decide +kernel
theorem both_any8 : ∀ a : Nat, a < 8 → bothG 7 a = a ∧ bothG a 7 = a := by decide +kernel
theorem both_assoc8 : ∀ a : Nat, a < 8 → ∀ b : Nat, b < 8 → ∀ c : Nat, c < 8 → bothG (bothG a b) c = bothG a (bothG b c) := by decide +kernel
theorem labOk_in {a : Lab} (h : labOk a = true) : setB a.k = true ∧ setB a.t = true := by simpa [labOk] using h
theorem lboth_ok {a b : Lab} (ha : labOk a = true) (hb : labOk b = true) : lboth a b = ⟨bothG a.k b.k, bothG a.t b.t⟩ := by simp [lboth, ha, hb]
theorem lboth_any {a : Lab} (ha : labOk a = true) : lboth lany a = a ∧ lboth a lany = a := by
  obtain ⟨h1, h2⟩ := labOk_in ha
  obtain ⟨k, t⟩ := a
  obtain ⟨n, hn, rfl⟩ := set8 h1
  obtain ⟨m, hm, rfl⟩ := set8 h2
  rw [lboth_ok labOk_any ha, lboth_ok ha labOk_any]
  have e1 := both_any8 n hn
  have e2 := both_any8 m hm
  exact ⟨by rw [Lab.mk.injEq]; exact ⟨e1.1, e2.1⟩, by rw [Lab.mk.injEq]; exact ⟨e1.2, e2.2⟩⟩
theorem lboth_assoc {a b c : Lab} (ha : labOk a = true) (hb : labOk b = true) (hc : labOk c = true) : lboth (lboth a b) c = lboth a (lboth b c) := by
  rw [lboth_ok (labOk_both a b) hc, lboth_ok ha (labOk_both b c), lboth_ok ha hb, lboth_ok hb hc]
  obtain ⟨la1, la2⟩ := labOk_in ha
  obtain ⟨lb1, lb2⟩ := labOk_in hb
  obtain ⟨lc1, lc2⟩ := labOk_in hc
  obtain ⟨ak, at'⟩ := a
  obtain ⟨bk, bt⟩ := b
  obtain ⟨ck, ct⟩ := c
  obtain ⟨n1, h1, rfl⟩ := set8 la1
  obtain ⟨n2, h2, rfl⟩ := set8 la2
  obtain ⟨m1, h3, rfl⟩ := set8 lb1
  obtain ⟨m2, h4, rfl⟩ := set8 lb2
  obtain ⟨o1, h5, rfl⟩ := set8 lc1
  obtain ⟨o2, h6, rfl⟩ := set8 lc2
  rw [Lab.mk.injEq]
  exact ⟨both_assoc8 n1 h1 m1 h3 o1 h5, both_assoc8 n2 h2 m2 h4 o2 h6⟩
theorem k_impl_everybody (S : St) : Ev Y impl_everybody [] S (.agg (lrow lany)) S := by
  refine E_start (h := ?_)
  repeat' (first | refine c0 ?_ | refine c7 ?_ | refine d2 ?_ | refine c9 ?_ | refine d4 ?_ | refine b0 (hk := ?_) | refine a5 (hk := ?_) | refine b7 (hk := ?_))
  exact rC
theorem k_impl_within (a b : Int) (S : St) (ha : setB a = true) (hb : setB b = true) : Ev Y impl_within [I a, I b] S (.bool (withinG a b)) S := by
  obtain ⟨n, hn, rfl⟩ := set8 ha
  obtain ⟨m, hm, rfl⟩ := set8 hb
  refine E_start (h := ?_)
  repeat' (first | refine c0 ?_ | refine c7 ?_ | refine d2 ?_ | refine c9 ?_ | refine d4 ?_ | refine a5 (hk := ?_))
  exact rB (hv := andNot8 n hn m hm)
theorem k_impl_Label_both (a b : Lab) (S : St) (ha : labOk a = true) (hb : labOk b = true) : Ev Y impl_Label_both [.agg (lrow a), .agg (lrow b)] S (.agg (lrow (lboth a b))) S := by
  rw [lboth_ok ha hb]
  obtain ⟨la1, la2⟩ := labOk_in ha
  obtain ⟨lb1, lb2⟩ := labOk_in hb
  obtain ⟨ak, at'⟩ := a
  obtain ⟨bk, bt⟩ := b
  obtain ⟨n1, h1, rfl⟩ := set8 la1
  obtain ⟨n2, h2, rfl⟩ := set8 la2
  obtain ⟨m1, h3, rfl⟩ := set8 lb1
  obtain ⟨m2, h4, rfl⟩ := set8 lb2
  rw [← and8 n1 h1 m1 h3, ← and8 n2 h2 m2 h4]
  refine E_start (h := ?_)
  repeat' (first | refine c0 ?_ | refine c7 ?_ | refine d2 ?_ | refine c9 ?_ | refine d4 ?_ | refine b0 (hk := ?_) | refine b1 (hk := ?_) | refine a5 (hk := ?_) | refine b5 (hk := ?_) | refine b7 (hk := ?_))
  exact rC
theorem k_impl_Label_flows (a b : Lab) (S : St) (ha : labOk a = true) (hb : labOk b = true) : Ev Y impl_Label_flows [.agg (lrow a), .agg (lrow b)] S (.bool (flowsG a b)) S := by
  obtain ⟨la1, la2⟩ := labOk_in ha
  obtain ⟨lb1, lb2⟩ := labOk_in hb
  refine E_start (h := ?_)
  repeat' (first | refine c0 ?_ | refine c7 ?_ | refine d2 ?_ | refine c9 ?_ | refine d4 ?_ | refine a0 (hk := ?_) | refine k0 (he := (by first | exact k_impl_within _ _ _ lb1 la1 | exact k_impl_within _ _ _ lb2 la2)) (hk := ?_) | refine b1 (hk := ?_) | refine a4 (ht := ?_) (hf := ?_) | refine a5 (hk := ?_) | refine b5 (hk := ?_) | (with_reducible intro hc))
  all_goals (refine rB (hv := ?_); simp_all [flowsG])
theorem k_impl_all (n : Nat) : ∀ (l : Stps) (S : St), l.sz ≤ n → l.sz ≤ 1048576 → Ev Y impl_all [.lst l.rows] S (.lst l.all.rows) S := by
  induction n with
  | zero =>
    intro l S h _
    cases l with
    | cons => simp [Stps.sz] at h
    | nil =>
      refine E_start (h := ?_)
      repeat' (first | refine c0 ?_ | refine c7 ?_ | refine d2 ?_ | refine c8 ?_ | refine d4 ?_ | refine b3 (hk := ?_) | refine a5 (hk := ?_))
      refine d5 ?_
      repeat' (first | refine c0 ?_ | refine c2 ?_ | refine c5 ?_ | refine c7 ?_ | refine d2 ?_ | refine c9 ?_ | refine d1 ?_ | refine d4 ?_ | refine a5 (hk := ?_) | refine d7 (hf := ?_))
      exact rL (hp := rfl) (hv := rfl)
  | succ n ih =>
    intro l S h hb
    refine E_start (h := ?_)
    repeat' (first | refine c0 ?_ | refine c7 ?_ | refine d2 ?_ | refine c8 ?_ | refine d4 ?_ | refine b3 (hk := ?_) | refine a5 (hk := ?_))
    refine C_stps l (fun pre r T' S' => ∃ (T0 : Tm) (S1 : St) (d : Stps), l.all = d.app r.all ∧ Ext S S1 ∧ S1[S.length + 1]? = some (.cells true d.rows) ∧ T' = putL T0 [(3, .sl (S.length + 1) d.rows.length), (6, .lst l.rows), (7, I l.rows.length), (8, I pre.length)] ∧ S' = S1 ++ [])
      ⟨_, _, .nil, rfl, ex0, get_own rfl, at_mk ⟨rfl, rfl, rfl, rfl, trivial⟩, (List.append_nil _).symm⟩ ?_ ?_
    · rintro pre k v x hh t e r T' S' hl hz ⟨T0, S1, d, hq, hE, h0, rfl, rfl⟩
      have hg := mid hl
      have hp := mid_lt hl
      have := l.rows_len
      have hlt' : (pre.length : Int) < (l.rows.length : Int) := by omega
      have := l.len_sz
      have q1 := t.all.rows_cells
      have q2 := e.all.rows_cells
      have q3 := d.rows_eight
      have q4 := t.all.rows_eight
      have q5 := all8 (all8 q3 (b := [srow k v x hh t e]) rfl) q4
      have q6 := all8 q3 (b := [srow k v x hh t e]) rfl
      have z0 := l.all_len
      have z1 := t.all_len
      have z2 := e.all_len
      have z3 := congrArg Stps.len hq
      rw [Stps.app_len] at z3
      have z4 := d.rows_len
      have z5 := t.all.rows_len
      have z6 := e.all.rows_len
      repeat' (first | refine c0 ?_ | refine c3 ?_ | refine c7 ?_ | refine d2 ?_ | refine c8 ?_ | refine d0 ?_ | refine d4 ?_ | refine k0 (he := (by first | exact ih t _ (by omega) (by omega) | exact ih e _ (by omega) (by omega))) (hk := ?_) | refine b0 (hk := ?_) | refine a5 (hk := ?_) | refine b5 (hk := ?_) | refine b6 (hk := ?_) | refine b8 (hk := ?_) | refine b7 (hk := ?_) | refine p0 (hk := ?_) | refine u7 (hk := ?_))
      · refine ⟨_, _, d.app (.cons k v x hh t e (t.all.app e.all)), ?_, ex1 (ex2 hE (Nat.le_add_right _ _)), ?_, at_mk ⟨?_, rfl, rfl, inc (by omega), trivial⟩, (List.append_nil _).symm⟩
        · rw [hq]; simp [Stps.all, Stps.app_assoc, Stps.app]
        · rw [get_set (h0)]; simp [Stps.app_rows, Stps.rows]
        · show HV.sl _ _ = _
          simp [Stps.app_rows, Stps.rows]; omega
    · rintro pre T' S' hl ⟨T0, S1, d, hq, hE, h0, rfl, rfl⟩
      repeat' (first | refine c0 ?_ | refine c2 ?_ | refine c5 ?_ | refine c7 ?_ | refine d2 ?_ | refine c8 ?_ | refine c9 ?_ | refine d0 ?_ | refine d1 ?_ | refine d4 ?_ | refine a5 (hk := ?_) | (with_reducible intro hc) | refine d8 (ht := ?_) (hf := ?_))
      · simp [hl] at hc
      · exact rLx hE (hp := d.rows_pure) (hv := by rw [hq]; simp [Stps.all, Stps.app_nil])
theorem k_impl_labels (n : Nat) (ls : List Lab) (ss : Stps) (hls : ls.all labOk = true) : ∀ (l : Stps) (here : Lab) (rows : List (List HV)) (m k : Nat) (S : St), l.sz ≤ n → l.sz ≤ 1048576 → varsOk ls.length l = true → S[k]? = some (.cells true rows) → rows.length = m → rows.all (fun r => r.length == 2) = true → rows.all (fun r => r.all pureC) = true → m + l.sz ≤ 2097152 → labOk here = true →
    Ev Y impl_Prog_labels [PR ls ss, .lst l.rows, .agg (lrow here), .sl k m] S (.sl k (m + l.sz)) (S.set k (.cells true (rows ++ (ats ls l here).map lrow))) := by
  induction n with
  | zero =>
    intro l here rows m k S h _ hv hS hm h2 hp hb hok
    cases l with
    | cons => simp [Stps.sz] at h
    | nil =>
      refine E_start (h := ?_)
      repeat' (first | refine c0 ?_ | refine c7 ?_ | refine d2 ?_ | refine c8 ?_ | refine d4 ?_ | refine b1 (hk := ?_) | refine b3 (hk := ?_) | refine a5 (hk := ?_))
      refine d5 ?_
      repeat' (first | refine c0 ?_ | refine c2 ?_ | refine c5 ?_ | refine c7 ?_ | refine d2 ?_ | refine c9 ?_ | refine d1 ?_ | refine d4 ?_ | refine a5 (hk := ?_) | refine d7 (hf := ?_))
      rw [show rows ++ (ats ls .nil here).map lrow = rows by simp [ats]]
      exact rK hS (S1 := S) ⟨[], by rw [set_self hS, List.append_nil]⟩ hp (hv := rfl)
  | succ n ih =>
    intro l here rows m k S h hsz hv hS hm h2 hp hb hok
    have hkl : k < S.length := (List.getElem?_eq_some_iff.1 hS).1
    refine E_start (h := ?_)
    repeat' (first | refine c0 ?_ | refine c7 ?_ | refine d2 ?_ | refine c8 ?_ | refine d4 ?_ | refine b1 (hk := ?_) | refine b3 (hk := ?_) | refine a5 (hk := ?_))
    refine C_stps l (fun pre r T' S' => ∃ (T0 : Tm) (S1 : St) (d : List Lab), varsOk ls.length r = true ∧ ats ls l here = d ++ ats ls r here ∧ ExtK S k (.cells true (rows ++ d.map lrow)) S1 ∧ S1[S.length + 0]? = some (.cells false [[LS ls, .lst ss.rows]]) ∧ S1[S.length + 1]? = some (.cells false [lrow here]) ∧
        T' = putL T0 [(3, .sl k (m + d.length)), (4, .ptr (S.length + 0) 1 0 0), (6, .ptr (S.length + 1) 1 0 0), (12, .lst l.rows), (13, I l.rows.length), (14, I pre.length)] ∧ S' = S1 ++ [])
      ⟨_, _, [], hv, rfl, (by simp only [List.map_nil, List.append_nil]; exact xk0 hS), get_own rfl, get_own rfl, at_mk ⟨rfl, rfl, rfl, rfl, rfl, rfl, trivial⟩, (List.append_nil _).symm⟩ ?_ ?_
    · rintro pre kk v x hh t e r T' S' hl hz ⟨T0, S1, d, hvr, hq, hE, h0, h1, rfl, rfl⟩
      have hg := mid hl
      have hlt := mid_lt hl
      have := l.rows_len
      have := l.len_sz
      have hlt' : (pre.length : Int) < (l.rows.length : Int) := by omega
      simp only [varsOk, Bool.and_eq_true] at hvr
      obtain ⟨hv0, hvt, hve, hvr⟩ := hvr
      obtain ⟨j, rfl, hj⟩ := vOk_at hv0
      have hcur := xk_get hS hE
      have n0 : S.length + 0 ≠ k := by omega
      have n1 : S.length + 1 ≠ k := by omega
      have z0 := ats_len ls l here
      have z1 := congrArg List.length hq
      simp only [ats, List.length_append, List.length_cons, ats_len] at z1
      have e0 : (rows ++ d.map lrow).length = m + d.length := by simp [hm]
      have e1 : (rows ++ d.map lrow).all (fun r => r.length == 2) = true := all2 h2 (lrow2 d)
      have p1 : (rows ++ d.map lrow).all (fun r => r.all pureC) = true := allP hp (lrow_pure d)
      repeat' (first | refine c0 ?_ | refine c3 ?_ | refine c7 ?_ | refine d2 ?_ | refine c8 ?_ | refine d0 ?_ | refine d4 ?_ | refine d3' (h := ?_) | refine d4' ?_ | refine k1 (he := (by first | exact k_impl_Label_both _ _ _ hok (labAt_ok hls _) | exact ih t _ _ _ _ _ (by omega) (by omega) hvt (get_set (by assumption)) (by first | omega | (simp only [List.length_append, List.length_cons, List.length_nil, List.length_map, ats_len]; omega)) (all2 e1 rfl) (allP p1 rfl) (by first | omega | (simp only [List.length_append, List.length_cons, List.length_nil, List.length_map, ats_len]; omega)) (labOk_both _ _) | exact ih e _ _ _ _ _ (by omega) (by omega) hve (get_set (by assumption)) (by first | omega | (simp only [List.length_append, List.length_cons, List.length_nil, List.length_map, ats_len]; omega)) (all2 (all2 e1 rfl) (lrow2 _)) (allP (allP p1 rfl) (lrow_pure _)) (by first | omega | (simp only [List.length_append, List.length_cons, List.length_nil, List.length_map, ats_len]; omega)) (labOk_both _ _))) (hk := ?_) | refine k0' (he := (by first | exact k_impl_Label_both _ _ _ hok (labAt_ok hls _) | exact ih t _ _ _ _ _ (by omega) (by omega) hvt (get_set (by assumption)) (by first | omega | (simp only [List.length_append, List.length_cons, List.length_nil, List.length_map, ats_len]; omega)) (all2 e1 rfl) (allP p1 rfl) (by first | omega | (simp only [List.length_append, List.length_cons, List.length_nil, List.length_map, ats_len]; omega)) (labOk_both _ _) | exact ih e _ _ _ _ _ (by omega) (by omega) hve (get_set (by assumption)) (by first | omega | (simp only [List.length_append, List.length_cons, List.length_nil, List.length_map, ats_len]; omega)) (all2 (all2 e1 rfl) (lrow2 _)) (allP (allP p1 rfl) (lrow_pure _)) (by first | omega | (simp only [List.length_append, List.length_cons, List.length_nil, List.length_map, ats_len]; omega)) (labOk_both _ _))) (hk := ?_) | refine b0 (hk := ?_) | refine a5 (hk := ?_) | refine b5 (hk := ?_) | refine b6 (hk := ?_) | refine b8 (hk := ?_) | refine b7 (hk := ?_) | refine p0 (hk := ?_) | refine b0' (hk := ?_) | refine e5' (hk := ?_) | refine f5' (hk := ?_) | refine f6' (hk := ?_) | refine f8' (hk := ?_) | refine b7' (hk := ?_) | refine u7 (hk := ?_))
      · refine ⟨_, _, d ++ here :: (ats ls t (lboth here (labAt ls j)) ++ ats ls e (lboth here (labAt ls j))), hvr, ?_, ?_, get_setN n0 h0, get_setN n1 h1, at_mk ⟨?_, rfl, rfl, rfl, rfl, inc (by omega), trivial⟩, (List.append_nil _).symm⟩
        · rw [hq]; simp [ats]
        · have := xk1 (o' := .cells true (rows ++ d.map lrow ++ [lrow here] ++ (ats ls t (lboth here (labAt ls j))).map lrow ++ (ats ls e (lboth here (labAt ls j))).map lrow)) (L := []) hS hE
          simp only [List.map_append, List.map_cons, List.append_assoc, List.cons_append, List.nil_append] at this ⊢
          exact xk2 (by simpa using this)
        · show HV.sl _ _ = _
          simp [ats_len]; omega
    · rintro pre T' S' hl ⟨T0, S1, d, hvr, hq, hE, h0, h1, rfl, rfl⟩
      repeat' (first | refine c0 ?_ | refine c2 ?_ | refine c5 ?_ | refine c7 ?_ | refine d2 ?_ | refine c8 ?_ | refine c9 ?_ | refine d0 ?_ | refine d1 ?_ | refine d4 ?_ | refine a5 (hk := ?_) | (with_reducible intro hc) | refine d8 (ht := ?_) (hf := ?_))
      · simp [hl] at hc
      · rw [hq, ats, List.append_nil]
        refine rK hS hE (allP hp (lrow_pure d)) (hv := ?_)
        have z0 := ats_len ls l here
        have z1 := congrArg List.length hq
        simp [ats] at z1
        omega
theorem k_impl_labels0 (ls : List Lab) (ss l : Stps) (here : Lab) (S : St) (hb : l.sz ≤ 1048576) (hv : varsOk ls.length l = true) (hls : ls.all labOk = true) (hok : labOk here = true) : Ev Y impl_Prog_labels [PR ls ss, .lst l.rows, .agg (lrow here), .nils] S (LS (ats ls l here)) S := by
  cases l with
  | nil =>
    refine E_start (h := ?_)
    repeat' (first | refine c0 ?_ | refine c7 ?_ | refine d2 ?_ | refine c8 ?_ | refine d4 ?_ | refine b1 (hk := ?_) | refine b3 (hk := ?_) | refine a5 (hk := ?_))
    refine d5 ?_
    repeat' (first | refine c0 ?_ | refine c2 ?_ | refine c5 ?_ | refine c7 ?_ | refine d2 ?_ | refine c9 ?_ | refine d1 ?_ | refine d4 ?_ | refine a5 (hk := ?_) | refine d7 (hf := ?_))
    exact rV
  | cons kk v x hh t e r =>
    have hl0 : (Stps.cons kk v x hh t e r).rows = [] ++ srow kk v x hh t e :: r.rows := rfl
    have hsz : (Stps.cons kk v x hh t e r).sz = 1 + t.sz + e.sz + r.sz := rfl
    simp only [varsOk, Bool.and_eq_true] at hv
    obtain ⟨hv0, hvt, hve, hvr⟩ := hv
    obtain ⟨j, rfl, hj⟩ := vOk_at hv0
    generalize hl : Stps.cons kk (j : Int) x hh t e r = l at *
    have hg := mid hl0
    have hlt := mid_lt hl0
    have hll := l.rows_len
    have hlz := l.len_sz
    have hlt' : ((([] : List (List HV)).length : Nat) : Int) < (l.rows.length : Int) := by omega
    have hlt' : (0 : Int) < (l.rows.length : Int) := hlt'
    have ha : ats ls l here = here :: (ats ls t (lboth here (labAt ls j)) ++ (ats ls e (lboth here (labAt ls j)) ++ ats ls r here)) := by rw [← hl]; rfl
    refine E_start (h := ?_)
    repeat' (first | refine c0 ?_ | refine c7 ?_ | refine d2 ?_ | refine c8 ?_ | refine d4 ?_ | refine b1 (hk := ?_) | refine b3 (hk := ?_) | refine a5 (hk := ?_))
    refine d5 ?_
    repeat' (first | refine c0 ?_ | refine c3 ?_ | refine c7 ?_ | refine d2 ?_ | refine c8 ?_ | refine d0 ?_ | refine d4 ?_ | refine d3' (h := ?_) | refine d4' ?_ | refine k1 (he := (by first | exact k_impl_Label_both _ _ _ hok (labAt_ok hls _) | exact k_impl_labels t.sz ls ss hls t _ _ _ _ _ (Nat.le_refl _) (by omega) hvt (by first | exact get_own rfl | exact get_set (by assumption)) (by first | omega | (simp only [List.length_append, List.length_cons, List.length_nil, List.length_map, ats_len]; try omega)) rfl rfl (by first | omega | (simp only [List.length_append, List.length_cons, List.length_nil, List.length_map, ats_len]; try omega)) (labOk_both _ _) | exact k_impl_labels e.sz ls ss hls e _ _ _ _ _ (Nat.le_refl _) (by omega) hve (by first | exact get_own rfl | exact get_set (by assumption)) (by first | omega | (simp only [List.length_append, List.length_cons, List.length_nil, List.length_map, ats_len]; try omega)) (all2 rfl (lrow2 _)) (allP rfl (lrow_pure _)) (by first | omega | (simp only [List.length_append, List.length_cons, List.length_nil, List.length_map, ats_len]; try omega)) (labOk_both _ _))) (hk := ?_) | refine k0' (he := (by first | exact k_impl_Label_both _ _ _ hok (labAt_ok hls _) | exact k_impl_labels t.sz ls ss hls t _ _ _ _ _ (Nat.le_refl _) (by omega) hvt (by first | exact get_own rfl | exact get_set (by assumption)) (by first | omega | (simp only [List.length_append, List.length_cons, List.length_nil, List.length_map, ats_len]; try omega)) rfl rfl (by first | omega | (simp only [List.length_append, List.length_cons, List.length_nil, List.length_map, ats_len]; try omega)) (labOk_both _ _) | exact k_impl_labels e.sz ls ss hls e _ _ _ _ _ (Nat.le_refl _) (by omega) hve (by first | exact get_own rfl | exact get_set (by assumption)) (by first | omega | (simp only [List.length_append, List.length_cons, List.length_nil, List.length_map, ats_len]; try omega)) (all2 rfl (lrow2 _)) (allP rfl (lrow_pure _)) (by first | omega | (simp only [List.length_append, List.length_cons, List.length_nil, List.length_map, ats_len]; try omega)) (labOk_both _ _))) (hk := ?_) | refine b0 (hk := ?_) | refine p1 (hk := ?_) | refine a5 (hk := ?_) | refine b5 (hk := ?_) | refine b6 (hk := ?_) | refine b8 (hk := ?_) | refine b7 (hk := ?_) | refine b0' (hk := ?_) | refine e5' (hk := ?_) | refine f5' (hk := ?_) | refine f6' (hk := ?_) | refine f8' (hk := ?_) | refine b7' (hk := ?_) | refine u7 (hk := ?_))
    have e3 : ((0 : Int)) + 1 = ((1 : Nat) : Int) := rfl
    refine C_stpsFrom l [srow kk j x hh t e] r (by rw [hl0]; rfl) (by omega) (fun pre r T' S' => ∃ (T0 : Tm) (S1 : St) (d : List Lab), varsOk ls.length r = true ∧ ats ls l here = d ++ ats ls r here ∧ Ext S S1 ∧ S1[S.length + 0]? = some (.cells false [[LS ls, .lst ss.rows]]) ∧ S1[S.length + 1]? = some (.cells false [lrow here]) ∧ S1[S.length + 4]? = some (.cells true (d.map lrow)) ∧
        T' = putL T0 [(3, .sl (S.length + 4) d.length), (4, .ptr (S.length + 0) 1 0 0), (6, .ptr (S.length + 1) 1 0 0), (12, .lst l.rows), (13, I l.rows.length), (14, I pre.length)] ∧ S' = S1 ++ [])
      ⟨_, _, here :: (ats ls t (lboth here (labAt ls j)) ++ ats ls e (lboth here (labAt ls j))), hvr, by rw [ha]; simp, ex0, get_own rfl, get_own rfl, (by rw [get_own rfl]; simp), at_mk ⟨?_, rfl, rfl, rfl, rfl, rfl, trivial⟩, (List.append_nil _).symm⟩ ?_ ?_
    · show HV.sl _ _ = _; simp [ats_len]; omega
    · rintro pre kk v x hh t e r T' S' hx hz ⟨T0, S1, d, hvr, hq, hE, f0, f1, f3, rfl, rfl⟩
      have hg := mid hx
      have hlt := mid_lt hx
      have hlt' : (pre.length : Int) < (l.rows.length : Int) := by omega
      simp only [varsOk, Bool.and_eq_true] at hvr
      obtain ⟨hv0, hvt, hve, hvr⟩ := hvr
      obtain ⟨j, rfl, hj⟩ := vOk_at hv0
      have n0 : S.length + 0 ≠ S.length + 4 := by omega
      have n1 : S.length + 1 ≠ S.length + 4 := by omega
      have z0 := ats_len ls l here
      have z1 := congrArg List.length hq
      simp only [ats, List.length_append, List.length_cons, ats_len] at z1
      have e0 : (d.map lrow).length = d.length := by simp
      have e1 := lrow2 d
      have p1 := lrow_pure d
      repeat' (first | refine c0 ?_ | refine c3 ?_ | refine c7 ?_ | refine d2 ?_ | refine c8 ?_ | refine d0 ?_ | refine d4 ?_ | refine d3' (h := ?_) | refine d4' ?_ | refine k1 (he := (by first | exact k_impl_Label_both _ _ _ hok (labAt_ok hls _) | exact k_impl_labels t.sz ls ss hls t _ _ _ _ _ (Nat.le_refl _) (by omega) hvt (get_set (by assumption)) (by first | omega | (simp only [List.length_append, List.length_cons, List.length_nil, List.length_map, ats_len]; try omega)) (all2 e1 rfl) (allP p1 rfl) (by first | omega | (simp only [List.length_append, List.length_cons, List.length_nil, List.length_map, ats_len]; try omega)) (labOk_both _ _) | exact k_impl_labels e.sz ls ss hls e _ _ _ _ _ (Nat.le_refl _) (by omega) hve (get_set (by assumption)) (by first | omega | (simp only [List.length_append, List.length_cons, List.length_nil, List.length_map, ats_len]; try omega)) (all2 (all2 e1 rfl) (lrow2 _)) (allP (allP p1 rfl) (lrow_pure _)) (by first | omega | (simp only [List.length_append, List.length_cons, List.length_nil, List.length_map, ats_len]; try omega)) (labOk_both _ _))) (hk := ?_) | refine k0' (he := (by first | exact k_impl_Label_both _ _ _ hok (labAt_ok hls _) | exact k_impl_labels t.sz ls ss hls t _ _ _ _ _ (Nat.le_refl _) (by omega) hvt (get_set (by assumption)) (by first | omega | (simp only [List.length_append, List.length_cons, List.length_nil, List.length_map, ats_len]; try omega)) (all2 e1 rfl) (allP p1 rfl) (by first | omega | (simp only [List.length_append, List.length_cons, List.length_nil, List.length_map, ats_len]; try omega)) (labOk_both _ _) | exact k_impl_labels e.sz ls ss hls e _ _ _ _ _ (Nat.le_refl _) (by omega) hve (get_set (by assumption)) (by first | omega | (simp only [List.length_append, List.length_cons, List.length_nil, List.length_map, ats_len]; try omega)) (all2 (all2 e1 rfl) (lrow2 _)) (allP (allP p1 rfl) (lrow_pure _)) (by first | omega | (simp only [List.length_append, List.length_cons, List.length_nil, List.length_map, ats_len]; try omega)) (labOk_both _ _))) (hk := ?_) | refine b0 (hk := ?_) | refine a5 (hk := ?_) | refine b5 (hk := ?_) | refine b6 (hk := ?_) | refine b8 (hk := ?_) | refine b7 (hk := ?_) | refine p0 (hk := ?_) | refine b0' (hk := ?_) | refine e5' (hk := ?_) | refine f5' (hk := ?_) | refine f6' (hk := ?_) | refine f8' (hk := ?_) | refine b7' (hk := ?_) | refine u7 (hk := ?_))
      · refine ⟨_, _, d ++ here :: (ats ls t (lboth here (labAt ls j)) ++ ats ls e (lboth here (labAt ls j))), hvr, ?_, ex1 (ex2 hE (Nat.le_add_right _ _)), get_setN n0 f0, get_setN n1 f1, ?_, at_mk ⟨?_, rfl, rfl, rfl, rfl, inc (by omega), trivial⟩, (List.append_nil _).symm⟩
        · rw [hq]; simp [ats]
        · rw [get_set f3]; simp
        · show HV.sl _ _ = _
          simp [ats_len]; omega
    · rintro pre T' S' hx ⟨T0, S1, d, hvr, hq, hE, f0, f1, f3, rfl, rfl⟩
      repeat' (first | refine c0 ?_ | refine c2 ?_ | refine c5 ?_ | refine c7 ?_ | refine d2 ?_ | refine c8 ?_ | refine c9 ?_ | refine d0 ?_ | refine d1 ?_ | refine d4 ?_ | refine a5 (hk := ?_) | (with_reducible intro hc) | refine d8 (ht := ?_) (hf := ?_))
      · simp [hx] at hc
      · exact rLx hE (hn := by simp) (hp := lrow_pure d) (hv := by rw [hq]; simp [ats])
theorem k_impl_at (ls : List Lab) (ss : Stps) (S : St) (hok : progOk ls ss = true) : Ev Y impl_Prog_at [PR ls ss] S (LS (ats ls ss lany)) S := by
  obtain ⟨h1, h2, h3, h4⟩ := progOk_in hok
  have hvs := stepsOk_vars _ _ _ h3
  refine E_start (h := ?_)
  repeat' (first | refine c0 ?_ | refine c7 ?_ | refine d2 ?_ | refine c9 ?_ | refine d4 ?_ | refine d3' (h := ?_) | refine d4' ?_ | refine k0' (he := (by first | exact k_impl_everybody _ | exact k_impl_labels0 _ _ _ _ _ (by omega) hvs h2 labOk_any)) (hk := ?_) | refine k3' (he := (by first | exact k_impl_everybody _ | exact k_impl_labels0 _ _ _ _ _ (by omega) hvs h2 labOk_any)) (hk := ?_) | refine b1 (hk := ?_) | refine b3 (hk := ?_) | refine e5' (hk := ?_) | refine f5' (hk := ?_))
  exact rV
theorem src_lab {ls : List Lab} {x : Vl} {here : Lab} (hls : ls.all labOk = true) (hok : labOk here = true) (hx : valOk ls.length x = true) : lboth here (valLab ls x) = (varsV x).foldl (fun o v => lboth o (labAt ls v)) here := by
  obtain ⟨k, p, q⟩ := x
  simp only [valOk] at hx
  by_cases k1 : k = 1
  · subst k1
    rw [show valLab ls ⟨1, p, q⟩ = lany by simp [valLab], (lboth_any hok).2]
    rfl
  by_cases k2 : k = 2
  · subst k2
    rw [show valLab ls ⟨2, p, q⟩ = lboth lany (labAt ls p) by simp [valLab], (lboth_any (labAt_ok hls p)).1]
    rfl
  have h34 : k = 3 ∨ k = 4 := by
    by_cases h : k = 3 ∨ k = 4
    · exact h
    · simp [k1, k2, h] at hx
  rw [show valLab ls ⟨k, p, q⟩ = lboth (lboth lany (labAt ls p)) (labAt ls q) by simp [valLab, k1, h34], (lboth_any (labAt_ok hls p)).1, show varsV ⟨k, p, q⟩ = [p, q] by simp [varsV, k2, h34], ← lboth_assoc hok (labAt_ok hls p) (labAt_ok hls q)]
  rfl
theorem varsV_ok {n : Nat} {x : Vl} (hx : valOk n x = true) : ∀ v ∈ varsV x, vOk n v = true := by
  obtain ⟨k, p, q⟩ := x
  simp only [valOk] at hx
  intro v hv
  by_cases k1 : k = 1
  · subst k1; simp [varsV] at hv
  by_cases k2 : k = 2
  · subst k2; simp [varsV] at hv; simp at hx; rw [hv]; exact hx.1
  have h34 : k = 3 ∨ k = 4 := by
    by_cases h : k = 3 ∨ k = 4
    · exact h
    · simp [k1, k2, h] at hx
  have hx2 : vOk n p = true ∧ vOk n q = true := by
    rcases h34 with rfl | rfl <;> simpa using hx
  rw [show varsV ⟨k, p, q⟩ = [p, q] by simp [varsV, k2, h34]] at hv
  simp at hv
  rcases hv with rfl | rfl
  · exact hx2.1
  · exact hx2.2
theorem foldl_ok {ls : List Lab} : ∀ (vs : List Int) (here : Lab), labOk here = true → labOk (vs.foldl (fun o v => lboth o (labAt ls v)) here) = true
  | [], _, h => h
  | v :: vs, here, h => foldl_ok vs _ (labOk_both _ _)
theorem varsV_len (x : Vl) : (varsV x).length ≤ 2 := by
  unfold varsV
  split
  · simp
  · split <;> simp
theorem k_impl_source (ls : List Lab) (ss : Stps) (k v : Int) (x : Vl) (h : Int) (t e : Stps) (here : Lab) (S : St) (hls : ls.all labOk = true) (hok : labOk here = true) (hx : valOk ls.length x = true) : Ev Y impl_Prog_source [PR ls ss, .agg (srow k v x h t e), .agg (lrow here)] S (.agg (lrow (lboth here (valLab ls x)))) S := by
  rw [src_lab hls hok hx]
  have hvo := varsV_ok hx
  have hvl := varsV_len x
  refine E_start (h := ?_)
  repeat' (first | refine c0 ?_ | refine c7 ?_ | refine d2 ?_ | refine c8 ?_ | refine d4 ?_ | refine k0 (he := (by first | exact k_impl_Val_vars _ _)) (hk := ?_) | refine b0 (hk := ?_) | refine b1 (hk := ?_) | refine a5 (hk := ?_) | refine b5 (hk := ?_))
  refine C_list (varsV x) (fun pre r T' S' => ∃ (T0 : Tm) (S1 : St) (o : Lab), labOk o = true ∧ (varsV x).foldl (fun o v => lboth o (labAt ls v)) here = r.foldl (fun o v => lboth o (labAt ls v)) o ∧ Ext S S1 ∧ S1[S.length + 0]? = some (.cells false [[LS ls, .lst ss.rows]]) ∧ S1[S.length + 2]? = some (.cells false [lrow o]) ∧ (∃ z, S1[S.length + 3]? = some (.cells false [lrow z])) ∧
      T' = putL T0 [(3, .ptr (S.length + 0) 1 0 0), (5, .ptr (S.length + 2) 1 0 0), (6, .ptr (S.length + 3) 1 0 0), (11, L (varsV x)), (12, I (varsV x).length), (13, I pre.length)] ∧ S' = S1 ++ [])
    ⟨_, _, here, hok, rfl, ex0, get_own rfl, get_own rfl, ⟨⟨0, 0⟩, get_own rfl⟩, at_mk ⟨rfl, rfl, rfl, rfl, by show HV.int _ _ = _; simp, rfl, trivial⟩, (List.append_nil _).symm⟩ ?_ ?_
  · rintro pre y r T' S' hxs ⟨T0, S1, o, ho, hq, hE, f0, f2, ⟨z, f3⟩, rfl, rfl⟩
    have hg := mid hxs
    have hlt := mid_lt hxs
    have hc0 : (pre.length : Int) < ((varsV x).length : Int) := by omega
    have hy := hvo y (by rw [hxs]; simp)
    obtain ⟨j, rfl, hj⟩ := vOk_at hy
    have n2 : S.length + 2 ≠ S.length + 0 := by omega
    have n2' : S.length + 0 ≠ S.length + 2 := by omega
    repeat' (first | refine c0 ?_ | refine c3 ?_ | refine c7 ?_ | refine d2 ?_ | refine c8 ?_ | refine d0 ?_ | refine d4 ?_ | refine d3' (h := ?_) | refine d4' ?_ | refine k0' (he := (by first | exact k_impl_Label_both _ _ _ ho (labAt_ok hls _))) (hk := ?_) | refine a5 (hk := ?_) | refine b6 (hk := ?_) | refine b8 (hk := ?_) | refine e5' (hk := ?_) | refine f5' (hk := ?_) | refine f6' (hk := ?_) | refine f8' (hk := ?_) | refine b7' (hk := ?_) | refine u7 (hk := ?_))
    refine ⟨_, _, lboth o (labAt ls j), labOk_both _ _, by rw [hq]; rfl, ex1 (ex2 hE (Nat.le_add_right _ _)), get_old (setN n2' f0), get_old (setE f2), ⟨z, get_old (setN (by omega) f3)⟩, at_mk ⟨rfl, rfl, rfl, rfl, rfl, inc (by omega), trivial⟩, (List.append_nil _).symm⟩
  · rintro T' S' ⟨T0, S1, o, ho, hq, hE, f0, f2, ⟨z, f3⟩, rfl, rfl⟩
    have hc0 : ¬ (((varsV x).length : Int) < ((varsV x).length : Int)) := by omega
    repeat' (first | refine c0 ?_ | refine c2 ?_ | refine c5 ?_ | refine c7 ?_ | refine d2 ?_ | refine c9 ?_ | refine d1 ?_ | refine d4 ?_ | refine a5 (hk := ?_) | refine b5 (hk := ?_) | refine b7 (hk := ?_) | refine u8 (hk := ?_))
    rw [hq]
    exact rCG (h3 := get_old (setE f3)) (hz := rfl) (hl := by have := hE.le; simp; omega) (ho := fun j hj => by rw [List.getElem?_append_left (by have := hE.le; simp; omega), List.getElem?_set_ne (by omega), hE.old hj])
theorem flatOk_lab {ls : List Lab} : ∀ (l : Stps) (here : Lab), labOk here = true → ∀ x ∈ ats ls l here, labOk x = true
  | .nil, _, _, x, hx => by simp [ats] at hx
  | .cons _ v _ _ t e r, here, h, x, hx => by
    simp only [ats, List.mem_cons, List.mem_append] at hx
    rcases hx with rfl | hx | hx | hx
    · exact h
    · exact flatOk_lab t _ (labOk_both _ _) x hx
    · exact flatOk_lab e _ (labOk_both _ _) x hx
    · exact flatOk_lab r _ h x hx
theorem k_impl_has' (a i : Int) (S : St) (ha : setB a = true) : Ev Y impl_has [I a, I i] S (.bool (hasG a i)) S := by
  rw [← has_eq ha i]
  exact k_impl_has a i S
theorem k_impl_why (ls : List Lab) (ss : Stps) (S : St) (hok : progOk ls ss = true) : Ev Y impl_Prog_why [PR ls ss] S (WHY (whyP ls ss)) S := by
  obtain ⟨h1, h2, h3, h4⟩ := progOk_in hok
  rw [show whyP ls ss = whyL ls ss.all (ats ls ss lany) 0 by simp [whyP, hok]]
  have hatok := flatOk_lab (ls := ls) ss lany labOk_any
  refine E_start (h := ?_)
  repeat' (first | refine c0 ?_ | refine c7 ?_ | refine d2 ?_ | refine c8 ?_ | refine d4 ?_ | refine k0 (he := (by first | exact k_impl_at _ _ _ hok | exact k_impl_all _ ss _ (Nat.le_refl _) (by omega))) (hk := ?_) | refine b1 (hk := ?_) | refine a5 (hk := ?_) | refine b5 (hk := ?_))
  refine C_stps ss.all (fun pre r T' S' => ∃ (T0 : Tm) (S1 : St) (d hs' : List Lab), ats ls ss lany = d ++ hs' ∧ d.length = pre.length ∧ hs'.length = r.len ∧ flatOk ls.length r = true ∧ whyL ls ss.all (ats ls ss lany) 0 = whyL ls r hs' pre.length ∧ Ext S S1 ∧ S1[S.length + 0]? = some (.cells false [[LS ls, .lst ss.rows]]) ∧
      T' = putL T0 [(1, .ptr (S.length + 0) 1 0 0), (4, LS (ats ls ss lany)), (12, .lst ss.all.rows), (13, I ss.all.rows.length), (14, I pre.length)] ∧ S' = S1 ++ [])
    ⟨_, _, [], _, rfl, rfl, by rw [ats_len, Stps.all_len], stepsOk_flat _ _ _ h3, rfl, ex0, get_own rfl, at_mk ⟨rfl, rfl, rfl, rfl, rfl, trivial⟩, (List.append_nil _).symm⟩ ?_ ?_
  · rintro pre k v x hh t e r T' S' hx hz ⟨T0, S1, d, hs', he, hd, hsl, hf, hq, hE, h0, rfl, rfl⟩
    cases hs' with
    | nil => simp [Stps.len] at hsl
    | cons here hs' =>
      have hg := mid hx
      have hlt := mid_lt hx
      have hg2 := mid he
      rw [hd] at hg2
      have := ss.all.rows_len
      have := ss.all_len
      have hc0 : (pre.length : Int) < (ss.all.rows.length : Int) := by omega
      have hho : labOk here = true := hatok here (by rw [he]; simp)
      simp only [flatOk, Bool.and_eq_true] at hf
      obtain ⟨f1, f2, f3, f4, f5⟩ := hf
      simp only [whyL] at hq
      have fx : k = 1 → valOk ls.length x = true := fun hk => by simpa [hk] using f2
      obtain ⟨j, rfl, hj⟩ := vOk_at f1
      have hlo := labAt_ok h2 (j : Int)
      have next : fineG ls k j x hh here = true → whyL ls ss.all (ats ls ss lany) 0 = whyL ls r hs' (pre ++ [srow k j x hh t e]).length := fun hfi => by rw [hq, hfi]; simp
      have bad : fineG ls k j x hh here = false → whyL ls ss.all (ats ls ss lany) 0 = some pre.length := fun hfi => by rw [hq, hfi]; rfl
      by_cases k1 : k = 1
      · subst k1
        repeat' (first | refine c0 ?_ | refine c1 ?_ | refine c3 ?_ | refine c4 ?_ | refine c7 ?_ | refine d2 ?_ | refine c8 ?_ | refine c9 ?_ | refine d0 ?_ | refine d4 ?_ | refine d3' (h := ?_) | refine d4' ?_ | refine k0' (he := (by first | exact k_impl_source _ _ _ _ _ _ _ _ _ _ h2 hho (fx rfl) | exact k_impl_Label_flows _ _ _ (labOk_both _ _) hlo)) (hk := ?_) | refine b0 (hk := ?_) | refine a5 (hk := ?_) | refine b5 (hk := ?_) | refine b6 (hk := ?_) | refine b8 (hk := ?_) | refine b7 (hk := ?_) | refine e5' (hk := ?_) | refine f5' (hk := ?_) | refine f6' (hk := ?_) | refine f8' (hk := ?_) | (with_reducible intro hc) | refine d6 (ht := ?_) | refine u7 (hk := ?_) | refine d9 (ht := ?_) (hf := ?_))
        · refine rVx hE (hv := ?_)
          rw [bad (by simpa [fineG] using hc)]; rfl
        · exact ⟨_, _, d ++ [here], hs', by rw [he]; simp, by simp [hd], by simpa [Stps.len] using hsl, f5, next (by simpa [fineG] using hc), ex1 hE, get_old h0, at_mk ⟨rfl, rfl, rfl, rfl, inc (by omega), trivial⟩, (List.append_nil _).symm⟩
      by_cases k3 : k = 3
      · subst k3
        have hs1 := (labOk_in hho).1
        have hs2 := (labOk_in hlo).1
        have hfq : fineG ls 3 j x hh here = (hasG here.k hh && hasG (labAt ls j).k hh) := by simp [fineG, hasG_both]
        cases q1 : hasG here.k hh with
        | false =>
          have hh1 : ∀ S, Ev Y impl_has [I here.k, I hh] S (.bool false) S := fun S => by
            have := k_impl_has' here.k hh S hs1
            rwa [q1] at this
          repeat' (first | refine c0 ?_ | refine c1 ?_ | refine c4 ?_ | refine c7 ?_ | refine d2 ?_ | refine c8 ?_ | refine c9 ?_ | refine d0 ?_ | refine d4 ?_ | refine d3' (h := ?_) | refine d4' ?_ | refine k0' (he := (by first | exact hh1 _)) (hk := ?_) | refine b0 (hk := ?_) | refine a5 (hk := ?_) | refine b5 (hk := ?_) | refine b6 (hk := ?_) | refine b8 (hk := ?_) | refine b7 (hk := ?_) | refine e0' (hk := ?_) | refine e1' (hk := ?_) | refine e5' (hk := ?_) | refine f5' (hk := ?_) | refine f6' (hk := ?_) | refine f8' (hk := ?_) | refine d6 (ht := ?_) | refine d7 (hf := ?_) | refine u7 (hk := ?_))
          refine rVx hE (hv := ?_)
          rw [bad (by rw [hfq, q1]; rfl)]; rfl
        | true =>
          have hh1 : ∀ S, Ev Y impl_has [I here.k, I hh] S (.bool true) S := fun S => by
            have := k_impl_has' here.k hh S hs1
            rwa [q1] at this
          cases q2 : hasG (labAt ls j).k hh with
          | false =>
            have hh2 : ∀ S, Ev Y impl_has [I (labAt ls j).k, I hh] S (.bool false) S := fun S => by
              have := k_impl_has' (labAt ls j).k hh S hs2
              rwa [q2] at this
            repeat' (first | refine c0 ?_ | refine c1 ?_ | refine c4 ?_ | refine c7 ?_ | refine d2 ?_ | refine c8 ?_ | refine c9 ?_ | refine d0 ?_ | refine d4 ?_ | refine d3' (h := ?_) | refine d4' ?_ | refine k0' (he := (by first | exact hh1 _ | exact hh2 _)) (hk := ?_) | refine b0 (hk := ?_) | refine a5 (hk := ?_) | refine b5 (hk := ?_) | refine b6 (hk := ?_) | refine b8 (hk := ?_) | refine b7 (hk := ?_) | refine e2' (hk := ?_) | refine e5' (hk := ?_) | refine f5' (hk := ?_) | refine f6' (hk := ?_) | refine f8' (hk := ?_) | refine d6 (ht := ?_) | refine d7 (hf := ?_) | refine u7 (hk := ?_))
            refine rVx hE (hv := ?_)
            rw [bad (by rw [hfq, q1, q2]; rfl)]; rfl
          | true =>
            have hh2 : ∀ S, Ev Y impl_has [I (labAt ls j).k, I hh] S (.bool true) S := fun S => by
              have := k_impl_has' (labAt ls j).k hh S hs2
              rwa [q2] at this
            repeat' (first | refine c0 ?_ | refine c3 ?_ | refine c7 ?_ | refine d2 ?_ | refine c8 ?_ | refine d0 ?_ | refine d4 ?_ | refine d3' (h := ?_) | refine d4' ?_ | refine k0' (he := (by first | exact hh1 _ | exact hh2 _)) (hk := ?_) | refine b0 (hk := ?_) | refine a5 (hk := ?_) | refine b5 (hk := ?_) | refine b6 (hk := ?_) | refine b8 (hk := ?_) | refine b7 (hk := ?_) | refine e2' (hk := ?_) | refine e5' (hk := ?_) | refine f5' (hk := ?_) | refine f6' (hk := ?_) | refine f8' (hk := ?_) | refine d6 (ht := ?_) | refine d7 (hf := ?_) | refine u7 (hk := ?_))
            exact ⟨_, _, d ++ [here], hs', by rw [he]; simp, by simp [hd], by simpa [Stps.len] using hsl, f5, next (by rw [hfq, q1, q2]; rfl), ex1 hE, get_old h0, at_mk ⟨rfl, rfl, rfl, rfl, inc (by omega), trivial⟩, (List.append_nil _).symm⟩
      have kb1 : (k == 1) = false := by simpa using k1
      have kb3 : (k == 3) = false := by simpa using k3
      repeat' (first | refine c0 ?_ | refine c3 ?_ | refine c7 ?_ | refine d2 ?_ | refine c8 ?_ | refine d0 ?_ | refine d4 ?_ | refine b0 (hk := ?_) | refine a5 (hk := ?_) | refine b5 (hk := ?_) | refine b6 (hk := ?_) | refine b8 (hk := ?_) | refine b7 (hk := ?_) | refine u6 (hk := ?_) | refine u7 (hk := ?_))
      exact ⟨_, _, d ++ [here], hs', by rw [he]; simp, by simp [hd], by simpa [Stps.len] using hsl, f5, next (by simp [fineG, k1, k3]), ex1 hE, get_old h0, at_mk ⟨rfl, rfl, rfl, rfl, inc (by omega), trivial⟩, (List.append_nil _).symm⟩
  · rintro pre T' S' hx ⟨T0, S1, d, hs', he, hd, hsl, hf, hq, hE, h0, rfl, rfl⟩
    have hc0 : ¬ ((pre.length : Int) < (ss.all.rows.length : Int)) := by rw [hx]; omega
    repeat' (first | refine c0 ?_ | refine c2 ?_ | refine c5 ?_ | refine c7 ?_ | refine d2 ?_ | refine c9 ?_ | refine d1 ?_ | refine d4 ?_ | refine a5 (hk := ?_) | refine u8 (hk := ?_))
    refine rVx hE (hv := ?_)
    rw [hq]; rfl
theorem k_impl_TypeOk (ls : List Lab) (ss : Stps) (S : St) (hs : ss.sz ≤ 1048576) (hl : ls.length ≤ 1048576) : Ev Y impl_TypeOk [PR ls ss] S (.bool (progOk ls ss && (whyP ls ss).isNone)) S := by
  cases hok : progOk ls ss with
  | false =>
    have hno : (!progOk ls ss) = true := by rw [hok]; rfl
    refine E_start (h := ?_)
    repeat' (first | refine c0 ?_ | refine c1 ?_ | refine c7 ?_ | refine d2 ?_ | refine c9 ?_ | refine d4 ?_ | refine k0 (he := (by first | exact k_impl_ProgOk _ _ _ hs hl)) (hk := ?_) | refine b1 (hk := ?_) | refine a5 (hk := ?_) | refine b5 (hk := ?_) | refine u5 (hk := ?_))
    exact rB (hv := rfl)
  | true =>
    have hno : (!progOk ls ss) = false := by rw [hok]; rfl
    refine E_start (h := ?_)
    repeat' (first | refine c0 ?_ | refine c7 ?_ | refine d2 ?_ | refine c9 ?_ | refine d0 ?_ | refine d4 ?_ | refine k0 (he := (by first | exact k_impl_ProgOk _ _ _ hs hl | exact k_impl_why _ _ _ hok)) (hk := ?_) | refine b1 (hk := ?_) | refine a4 (ht := ?_) (hf := ?_) | refine a5 (hk := ?_) | refine b5 (hk := ?_) | (with_reducible intro hc) | refine u6 (hk := ?_))
    all_goals (refine rB (hv := ?_); cases hw : whyP ls ss <;> simp_all)
end Go.Proofs.X
end
section
namespace Go.Proofs.X
open Go Go.Proofs.XVai Go.Proofs Go.Proofs.XN
set_option linter.unusedVariables false
set_option linter.unusedSimpArgs false
set_option maxHeartbeats 4000000
set_option maxRecDepth 100000

theorem law_SwayNone (bs : List UInt8) (S : St) : Ev Y laws_FnSwayNone [BY bs] S (.bool true) S := by
  by_cases hlen : bs.length > 1048576
  · have hc0 : ((bs.map brow).length : Int) > 1048576 := by simp; omega
    refine E_start (h := ?_)
    repeat' (first | refine c0 ?_ | refine c1 ?_ | refine c7 ?_ | refine d2 ?_ | refine c9 ?_ | refine d4 ?_ | refine a5 (hk := ?_) | refine u7 (hk := ?_))
    exact rB (hv := rfl)
  · have hc0 : ¬ (((bs.map brow).length : Int) > 1048576) := by simp; omega
    refine E_start (h := ?_)
    repeat' (first | refine c0 ?_ | refine c7 ?_ | refine d2 ?_ | refine d0 ?_ | refine d4 ?_ | refine a5 (hk := ?_) | refine u8 (hk := ?_))
    refine kX (he := k_DrawSwayOf bs _) (hk := ?_)
    rintro v S2 ⟨rfl, ls, ss, h, rfl, hs, hl, hh1, hh2⟩
    cases hr : swayOf ls ss h with
    | none =>
      have f1 : ∀ S, Ev Y spec_SwayOf [PR ls ss, I h] S (.tup [L [], L [], .bool false]) S := fun S => by
        have := k_spec_SwayOf ls ss h S (by omega) (by omega)
        rw [hr] at this; exact this
      have f2 : ∀ S, Ev Y impl_SwayOf [PR ls ss, I h] S (.tup [L [], L [], .bool false]) S := fun S => by
        have := k_impl_SwayOf ls ss h S (by omega) (by omega)
        rw [hr] at this; exact this
      repeat' (first | refine c0 ?_ | refine c7 ?_ | refine d2 ?_ | refine c9 ?_ | refine d0 ?_ | refine d4 ?_ | refine a0 (hk := ?_) | refine k0 (he := (by first | exact f1 _ | exact f2 _ | exact lcInts_eq _ _ (by simp))) (hk := ?_) | refine b0 (hk := ?_) | refine a1 (hk := ?_) | refine a2 (hk := ?_) | refine a5 (hk := ?_) | refine b5 (hk := ?_) | refine b7 (hk := ?_) | refine d7 (hf := ?_))
      exact rB (hv := rfl)
    | some p =>
      obtain ⟨k, i⟩ := p
      obtain ⟨w1, w2, w3, w4, w5, w6⟩ := sway_found hr
      obtain ⟨p1, p2, p3, p4⟩ := progOk_in w1
      have hrl := fun m => row2_len m ls.length
      have f1 : ∀ S, Ev Y spec_SwayOf [PR ls ss, I h] S (.tup [L (row2 k ls.length), L (row2 i ls.length), .bool true]) S := fun S => by
        have := k_spec_SwayOf ls ss h S (by omega) (by omega)
        rw [hr] at this; exact this
      have f2 : ∀ S, Ev Y impl_SwayOf [PR ls ss, I h] S (.tup [L (row2 k ls.length), L (row2 i ls.length), .bool true]) S := fun S => by
        have := k_impl_SwayOf ls ss h S (by omega) (by omega)
        rw [hr] at this; exact this
      have hw : ∀ S, Ev Y impl_TypeOk [PR ls ss] S (.bool false) S := fun S => by
        have := k_impl_TypeOk ls ss S (by omega) (by omega)
        cases hy : whyP ls ss with
        | none => rw [sway_none hy] at hr; cases hr
        | some j => rw [hy, show (progOk ls ss && (some j).isNone) = false by simp] at this; exact this
      repeat' (first | refine c0 ?_ | refine c7 ?_ | refine d2 ?_ | refine c9 ?_ | refine d0 ?_ | refine d4 ?_ | refine k0 (he := (by first | exact f1 _ | exact f2 _ | exact lcInts_eq _ _ (by rw [hrl]; omega) | exact hw _)) (hk := ?_) | refine b0 (hk := ?_) | refine a1 (hk := ?_) | refine a2 (hk := ?_) | refine a5 (hk := ?_) | refine b5 (hk := ?_) | refine b7 (hk := ?_) | refine d7 (hf := ?_))
      exact rB (hv := rfl)
end Go.Proofs.X
end
