/- What the functions that the statement reaches do, part 5 of 6: the canonical machine on which they are run, and their contracts. Conditions: none. -/
import Derived.Test.YtbmeikhhfjefoaaA4
set_option linter.all false
section
namespace Go.Proofs.X
open Go Go.Proofs.XVai Go.Proofs Go.Proofs.XN
set_option linter.unusedVariables false
set_option linter.unusedSimpArgs false
set_option maxHeartbeats 4000000
/-- A return that keeps all. -/
theorem rKeep {Y : XVai.Sys} {f : Nat} {fn : Func} {T' : Tm} {S S1 : St} {vs : List HV} {v : HV} (hkp : Y.keep f = true := by rfl) (hr : resVs Y T' S1 fn.results.toList = some vs := by rfl) (hv : resTup vs = v := by rfl) : RT Y f fn S v S1 .ret T' S1 :=
  ⟨by simp only [cret, hr, hkp, if_true, hv]⟩
section
variable {fid : Nat} {T : Tm} {S : St} {K : Tm → St → Prop} {ops : Array Oper} {l : List Oper} {dst : Option Tmp} {ty : TypeId} {pos : String} {after : Array Edge} {g0 : Option (Nat × Bool)} {bs ix : Nat} {es : List (Nat × (Nat → Prop))} {ns : List (Nat × Nat)}
/-- A slice of one value that holds rows of one's own. -/
theorem bs1 {t el : Nat} {x : Operand} {ti te : TI} {cs cs' : List HV} (hg : wantG ops g0 T = true := by rfl) (h1 : Y.tab t = some ti := by rfl) (h2 : ti.sh = .slice el := by rfl) (h3 : Y.tab el = some te := by rfl) (hx : ev T x = .agg cs := by rfl) (hl : cs.length = te.size := by rfl) (hz : 1 * te.size ≤ 16777216 := by decide)
    (hf : mapMS (frzC 0 6) cs S = some (cs', S)) (hp : cs'.all pureC = true := by rfl) (hk : OW Y fid ops none l (put T dst (.lst [cs'])) S K) : OW Y fid ops none (⟨dst, .buildSlice t 1 #[(0, x)], ty, pos, after, g0⟩ :: l) T S K := by
  refine ⟨A_op hg (v := .lst [cs']) ?_ hk.of⟩
  have hz' : te.size ≤ 16777216 := by omega
  simp [cop, h1, h2, h3, fillS, hx, HV.cells, hl, hz', mapMS, hf, hp]
/-- A call that keeps what it made. -/
theorem kX {f : Operand} {args : Array Operand} {ats : Array TypeId} {g : Nat} {args' : List HV} {R : HV → St → Prop} (hg : wantG ops g0 T = true := by rfl) (hf : ev T f = .fn g [] := by rfl) (hb : Y.byref g = false := by rfl)
    (ha : mapMS (frzV 0) (args.toList.map (ev T)) S = some (args', S) := by rfl) (he : EvR Y g args' S R) (hk : ∀ v S', R v S' → OW Y fid ops none l (put T dst v) S' K) : OW Y fid ops none (⟨dst, .call ⟨.value f, args, ats⟩, ty, pos, after, g0⟩ :: l) T S K := by
  obtain ⟨v, S', h1, h2⟩ := he
  exact k0 hg hf hb ha (by rw [List.append_nil]; exact h1) rfl (by rw [fv_eq]; exact hk v S' h2)
end
theorem own_get {S1 X : St} {k1 j : Nat} {o o' : Ob} (h : (S1 ++ X)[k1]? = some o') (hj : k1 ≠ S1.length + j) : (S1 ++ X.set j o)[k1]? = some o' := by
  rw [← set_own, List.getElem?_set_ne (Ne.symm hj)]; exact h
/-- A row of one's own that may still be stored into becomes immutable. -/
theorem fz_slF {n0 : Nat} {S : St} {x : HV} {k n : Nat} {rows : List (List HV)} (h0 : x = .sl k n) (hk : n0 ≤ k) (h1 : S[k]? = some (.cells false rows)) (hn : rows.length = n) (hp : rows.all (fun r => r.all pureC) = true) : frzC n0 6 x S = some (.lst rows, S.set k (.cells true rows)) := by
  subst h0
  have hm : mapMS (mapMS (frzC n0 5)) rows S = some (rows, S) := mapMS_same fun r hr => mapMS_same fun c hc => frzC_pure (List.all_eq_true.1 (List.all_eq_true.1 hp r hr) c hc)
  simp only [frzC]
  rw [if_neg (by omega), h1]
  simp [hn, hm, hp]
theorem fmS {α : Type} {f : α → St → Option (α × St)} {S S1 S2 : St} {x x' : α} {xs xs' : List α} (h : f x S = some (x', S1)) (hs : mapMS f xs S1 = some (xs', S2)) : mapMS f (x :: xs) S = some (x' :: xs', S2) := by
  simp only [mapMS, h, hs]
theorem frzR_aggS {n0 : Nat} {S S' : St} {cs cs' : List HV} (h : mapMS (frzC n0 6) cs S = some (cs', S')) : frzR n0 (.agg cs) S = some (.agg cs', S') := by
  simp only [frzR, frzV, h]
/-- A row of steps of one's own, behind all that was there. -/
def Kept (l : Stps) (S : St) (v : HV) (S' : St) : Prop := ∃ J k, S' = S ++ J ∧ v = .sl k l.rows.length ∧ S'[k]? = some (.cells true l.rows) ∧ S.length ≤ k
theorem k_spec_l2Copy (n : Nat) : ∀ (l : Stps) (S : St), l.sz ≤ n → l.sz ≤ 1048576 → EvR Y spec_l2Copy [.lst l.rows] S (Kept l S) := by
  induction n with
  | zero =>
    intro l S h _
    cases l with
    | cons => simp [Stps.sz] at h
    | nil =>
      refine E_startR (h := ?_)
      repeat' (first | refine c0 ?_ | refine c1 ?_ | refine c2 ?_ | refine c3 ?_ | refine c4 ?_ | refine c5 ?_ | refine c6 (h := ?_) | refine c7 ?_ | refine d2 ?_ | refine c8 ?_ | refine c9 ?_ | refine d0 ?_ | refine d1 ?_ | refine d4 ?_ | refine a0 (hk := ?_) | refine b0 (hk := ?_) | refine b1 (hk := ?_) | refine b2 (hk := ?_) | refine b3 (hk := ?_) | refine b4 (hk := ?_) | refine p1 (hk := ?_) | refine g0' (hk := ?_) | refine a1 (hk := ?_) | refine a2 (hk := ?_) | refine u1 (hk := ?_) | refine u2 (hk := ?_) | refine u3 (hk := ?_) | refine u4 (hk := ?_) | refine a3 (ht := ?_) (hf := ?_) | refine a4 (ht := ?_) (hf := ?_) | refine a5 (hk := ?_) | refine b5 (hk := ?_) | refine b6 (hk := ?_) | refine b8 (hk := ?_) | refine b9 (hk := ?_) | refine b7 (hk := ?_) | refine p0 (hk := ?_) | refine g1 (hw := ?_) | refine g2 (hw := ?_) | refine g3 (hw := ?_) | refine g4 (hw := ?_) | (with_reducible intro hc) | refine d6 (ht := ?_) | refine d7 (hf := ?_) | refine u5 (hk := ?_) | refine u6 (hk := ?_) | refine u7 (hk := ?_) | refine u8 (hk := ?_) | refine d8 (ht := ?_) (hf := ?_) | refine d9 (ht := ?_) (hf := ?_))
      refine d5 ?_
      repeat' (first | refine c0 ?_ | refine c1 ?_ | refine c2 ?_ | refine c3 ?_ | refine c4 ?_ | refine c5 ?_ | refine c6 (h := ?_) | refine c7 ?_ | refine d2 ?_ | refine c8 ?_ | refine c9 ?_ | refine d0 ?_ | refine d1 ?_ | refine d4 ?_ | refine a0 (hk := ?_) | refine b0 (hk := ?_) | refine b1 (hk := ?_) | refine b2 (hk := ?_) | refine b3 (hk := ?_) | refine b4 (hk := ?_) | refine p1 (hk := ?_) | refine g0' (hk := ?_) | refine a1 (hk := ?_) | refine a2 (hk := ?_) | refine u1 (hk := ?_) | refine u2 (hk := ?_) | refine u3 (hk := ?_) | refine u4 (hk := ?_) | refine a3 (ht := ?_) (hf := ?_) | refine a4 (ht := ?_) (hf := ?_) | refine a5 (hk := ?_) | refine b5 (hk := ?_) | refine b6 (hk := ?_) | refine b8 (hk := ?_) | refine b9 (hk := ?_) | refine b7 (hk := ?_) | refine p0 (hk := ?_) | refine g1 (hw := ?_) | refine g2 (hw := ?_) | refine g3 (hw := ?_) | refine g4 (hw := ?_) | (with_reducible intro hc) | refine d6 (ht := ?_) | refine d7 (hf := ?_) | refine u5 (hk := ?_) | refine u6 (hk := ?_) | refine u7 (hk := ?_) | refine u8 (hk := ?_) | refine d8 (ht := ?_) (hf := ?_) | refine d9 (ht := ?_) (hf := ?_))
      exact ⟨_, _, rKeep, _, _, rfl, rfl, get_own rfl, Nat.le_add_right _ _⟩
  | succ n ih =>
    intro l S h hb
    refine E_startR (h := ?_)
    repeat' (first | refine c0 ?_ | refine c1 ?_ | refine c2 ?_ | refine c3 ?_ | refine c4 ?_ | refine c5 ?_ | refine c6 (h := ?_) | refine c7 ?_ | refine d2 ?_ | refine c8 ?_ | refine c9 ?_ | refine d0 ?_ | refine d1 ?_ | refine d4 ?_ | refine a0 (hk := ?_) | refine b0 (hk := ?_) | refine b1 (hk := ?_) | refine b2 (hk := ?_) | refine b3 (hk := ?_) | refine b4 (hk := ?_) | refine p1 (hk := ?_) | refine g0' (hk := ?_) | refine a1 (hk := ?_) | refine a2 (hk := ?_) | refine u1 (hk := ?_) | refine u2 (hk := ?_) | refine u3 (hk := ?_) | refine u4 (hk := ?_) | refine a3 (ht := ?_) (hf := ?_) | refine a4 (ht := ?_) (hf := ?_) | refine a5 (hk := ?_) | refine b5 (hk := ?_) | refine b6 (hk := ?_) | refine b8 (hk := ?_) | refine b9 (hk := ?_) | refine b7 (hk := ?_) | refine p0 (hk := ?_) | refine g1 (hw := ?_) | refine g2 (hw := ?_) | refine g3 (hw := ?_) | refine g4 (hw := ?_) | (with_reducible intro hc) | refine d6 (ht := ?_) | refine d7 (hf := ?_) | refine u5 (hk := ?_) | refine u6 (hk := ?_) | refine u7 (hk := ?_) | refine u8 (hk := ?_) | refine d8 (ht := ?_) (hf := ?_) | refine d9 (ht := ?_) (hf := ?_))
    refine C_stps l (fun pre r T' S' => ∃ (T0 : Tm) (S1 : St), pre.all (fun r => r.length == 8) = true ∧ Ext S S1 ∧ S1[S.length + 1]? = some (.cells true pre) ∧ T' = putL T0 [(0, .lst l.rows), (3, .sl (S.length + 1) pre.length), (4, I pre.length)] ∧ S' = S1 ++ [])
      ⟨_, _, rfl, ex0, get_own rfl, at_mk ⟨rfl, rfl, rfl, trivial⟩, (List.append_nil _).symm⟩ ?_ ?_
    · rintro pre k v x hh t e r T' S' hl hz ⟨T0, S1, hq, hE, f0, rfl, rfl⟩
      have hg := mid hl
      have hp := mid_lt hl
      have := l.rows_len
      have := l.len_sz
      have hlt : (pre.length : Int) < (l.rows.length : Int) := by omega
      repeat' (first | refine c0 ?_ | refine c1 ?_ | refine c2 ?_ | refine c3 ?_ | refine c4 ?_ | refine c5 ?_ | refine c6 (h := ?_) | refine c7 ?_ | refine d2 ?_ | refine c8 ?_ | refine c9 ?_ | refine d0 ?_ | refine d1 ?_ | refine d4 ?_ | refine a0 (hk := ?_) | refine b0 (hk := ?_) | refine b1 (hk := ?_) | refine b2 (hk := ?_) | refine b3 (hk := ?_) | refine b4 (hk := ?_) | refine p1 (hk := ?_) | refine g0' (hk := ?_) | refine a1 (hk := ?_) | refine a2 (hk := ?_) | refine u1 (hk := ?_) | refine u2 (hk := ?_) | refine u3 (hk := ?_) | refine u4 (hk := ?_) | refine a3 (ht := ?_) (hf := ?_) | refine a4 (ht := ?_) (hf := ?_) | refine a5 (hk := ?_) | refine b5 (hk := ?_) | refine b6 (hk := ?_) | refine b8 (hk := ?_) | refine b9 (hk := ?_) | refine b7 (hk := ?_) | refine p0 (hk := ?_) | refine g1 (hw := ?_) | refine g2 (hw := ?_) | refine g3 (hw := ?_) | refine g4 (hw := ?_) | (with_reducible intro hc) | refine d6 (ht := ?_) | refine d7 (hf := ?_) | refine u5 (hk := ?_) | refine u6 (hk := ?_) | refine u7 (hk := ?_) | refine u8 (hk := ?_) | refine d8 (ht := ?_) (hf := ?_) | refine d9 (ht := ?_) (hf := ?_))
      refine kX (he := ih t _ (by omega) (by omega)) (hk := ?_)
      rintro v1 S2 ⟨J1, k1, rfl, rfl, hk1, hle1⟩
      rw [List.append_assoc] at hk1 ⊢
      have hne1 : k1 ≠ S1.length + 0 := by simp at hle1; omega
      have hk1 := own_get (j := 0) (o := .cells false [[I k, I v, I x.kind, I x.a, I x.b, I hh, .sl k1 t.rows.length, .lst e.rows]]) hk1 hne1
      repeat' (first | refine c0 ?_ | refine c1 ?_ | refine c2 ?_ | refine c3 ?_ | refine c4 ?_ | refine c5 ?_ | refine c6 (h := ?_) | refine c7 ?_ | refine d2 ?_ | refine c8 ?_ | refine c9 ?_ | refine d0 ?_ | refine d1 ?_ | refine d4 ?_ | refine a0 (hk := ?_) | refine b0 (hk := ?_) | refine b1 (hk := ?_) | refine b2 (hk := ?_) | refine b3 (hk := ?_) | refine b4 (hk := ?_) | refine p1 (hk := ?_) | refine g0' (hk := ?_) | refine a1 (hk := ?_) | refine a2 (hk := ?_) | refine u1 (hk := ?_) | refine u2 (hk := ?_) | refine u3 (hk := ?_) | refine u4 (hk := ?_) | refine a3 (ht := ?_) (hf := ?_) | refine a4 (ht := ?_) (hf := ?_) | refine a5 (hk := ?_) | refine b5 (hk := ?_) | refine b6 (hk := ?_) | refine b8 (hk := ?_) | refine b9 (hk := ?_) | refine b7 (hk := ?_) | refine p0 (hk := ?_) | refine g1 (hw := ?_) | refine g2 (hw := ?_) | refine g3 (hw := ?_) | refine g4 (hw := ?_) | (with_reducible intro hc) | refine d6 (ht := ?_) | refine d7 (hf := ?_) | refine u5 (hk := ?_) | refine u6 (hk := ?_) | refine u7 (hk := ?_) | refine u8 (hk := ?_) | refine d8 (ht := ?_) (hf := ?_) | refine d9 (ht := ?_) (hf := ?_))
      refine kX (he := ih e _ (by omega) (by omega)) (hk := ?_)
      rintro v2 S3 ⟨J2, k2, rfl, rfl, hk2, hle2⟩
      have hk1 := get_old (L := J2) hk1
      rw [List.append_assoc] at hk1 hk2 ⊢
      have hne2 : k2 ≠ S1.length + 0 := by simp at hle2; omega
      have hk1 := own_get (j := 0) (o := .cells false [[I k, I v, I x.kind, I x.a, I x.b, I hh, .sl k1 t.rows.length, .sl k2 e.rows.length]]) hk1 hne1
      have hk2 := own_get (j := 0) (o := .cells false [[I k, I v, I x.kind, I x.a, I x.b, I hh, .sl k1 t.rows.length, .sl k2 e.rows.length]]) hk2 hne2
      have pt := t.rows_pure
      have pe := e.rows_pure
      repeat' (first | refine c0 ?_ | refine c1 ?_ | refine c2 ?_ | refine c3 ?_ | refine c4 ?_ | refine c5 ?_ | refine c6 (h := ?_) | refine c7 ?_ | refine d2 ?_ | refine c8 ?_ | refine c9 ?_ | refine d0 ?_ | refine d1 ?_ | refine d4 ?_ | refine a0 (hk := ?_) | refine b0 (hk := ?_) | refine b1 (hk := ?_) | refine b2 (hk := ?_) | refine b3 (hk := ?_) | refine b4 (hk := ?_) | refine p1 (hk := ?_) | refine g0' (hk := ?_) | refine a1 (hk := ?_) | refine a2 (hk := ?_) | refine u1 (hk := ?_) | refine u2 (hk := ?_) | refine u3 (hk := ?_) | refine u4 (hk := ?_) | refine a3 (ht := ?_) (hf := ?_) | refine a4 (ht := ?_) (hf := ?_) | refine a5 (hk := ?_) | refine b5 (hk := ?_) | refine b6 (hk := ?_) | refine b8 (hk := ?_) | refine b9 (hk := ?_) | refine b7 (hk := ?_) | refine p0 (hk := ?_) | refine g1 (hw := ?_) | refine g2 (hw := ?_) | refine g3 (hw := ?_) | refine g4 (hw := ?_) | (with_reducible intro hc) | refine d6 (ht := ?_) | refine d7 (hf := ?_) | refine u5 (hk := ?_) | refine u6 (hk := ?_) | refine u7 (hk := ?_) | refine u8 (hk := ?_) | refine d8 (ht := ?_) (hf := ?_) | refine d9 (ht := ?_) (hf := ?_))
      refine bs1 (hf := fm1 rfl (fm1 rfl (fm1 rfl (fm1 rfl (fm1 rfl (fm1 rfl (fm1 (fz_sl rfl (Nat.zero_le _) hk1 rfl pt) (fm1 (fz_sl rfl (Nat.zero_le _) hk2 rfl pe) fm0)))))))) (hk := ?_)
      repeat' (first | refine c0 ?_ | refine c1 ?_ | refine c2 ?_ | refine c3 ?_ | refine c4 ?_ | refine c5 ?_ | refine c6 (h := ?_) | refine c7 ?_ | refine d2 ?_ | refine c8 ?_ | refine c9 ?_ | refine d0 ?_ | refine d1 ?_ | refine d4 ?_ | refine a0 (hk := ?_) | refine b0 (hk := ?_) | refine b1 (hk := ?_) | refine b2 (hk := ?_) | refine b3 (hk := ?_) | refine b4 (hk := ?_) | refine p1 (hk := ?_) | refine g0' (hk := ?_) | refine a1 (hk := ?_) | refine a2 (hk := ?_) | refine u1 (hk := ?_) | refine u2 (hk := ?_) | refine u3 (hk := ?_) | refine u4 (hk := ?_) | refine a3 (ht := ?_) (hf := ?_) | refine a4 (ht := ?_) (hf := ?_) | refine a5 (hk := ?_) | refine b5 (hk := ?_) | refine b6 (hk := ?_) | refine b8 (hk := ?_) | refine b9 (hk := ?_) | refine b7 (hk := ?_) | refine p0 (hk := ?_) | refine g1 (hw := ?_) | refine g2 (hw := ?_) | refine g3 (hw := ?_) | refine g4 (hw := ?_) | (with_reducible intro hc) | refine d6 (ht := ?_) | refine d7 (hf := ?_) | refine u5 (hk := ?_) | refine u6 (hk := ?_) | refine u7 (hk := ?_) | refine u8 (hk := ?_) | refine d8 (ht := ?_) (hf := ?_) | refine d9 (ht := ?_) (hf := ?_))
      refine ⟨_, _, all8 hq rfl, ex1 (ex2 hE (Nat.le_add_right _ _)), get_set f0, at_mk ⟨rfl, ?_, inc (by omega), trivial⟩, (List.append_nil _).symm⟩
      show HV.sl _ _ = _
      simp
    · rintro pre T' S' hl ⟨T0, S1, hq, hE, f0, rfl, rfl⟩
      repeat' (first | refine c0 ?_ | refine c1 ?_ | refine c2 ?_ | refine c3 ?_ | refine c4 ?_ | refine c5 ?_ | refine c6 (h := ?_) | refine c7 ?_ | refine d2 ?_ | refine c8 ?_ | refine c9 ?_ | refine d0 ?_ | refine d1 ?_ | refine d4 ?_ | refine a0 (hk := ?_) | refine b0 (hk := ?_) | refine b1 (hk := ?_) | refine b2 (hk := ?_) | refine b3 (hk := ?_) | refine b4 (hk := ?_) | refine p1 (hk := ?_) | refine g0' (hk := ?_) | refine a1 (hk := ?_) | refine a2 (hk := ?_) | refine u1 (hk := ?_) | refine u2 (hk := ?_) | refine u3 (hk := ?_) | refine u4 (hk := ?_) | refine a3 (ht := ?_) (hf := ?_) | refine a4 (ht := ?_) (hf := ?_) | refine a5 (hk := ?_) | refine b5 (hk := ?_) | refine b6 (hk := ?_) | refine b8 (hk := ?_) | refine b9 (hk := ?_) | refine b7 (hk := ?_) | refine p0 (hk := ?_) | refine g1 (hw := ?_) | refine g2 (hw := ?_) | refine g3 (hw := ?_) | refine g4 (hw := ?_) | (with_reducible intro hc) | refine d6 (ht := ?_) | refine d7 (hf := ?_) | refine u5 (hk := ?_) | refine u6 (hk := ?_) | refine u7 (hk := ?_) | refine u8 (hk := ?_) | refine d8 (ht := ?_) (hf := ?_) | refine d9 (ht := ?_) (hf := ?_))
      · simp [hl] at hc
      · subst hl
        obtain ⟨J, rfl⟩ := hE
        exact ⟨.sl (S.length + 1) l.rows.length, _, rKeep, J ++ [], S.length + 1, by rw [List.append_assoc], rfl, get_old f0, by omega⟩
end Go.Proofs.X
end
section
namespace Go.Proofs.X
open Go Go.Proofs.XVai Go.Proofs Go.Proofs.XN
set_option linter.unusedVariables false
set_option linter.unusedSimpArgs false
set_option maxHeartbeats 4000000
/-- A row of one's own, or nil. -/
def Col (fr : Bool) (S : St) (c : HV) (rows : List (List HV)) : Prop := (c = .nils ∧ rows = []) ∨ ∃ q, c = .sl q rows.length ∧ S[q]? = some (.cells fr rows)
/-- Rows that are not the same one. -/
def Apa (a b : HV) : Prop := ∀ k n k' n', a = .sl k n → b = .sl k' n' → k ≠ k'
theorem Apa.symm {a b : HV} (h : Apa a b) : Apa b a := fun k n k' n' h1 h2 e => h k' n' k n h2 h1 e.symm
theorem apa0 {b : HV} : Apa .nils b := fun k n k' n' h1 _ => by cases h1
theorem Col.keep {fr : Bool} {S S' : St} {c : HV} {rows : List (List HV)} (h : Col fr S c rows) (hf : ∀ k n, c = .sl k n → S'[k]? = S[k]?) : Col fr S' c rows := by
  rcases h with ⟨rfl, rfl⟩ | ⟨q, rfl, h⟩
  · exact .inl ⟨rfl, rfl⟩
  · exact .inr ⟨q, rfl, by rw [hf q _ rfl]; exact h⟩
theorem Col.lt {fr : Bool} {S : St} {c : HV} {rows : List (List HV)} (h : Col fr S c rows) {k n : Nat} (hc : c = .sl k n) : k < S.length := by
  rcases h with ⟨rfl, rfl⟩ | ⟨q, rfl, h⟩
  · cases hc
  · cases hc; exact (List.getElem?_eq_some_iff.1 h).1
theorem Col.app {fr : Bool} {S L : St} {c : HV} {rows : List (List HV)} (h : Col fr S c rows) : Col fr (S ++ L) c rows := h.keep fun k n hc => by rw [List.getElem?_append_left (h.lt hc)]
theorem Col.set {fr : Bool} {S : St} {c : HV} {rows : List (List HV)} {j : Nat} {o : Ob} (h : Col fr S c rows) (hj : ∀ k n, c = .sl k n → k ≠ j) : Col fr (S.set j o) c rows := h.keep fun k n hc => by rw [List.getElem?_set_ne (Ne.symm (hj k n hc))]
/-- The rows of a run. -/
structure Run3 (S : St) (r : Rn) (c1 c2 c3 : HV) : Prop where
  a : Col false S c1 (r.nums.map irow)
  b : Col true S c2 (r.ws.map wrow)
  c : Col true S c3 (r.ss.map wrow)
  ab : Apa c1 c2
  ac : Apa c1 c3
  bc : Apa c2 c3
/-- A row that is the old one, or new. -/
def New (b : Nat) (c c' : HV) : Prop := ∀ k n, c' = .sl k n → (∃ m, c = .sl k m) ∨ b ≤ k
/-- All else is as it was. -/
def Frm (S S' : St) (c1 c2 c3 : HV) : Prop := ∀ j, j < S.length → (∀ n, c1 ≠ .sl j n) → (∀ n, c2 ≠ .sl j n) → (∀ n, c3 ≠ .sl j n) → S'[j]? = S[j]?
theorem new0 {b : Nat} {c : HV} : New b c c := fun k n h => .inl ⟨n, h⟩
def Ran (S : St) (l : Stps) (r : Rn) (c1 c2 c3 v : HV) (S' : St) : Prop := ∃ c2' c3', v = .agg [c1, c2', c3'] ∧ Run3 S' (run l r) c1 c2' c3' ∧ New S.length c2 c2' ∧ New S.length c3 c3' ∧ S.length ≤ S'.length ∧ Frm S S' c1 c2 c3
theorem run_cons (k v : Int) (x : Vl) (h : Int) (t e rest : Stps) (r : Rn) : run (.cons k v x h t e rest) r = run rest (if k = 1 then ⟨r.nums.set v.toNat (valNum x r.nums), r.ws ++ [(v, valNum x r.nums)], r.ss⟩
      else if k = 3 then ⟨r.nums, r.ws, r.ss ++ [(h, nget r.nums v)]⟩ else if nget r.nums v ≠ 0 then run t r else run e r) := rfl
theorem valNum_small {x : Vl} {nums : List Int} (hx : valOk nums.length x = true) (hs : small nums) : 0 ≤ valNum x nums ∧ valNum x nums ≤ 9 := by
  have b1 := small_nget hs x.a
  have b2 := small_nget hs x.b
  simp only [valOk] at hx
  unfold valNum
  split at hx
  · rename_i k1
    simp [inB] at hx
    simp [k1]; omega
  · split at hx
    · rename_i k1 k2
      simp [k2]; omega
    · rename_i k1 k2
      split at hx
      · rename_i k3
        simp only [k1, k2, if_false]
        split
        · constructor
          · exact Int.tmod_nonneg _ (by omega)
          · have := Int.tmod_lt_of_pos (nget nums x.a + nget nums x.b) (show (0:Int) < 10 by omega); omega
        · split <;> omega
      · cases hx
theorem small_set {nums : List Int} (hs : small nums) {j : Nat} {x : Int} (h0 : 0 ≤ x ∧ x ≤ 9) : small (nums.set j x) := by
  intro n hn
  rcases List.mem_or_eq_of_mem_set hn with h | rfl
  · exact hs n h
  · exact h0
/-- What stays so in a run. -/
theorem runs_in : ∀ (l : Stps) (d : Int) (r : Rn), stepsOk r.nums.length l d = true → small r.nums → (run l r).nums.length = r.nums.length ∧ small (run l r).nums ∧ (run l r).ws.length ≤ r.ws.length + l.sz ∧ (run l r).ss.length ≤ r.ss.length + l.sz
  | .nil, _, r, _, hs => ⟨rfl, hs, Nat.le_refl _, Nat.le_refl _⟩
  | .cons k v x h t e rest, d, r, ho, hs => by
    rw [stepsOk_cons, Bool.and_eq_true] at ho
    obtain ⟨h1, h2, _, ⟨h3, h4⟩, _⟩ := stepOk_in ho.1
    rw [run_cons]
    simp only [Stps.sz]
    split
    · rename_i hk
      have := runs_in rest d ⟨r.nums.set v.toNat (valNum x r.nums), r.ws ++ [(v, valNum x r.nums)], r.ss⟩ (by simpa using ho.2) (small_set hs (valNum_small (h2 hk) hs))
      simp at this
      exact ⟨this.1, this.2.1, by omega, by omega⟩
    · split
      · have := runs_in rest d ⟨r.nums, r.ws, r.ss ++ [(h, nget r.nums v)]⟩ ho.2 hs
        simp at this
        exact ⟨this.1, this.2.1, by omega, by omega⟩
      · split
        · have a := runs_in t _ r h3 hs
          have b := runs_in rest d (run t r) (by rw [a.1]; exact ho.2) a.2.1
          exact ⟨by omega, b.2.1, by omega, by omega⟩
        · have a := runs_in e _ r h4 hs
          have b := runs_in rest d (run e r) (by rw [a.1]; exact ho.2) a.2.1
          exact ⟨by omega, b.2.1, by omega, by omega⟩
section
variable {fid : Nat} {T : Tm} {S : St} {K : Tm → St → Prop} {ops : Array Oper} {l : List Oper} {dst : Option Tmp} {ty : TypeId} {pos : String} {after : Array Edge} {g0 : Option (Nat × Bool)} {bs ix : Nat} {es : List (Nat × (Nat → Prop))} {ns : List (Nat × Nat)}
/-- A call that gets its rows as they are, and keeps what it made. -/
theorem kR {f : Operand} {args : Array Operand} {ats : Array TypeId} {g : Nat} {args' : List HV} {R : HV → St → Prop} (hg : wantG ops g0 T = true := by rfl) (hf : ev T f = .fn g [] := by rfl) (hb : Y.byref g = true := by rfl)
    (ha : args.toList.map (ev T) = args' := by rfl) (he : EvR Y g args' S R) (hk : ∀ v S', R v S' → OW Y fid ops none l (put T dst v) S' K) : OW Y fid ops none (⟨dst, .call ⟨.value f, args, ats⟩, ty, pos, after, g0⟩ :: l) T S K := by
  obtain ⟨v, S', h1, h2⟩ := he
  subst ha
  exact k1 hg hf hb (by rw [List.append_nil]) h1 rfl (by rw [fv_eq]; exact hk v S' h2)
end
/-- A return that keeps all, out of a cell. -/
theorem rKeepC {Y : XVai.Sys} {f : Nat} {fn : Func} {T' : Tm} {S S1 : St} {v : HV} (hkp : Y.keep f = true := by rfl) {a : Tmp} {t : TypeId} (hres : fn.results.toList = [.cell a t] := by rfl) {ti : TI} (h1 : Y.tab t = some ti := by rfl) {q n i of' : Nat} {fr : Bool} {rows : List (List HV)} {row : List HV}
    (h2 : T' a = .ptr q n i of' := by rfl) (h3 : S1[q]? = some (.cells fr rows)) (h4 : rows.length = n := by rfl) (h5 : rows[i]? = some row := by rfl) (h6 : XVai.part ti.agg ti.size row of' = some v := by rfl) : RT Y f fn S v S1 .ret T' S1 := by
  have hr : resVs Y T' S1 fn.results.toList = some [v] := by
    rw [hres]
    simp only [resVs, resV, cload, h1, getRow, h2, h3, h4, if_true, h5, Option.map_some, h6]
  exact rKeep hkp hr rfl
theorem Col.cell {fr : Bool} {S : St} {c : HV} {rows : List (List HV)} (h : Col fr S c rows) : isCell c = true := by
  rcases h with ⟨rfl, rfl⟩ | ⟨q, rfl, h⟩ <;> rfl
theorem get_ownL {S1 L : St} {n j : Nat} {o : Ob} (hn : S1.length = n) (h : L[j]? = some o) : (S1 ++ L)[n + j]? = some o := by subst hn; exact get_own h
theorem Col.of {fr : Bool} {S : St} {q n : Nat} {rows : List (List HV)} (h : S[q]? = some (.cells fr rows)) (hn : n = rows.length) : Col fr S (.sl q n) rows := .inr ⟨q, by rw [hn], h⟩
theorem Col.of' {fr : Bool} {S : St} {q n : Nat} {rows rows' : List (List HV)} (h : S[q]? = some (.cells fr rows)) (hr : rows = rows') (hn : n = rows'.length) : Col fr S (.sl q n) rows' := by subst hr; exact .inr ⟨q, by rw [hn], h⟩
theorem Frm.set {S S1 : St} {c1 c2 c3 : HV} {k : Nat} {o : Ob} (h : Frm S S1 c1 c2 c3) (hk : S.length ≤ k ∨ (∃ n, c1 = .sl k n) ∨ (∃ n, c2 = .sl k n) ∨ ∃ n, c3 = .sl k n) : Frm S (S1.set k o) c1 c2 c3 := by
  intro j hj h1 h2 h3
  rw [List.getElem?_set_ne, h j hj h1 h2 h3]
  rintro rfl
  rcases hk with hk | ⟨n, hk⟩ | ⟨n, hk⟩ | ⟨n, hk⟩
  · omega
  · exact h1 n hk
  · exact h2 n hk
  · exact h3 n hk
theorem Frm.app {S S1 L : St} {c1 c2 c3 : HV} (h : Frm S S1 c1 c2 c3) (hl : S.length ≤ S1.length) : Frm S (S1 ++ L) c1 c2 c3 := by
  intro j hj h1 h2 h3
  rw [List.getElem?_append_left (by omega), h j hj h1 h2 h3]
theorem New.own {b s k n : Nat} {c c' : HV} (h : New b c c') (hs : s ≤ b) (hc : c' = .sl k n) : s ≤ k ∨ ∃ n, c = .sl k n := by
  rcases h k n hc with h | h
  · exact .inr h
  · exact .inl (by omega)
theorem Frm.trans {S S1 S2 : St} {c1 c2 c3 e2 e3 : HV} {b : Nat} (h : Frm S S1 c1 c2 c3) (h' : Frm S1 S2 c1 e2 e3) (n2 : New b c2 e2) (n3 : New b c3 e3) (hb : S.length ≤ b) (hl : S.length ≤ S1.length) : Frm S S2 c1 c2 c3 := by
  intro j hj h1 h2 h3
  rw [h' j (by omega) h1 (fun n hc => ?_) (fun n hc => ?_), h j hj h1 h2 h3]
  · rcases n2 j n hc with ⟨m, hm⟩ | hm
    · exact h2 m hm
    · omega
  · rcases n3 j n hc with ⟨m, hm⟩ | hm
    · exact h3 m hm
    · omega
theorem New.to {b k n m : Nat} {c : HV} (h : New b c (.sl k n)) : New b c (.sl k m) := fun k' n' hc => by cases hc; exact h k n rfl
theorem New.nw {b k n : Nat} {c : HV} (h : b ≤ k) : New b c (.sl k n) := fun k' n' hc => by cases hc; exact .inr h
theorem New.trans {b b' : Nat} {c c' c'' : HV} (h : New b c c') (h' : New b' c' c'') (hb : b ≤ b') : New b c c'' := fun k n hc => by
  rcases h' k n hc with ⟨m, hm⟩ | hm
  · exact h k m hm
  · exact .inr (by omega)
theorem apaS {q n : Nat} {b : HV} (h : ∀ k m, b = .sl k m → k ≠ q) : Apa (.sl q n) b := fun k m k' m' h1 h2 e => by cases h1; exact h k' m' h2 e.symm
theorem k_spec_l3Do (n : Nat) : ∀ (l : Stps) (d : Int) (r : Rn) (m1 m2 m3 : HV) (S : St), l.sz ≤ n → l.sz ≤ 1000 → stepsOk r.nums.length l d = true → small r.nums → r.nums.length ≤ 1000 → r.ws.length + l.sz ≤ 100000 → r.ss.length + l.sz ≤ 100000 → Run3 S r m1 m2 m3 →
    EvR Y spec_l3Do [.lst l.rows, .agg [m1, m2, m3]] S (Ran S l r m1 m2 m3) := by
  induction n using Nat.strongRecOn with
  | _ n ih =>
    intro l d r m1 m2 m3 S h hb ho hs hn hw hv h3
    refine E_startR (h := ?_)
    repeat' (first | refine c0 ?_ | refine c1 ?_ | refine c2 ?_ | refine c3 ?_ | refine c4 ?_ | refine c5 ?_ | refine c6 (h := ?_) | refine c7 ?_ | refine d2 ?_ | refine c8 ?_ | refine c9 ?_ | refine d0 ?_ | refine d1 ?_ | refine d4 ?_ | refine a0 (hk := ?_) | refine b0 (hk := ?_) | refine b1 (hk := ?_) | refine b2 (hk := ?_) | refine b3 (hk := ?_) | refine b4 (hk := ?_) | refine p1 (hk := ?_) | refine g0' (hk := ?_) | refine a1 (hk := ?_) | refine a2 (hk := ?_) | refine u1 (hk := ?_) | refine u2 (hk := ?_) | refine u3 (hk := ?_) | refine u4 (hk := ?_) | refine a3 (ht := ?_) (hf := ?_) | refine a4 (ht := ?_) (hf := ?_) | refine a5 (hk := ?_) | refine b5 (hk := ?_) | refine b6 (hk := ?_) | refine b8 (hk := ?_) | refine b9 (hk := ?_) | refine b7 (hk := ?_) | refine p0 (hk := ?_) | refine g1 (hw := ?_) | refine g2 (hw := ?_) | refine g3 (hw := ?_) | refine g4 (hw := ?_) | (with_reducible intro hc) | refine d6 (ht := ?_) | refine d7 (hf := ?_) | refine u5 (hk := ?_) | refine u6 (hk := ?_) | refine u7 (hk := ?_) | refine u8 (hk := ?_) | refine d8 (ht := ?_) (hf := ?_) | refine d9 (ht := ?_) (hf := ?_))
    have hlt := fun k n (hc : m1 = .sl k n) => h3.a.lt hc
    have hlt2 := fun k n (hc : m2 = .sl k n) => h3.b.lt hc
    have hlt3 := fun k n (hc : m3 = .sl k n) => h3.c.lt hc
    refine C_stps l (fun pre rest T' S' => ∃ (T0 : Tm) (S1 : St) (r1 : Rn) (y2 y3 : HV) (z : List HV), run l r = run rest r1 ∧ stepsOk r1.nums.length rest d = true ∧ small r1.nums ∧ r1.nums.length ≤ 1000 ∧ r1.ws.length + rest.sz ≤ 100000 ∧ r1.ss.length + rest.sz ≤ 100000 ∧ z.length = 3 ∧
        Run3 S1 r1 m1 y2 y3 ∧ New (S.length + 2) m2 y2 ∧ New (S.length + 2) m3 y3 ∧ S.length + 2 ≤ S1.length ∧ Frm S S1 m1 m2 m3 ∧ S1[S.length + 0]? = some (.cells false [[m1, y2, y3]]) ∧ S1[S.length + 1]? = some (.cells false [z]) ∧
        T' = putL T0 [(0, .lst l.rows), (3, .ptr (S.length + 0) 1 0 0), (4, .ptr (S.length + 1) 1 0 0), (5, I pre.length)] ∧ S' = S1 ++ [])
      ⟨_, _, r, m2, m3, _, rfl, ho, hs, hn, hw, hv, rfl, ⟨h3.a.app, h3.b.app, h3.c.app, h3.ab, h3.ac, h3.bc⟩, new0, new0, by simp, fun j hj _ _ _ => by rw [List.getElem?_append_left hj], get_own rfl, get_own rfl, at_mk ⟨rfl, rfl, rfl, rfl, trivial⟩, (List.append_nil _).symm⟩ ?_ ?_
    · rintro pre k v x hh t e rest T' S' hl hz ⟨T0, S1, r1, y2, y3, z, hq, ho, hs, hn, hw, hv, hz3, h3, n2, n3, hle, hF, fB, fR, rfl, rfl⟩
      have hg := mid hl
      have hp := mid_lt hl
      have := l.rows_len
      have := l.len_sz
      have hlt' : (pre.length : Int) < (l.rows.length : Int) := by omega
      have i1 := h3.a.cell
      have i2 := h3.b.cell
      have i3 := h3.c.cell
      rw [stepsOk_cons, Bool.and_eq_true] at ho
      obtain ⟨hv1, hv2, _, ⟨ht, he⟩, _⟩ := stepOk_in ho.1
      obtain ⟨j, rfl, hj⟩ := vOk_nat hv1
      obtain ⟨q1, rfl, fN⟩ : ∃ q1, m1 = .sl q1 r1.nums.length ∧ S1[q1]? = some (.cells false (r1.nums.map irow)) := by
        rcases h3.a with ⟨_, h0⟩ | ⟨q, h0, h1⟩
        · simp at h0; simp [h0] at hj
        · exact ⟨q, by simpa using h0, h1⟩
      have hlN : (r1.nums.map irow).length = r1.nums.length := by simp
      have hgj := map_get (f := irow) (nget_at hj)
      have hq1 := hlt q1 _ rfl
      have hB1 : S.length + 0 ≠ q1 := by omega
      have hR1 : S.length + 1 ≠ q1 := by omega
      have lw : (r1.ws.map wrow).length = r1.ws.length := by simp
      have lv : (r1.ss.map wrow).length = r1.ss.length := by simp
      have w2 := wrow2 r1.ws
      have w3 := wrow2 r1.ss
      simp only [Stps.sz] at hw hv
      have g2 : ∀ k n, y2 = .sl k n → k ≠ S.length + 0 ∧ k ≠ S.length + 1 := fun k n hc => by
        rcases n2 k n hc with ⟨m, hm⟩ | hm
        · have := hlt2 k m hm; omega
        · omega
      have g3 : ∀ k n, y3 = .sl k n → k ≠ S.length + 0 ∧ k ≠ S.length + 1 := fun k n hc => by
        rcases n3 k n hc with ⟨m, hm⟩ | hm
        · have := hlt3 k m hm; omega
        · omega
      have x2 : ∀ k n, y2 = .sl k n → k ≠ q1 := fun k n hc e => h3.ab _ _ _ _ rfl hc e.symm
      have x3 : ∀ k n, y3 = .sl k n → k ≠ q1 := fun k n hc e => h3.ac _ _ _ _ rfl hc e.symm
      have u2 : ∀ k n, y2 = .sl k n → k < S1.length := fun k n hc => h3.b.lt hc
      have u3 : ∀ k n, y3 = .sl k n → k < S1.length := fun k n hc => h3.c.lt hc
      have hB2 : S.length + 0 ≠ S.length + 1 := by omega
      by_cases k1 : k = 1
      · subst k1
        repeat' (first | refine c0 ?_ | refine c1 ?_ | refine c2 ?_ | refine c3 ?_ | refine c4 ?_ | refine c5 ?_ | refine c6 (h := ?_) | refine c7 ?_ | refine d2 ?_ | refine c8 ?_ | refine c9 ?_ | refine d0 ?_ | refine d1 ?_ | refine d4 ?_ | refine a0 (hk := ?_) | refine k0 (he := (by first | exact k_spec_l3Num _ _ _ _ _ (hv2 rfl) hs (get_old fN))) (hk := ?_) | refine k1 (he := (by first | exact k_spec_l3Num _ _ _ _ _ (hv2 rfl) hs (get_old fN))) (hk := ?_) | refine b0 (hk := ?_) | refine b1 (hk := ?_) | refine b2 (hk := ?_) | refine b3 (hk := ?_) | refine b4 (hk := ?_) | refine p1 (hk := ?_) | refine g0' (hk := ?_) | refine a1 (hk := ?_) | refine a2 (hk := ?_) | refine u1 (hk := ?_) | refine u2 (hk := ?_) | refine u3 (hk := ?_) | refine u4 (hk := ?_) | refine a3 (ht := ?_) (hf := ?_) | refine a4 (ht := ?_) (hf := ?_) | refine a5 (hk := ?_) | refine b5 (hk := ?_) | refine b6 (hk := ?_) | refine b8 (hk := ?_) | refine b9 (hk := ?_) | refine b7 (hk := ?_) | refine p0 (hk := ?_) | refine g1 (hw := ?_) | refine g2 (hw := ?_) | refine g3 (hw := ?_) | refine g4 (hw := ?_) | (with_reducible intro hc) | refine d6 (ht := ?_) | refine d7 (hf := ?_) | refine u5 (hk := ?_) | refine u6 (hk := ?_) | refine u7 (hk := ?_) | refine u8 (hk := ?_) | refine d8 (ht := ?_) (hf := ?_) | refine d9 (ht := ?_) (hf := ?_))
        have hq' : run l r = run rest ⟨r1.nums.set j (valNum x r1.nums), r1.ws ++ [((j : Int), valNum x r1.nums)], r1.ss⟩ := by rw [hq, run_cons, if_pos rfl, Int.toNat_natCast]
        have ho' : stepsOk (r1.nums.set j (valNum x r1.nums)).length rest d = true := by rw [List.length_set]; exact ho.2
        have hs' := small_set (j := j) hs (valNum_small (hv2 rfl) hs)
        have hn' : (r1.nums.set j (valNum x r1.nums)).length ≤ 1000 := by rw [List.length_set]; exact hn
        have hw' : (r1.ws ++ [((j : Int), valNum x r1.nums)]).length + rest.sz ≤ 100000 := by rw [List.length_append]; simp; omega
        have hnm : (r1.nums.map irow).set j (irow (valNum x r1.nums)) = (r1.nums.set j (valNum x r1.nums)).map irow := by rw [List.map_set]
        rcases h3.b with ⟨rfl, hw0⟩ | ⟨q2, rfl, fW⟩
        · repeat' (first | refine c0 ?_ | refine c1 ?_ | refine c2 ?_ | refine c3 ?_ | refine c4 ?_ | refine c5 ?_ | refine c6 (h := ?_) | refine c7 ?_ | refine d2 ?_ | refine c8 ?_ | refine c9 ?_ | refine d0 ?_ | refine d1 ?_ | refine d4 ?_ | refine a0 (hk := ?_) | refine b0 (hk := ?_) | refine b1 (hk := ?_) | refine b2 (hk := ?_) | refine b3 (hk := ?_) | refine b4 (hk := ?_) | refine p1 (hk := ?_) | refine g0' (hk := ?_) | refine a1 (hk := ?_) | refine a2 (hk := ?_) | refine u1 (hk := ?_) | refine u2 (hk := ?_) | refine u3 (hk := ?_) | refine u4 (hk := ?_) | refine a3 (ht := ?_) (hf := ?_) | refine a4 (ht := ?_) (hf := ?_) | refine a5 (hk := ?_) | refine b5 (hk := ?_) | refine b6 (hk := ?_) | refine b8 (hk := ?_) | refine b9 (hk := ?_) | refine b7 (hk := ?_) | refine p0 (hk := ?_) | refine g1 (hw := ?_) | refine g2 (hw := ?_) | refine g3 (hw := ?_) | refine g4 (hw := ?_) | (with_reducible intro hc) | refine d6 (ht := ?_) | refine d7 (hf := ?_) | refine u5 (hk := ?_) | refine u6 (hk := ?_) | refine u7 (hk := ?_) | refine u8 (hk := ?_) | refine d8 (ht := ?_) (hf := ?_) | refine d9 (ht := ?_) (hf := ?_))
          refine ⟨_, _, _, .sl (S1.length + 1) 1, y3, z, hq', ho', hs', hn', hw', ?_, hz3, ?_, ?_, n3, ?_, ?_, ?_, ?_, at_mk ⟨rfl, rfl, rfl, inc (by omega), trivial⟩, (List.append_nil _).symm⟩
          · simp only; omega
          · exact ⟨Col.of' (get_old (setN (Ne.symm hB1) (setE fN))) hnm (by simp), Col.of' (get_ownL (by simp) rfl) (by simp at hw0; rw [hw0]; rfl) (by simp at hw0; simp [hw0]), ((h3.c.set x3).set fun k n hc => (g3 k n hc).1).app, apaS fun k n hc => by cases hc; have := (List.getElem?_eq_some_iff.1 fN).1; omega, h3.ac, apaS fun k n hc => by have := u3 k n hc; omega⟩
          · exact New.nw (by omega)
          · simp; omega
          · exact ((hF.set (.inr (.inl ⟨_, rfl⟩))).set (.inl (by omega))).app (by simp; omega)
          · rw [get_old (setE (setN hB1 fB))]; show some (Ob.cells false [[_, .sl ((List.set S1 q1 _).length + 1) 1, y3]]) = _; rw [List.length_set]
          · exact get_old (setN (by omega) (setN hR1 fR))
        · have h12 : q2 ≠ q1 := x2 _ _ rfl
          have hgq := (g2 _ _ rfl).1
          have hgr := (g2 _ _ rfl).2
          repeat' (first | refine c0 ?_ | refine c1 ?_ | refine c2 ?_ | refine c3 ?_ | refine c4 ?_ | refine c5 ?_ | refine c6 (h := ?_) | refine c7 ?_ | refine d2 ?_ | refine c8 ?_ | refine c9 ?_ | refine d0 ?_ | refine d1 ?_ | refine d4 ?_ | refine a0 (hk := ?_) | refine b0 (hk := ?_) | refine b1 (hk := ?_) | refine b2 (hk := ?_) | refine b3 (hk := ?_) | refine b4 (hk := ?_) | refine p1 (hk := ?_) | refine g0' (hk := ?_) | refine a1 (hk := ?_) | refine a2 (hk := ?_) | refine u1 (hk := ?_) | refine u2 (hk := ?_) | refine u3 (hk := ?_) | refine u4 (hk := ?_) | refine a3 (ht := ?_) (hf := ?_) | refine a4 (ht := ?_) (hf := ?_) | refine a5 (hk := ?_) | refine b5 (hk := ?_) | refine b6 (hk := ?_) | refine b8 (hk := ?_) | refine b9 (hk := ?_) | refine b7 (hk := ?_) | refine p0 (hk := ?_) | refine g1 (hw := ?_) | refine g2 (hw := ?_) | refine g3 (hw := ?_) | refine g4 (hw := ?_) | (with_reducible intro hc) | refine d6 (ht := ?_) | refine d7 (hf := ?_) | refine u5 (hk := ?_) | refine u6 (hk := ?_) | refine u7 (hk := ?_) | refine u8 (hk := ?_) | refine d8 (ht := ?_) (hf := ?_) | refine d9 (ht := ?_) (hf := ?_))
          refine b7 (h3 := get_old (setN (Ne.symm hgq) (setN hB1 fB))) (h10 := set_old (setN (Ne.symm hgq) (setN hB1 fB))) (hk := ?_)
          repeat' (first | refine c0 ?_ | refine c1 ?_ | refine c2 ?_ | refine c3 ?_ | refine c4 ?_ | refine c5 ?_ | refine c6 (h := ?_) | refine c7 ?_ | refine d2 ?_ | refine c8 ?_ | refine c9 ?_ | refine d0 ?_ | refine d1 ?_ | refine d4 ?_ | refine a0 (hk := ?_) | refine b0 (hk := ?_) | refine b1 (hk := ?_) | refine b2 (hk := ?_) | refine b3 (hk := ?_) | refine b4 (hk := ?_) | refine p1 (hk := ?_) | refine g0' (hk := ?_) | refine a1 (hk := ?_) | refine a2 (hk := ?_) | refine u1 (hk := ?_) | refine u2 (hk := ?_) | refine u3 (hk := ?_) | refine u4 (hk := ?_) | refine a3 (ht := ?_) (hf := ?_) | refine a4 (ht := ?_) (hf := ?_) | refine a5 (hk := ?_) | refine b5 (hk := ?_) | refine b6 (hk := ?_) | refine b8 (hk := ?_) | refine b9 (hk := ?_) | refine b7 (hk := ?_) | refine p0 (hk := ?_) | refine g1 (hw := ?_) | refine g2 (hw := ?_) | refine g3 (hw := ?_) | refine g4 (hw := ?_) | (with_reducible intro hc) | refine d6 (ht := ?_) | refine d7 (hf := ?_) | refine u5 (hk := ?_) | refine u6 (hk := ?_) | refine u7 (hk := ?_) | refine u8 (hk := ?_) | refine d8 (ht := ?_) (hf := ?_) | refine d9 (ht := ?_) (hf := ?_))
          refine ⟨_, _, _, .sl q2 ((r1.ws.map wrow).length + 1), y3, z, hq', ho', hs', hn', hw', ?_, hz3, ?_, n2.to, n3, ?_, ?_, ?_, ?_, at_mk ⟨rfl, rfl, rfl, inc (by omega), trivial⟩, (List.append_nil _).symm⟩
          · simp only; omega
          · exact ⟨Col.of' (get_old (setN (Ne.symm hB1) (setN (Ne.symm h12) (setE fN)))) hnm (by simp), Col.of' (get_old (setN hgq (setE (setN h12 fW)))) (by rw [List.map_append]; rfl) (by simp), (((h3.c.set x3).set fun k n hc => (fun e => h3.bc _ _ _ _ rfl hc e.symm)).set fun k n hc => (g3 k n hc).1).app, apaS fun k n hc => by cases hc; exact h12, h3.ac, apaS fun k n hc => (fun e => h3.bc _ _ _ _ rfl hc e.symm)⟩
          · simp; omega
          · exact (((hF.set (.inr (.inl ⟨_, rfl⟩))).set ((n2.own (by omega) rfl).imp id fun h => .inr (.inl h))).set (.inl (by omega))).app (by simp; omega)
          · exact get_old (setE (setN (Ne.symm hgq) (setN hB1 fB)))
          · exact get_old (setN (by omega) (setN (Ne.symm hgr) (setN hR1 fR)))
      by_cases k3 : k = 3
      · subst k3
        have hq' : run l r = run rest ⟨r1.nums, r1.ws, r1.ss ++ [(hh, nget r1.nums (j : Int))]⟩ := by rw [hq, run_cons, if_neg (by omega), if_pos rfl]
        have hw' : (r1.ss ++ [(hh, nget r1.nums (j : Int))]).length + rest.sz ≤ 100000 := by rw [List.length_append]; simp; omega
        repeat' (first | refine c0 ?_ | refine c1 ?_ | refine c2 ?_ | refine c3 ?_ | refine c4 ?_ | refine c5 ?_ | refine c6 (h := ?_) | refine c7 ?_ | refine d2 ?_ | refine c8 ?_ | refine c9 ?_ | refine d0 ?_ | refine d1 ?_ | refine d4 ?_ | refine d3' (h := ?_) | refine d4' ?_ | refine a0 (hk := ?_) | refine b0 (hk := ?_) | refine b1 (hk := ?_) | refine b2 (hk := ?_) | refine b3 (hk := ?_) | refine b4 (hk := ?_) | refine p1 (hk := ?_) | refine g0' (hk := ?_) | refine a1 (hk := ?_) | refine a2 (hk := ?_) | refine u1 (hk := ?_) | refine u2 (hk := ?_) | refine u3 (hk := ?_) | refine u4 (hk := ?_) | refine a3 (ht := ?_) (hf := ?_) | refine a4 (ht := ?_) (hf := ?_) | refine a5 (hk := ?_) | refine b5 (hk := ?_) | refine b6 (hk := ?_) | refine b8 (hk := ?_) | refine b9 (hk := ?_) | refine b7 (hk := ?_) | refine p0 (hk := ?_) | refine g1 (hw := ?_) | refine g2 (hw := ?_) | refine g3 (hw := ?_) | refine g4 (hw := ?_) | refine e0' (hk := ?_) | refine b0' (hk := ?_) | refine b1' (hk := ?_) | refine p1' (hk := ?_) | refine e1' (hk := ?_) | refine e2' (hk := ?_) | refine u1' (hk := ?_) | refine u2' (hk := ?_) | refine u3' (hk := ?_) | refine u4' (hk := ?_) | refine e3' (ht := ?_) (hf := ?_) | refine e4' (ht := ?_) (hf := ?_) | refine b4' (hk := ?_) | refine b7b (hk := ?_) | refine e5' (hk := ?_) | refine f5' (hk := ?_) | refine f6' (hk := ?_) | refine f8' (hk := ?_) | refine f9' (hk := ?_) | refine b7' (hk := ?_) | refine p0' (hk := ?_) | refine h1'' (hw := ?_) | refine h2'' (hw := ?_) | refine h3'' (hw := ?_) | refine h4'' (hw := ?_) | (with_reducible intro hc) | refine d6 (ht := ?_) | refine d7 (hf := ?_) | refine u5 (hk := ?_) | refine u6 (hk := ?_) | refine u7 (hk := ?_) | refine u8 (hk := ?_) | refine d8 (ht := ?_) (hf := ?_) | refine d9 (ht := ?_) (hf := ?_))
        rcases h3.c with ⟨rfl, hw0⟩ | ⟨q3, rfl, fV⟩
        · repeat' (first | refine c0 ?_ | refine c1 ?_ | refine c2 ?_ | refine c3 ?_ | refine c4 ?_ | refine c5 ?_ | refine c6 (h := ?_) | refine c7 ?_ | refine d2 ?_ | refine c8 ?_ | refine c9 ?_ | refine d0 ?_ | refine d1 ?_ | refine d4 ?_ | refine d3' (h := ?_) | refine d4' ?_ | refine a0 (hk := ?_) | refine b0 (hk := ?_) | refine b1 (hk := ?_) | refine b2 (hk := ?_) | refine b3 (hk := ?_) | refine b4 (hk := ?_) | refine p1 (hk := ?_) | refine g0' (hk := ?_) | refine a1 (hk := ?_) | refine a2 (hk := ?_) | refine u1 (hk := ?_) | refine u2 (hk := ?_) | refine u3 (hk := ?_) | refine u4 (hk := ?_) | refine a3 (ht := ?_) (hf := ?_) | refine a4 (ht := ?_) (hf := ?_) | refine a5 (hk := ?_) | refine b5 (hk := ?_) | refine b6 (hk := ?_) | refine b8 (hk := ?_) | refine b9 (hk := ?_) | refine b7 (hk := ?_) | refine p0 (hk := ?_) | refine g1 (hw := ?_) | refine g2 (hw := ?_) | refine g3 (hw := ?_) | refine g4 (hw := ?_) | refine e0' (hk := ?_) | refine b0' (hk := ?_) | refine b1' (hk := ?_) | refine p1' (hk := ?_) | refine e1' (hk := ?_) | refine e2' (hk := ?_) | refine u1' (hk := ?_) | refine u2' (hk := ?_) | refine u3' (hk := ?_) | refine u4' (hk := ?_) | refine e3' (ht := ?_) (hf := ?_) | refine e4' (ht := ?_) (hf := ?_) | refine b4' (hk := ?_) | refine b7b (hk := ?_) | refine e5' (hk := ?_) | refine f5' (hk := ?_) | refine f6' (hk := ?_) | refine f8' (hk := ?_) | refine f9' (hk := ?_) | refine b7' (hk := ?_) | refine p0' (hk := ?_) | refine h1'' (hw := ?_) | refine h2'' (hw := ?_) | refine h3'' (hw := ?_) | refine h4'' (hw := ?_) | (with_reducible intro hc) | refine d6 (ht := ?_) | refine d7 (hf := ?_) | refine u5 (hk := ?_) | refine u6 (hk := ?_) | refine u7 (hk := ?_) | refine u8 (hk := ?_) | refine d8 (ht := ?_) (hf := ?_) | refine d9 (ht := ?_) (hf := ?_))
          refine ⟨_, _, _, y2, .sl (S1.length + 13) 1, z, hq', ho.2, hs, hn, ?_, hw', hz3, ?_, n2, ?_, ?_, ?_, ?_, ?_, at_mk ⟨rfl, rfl, rfl, inc (by omega), trivial⟩, (List.append_nil _).symm⟩
          · simp only; omega
          · exact ⟨(h3.a.set fun k n hc => by cases hc; omega).app, (h3.b.set fun k n hc => (g2 k n hc).1).app, Col.of' (get_ownL (by simp) rfl) (by simp at hw0; rw [hw0]; rfl) (by simp at hw0; simp [hw0]), h3.ab, apaS fun k n hc => by cases hc; have := (List.getElem?_eq_some_iff.1 fN).1; omega, Apa.symm (apaS fun k n hc => by have := u2 k n hc; omega)⟩
          · exact New.nw (by omega)
          · simp; omega
          · exact (hF.set (.inl (by omega))).app (by simp; omega)
          · exact get_old (setE fB)
          · exact get_old (setN (by omega) fR)
        · have h13 : q3 ≠ q1 := x3 _ _ rfl
          have hgq := (g3 _ _ rfl).1
          have hgr := (g3 _ _ rfl).2
          have hgq' := Ne.symm hgq
          repeat' (first | refine c0 ?_ | refine c1 ?_ | refine c2 ?_ | refine c3 ?_ | refine c4 ?_ | refine c5 ?_ | refine c6 (h := ?_) | refine c7 ?_ | refine d2 ?_ | refine c8 ?_ | refine c9 ?_ | refine d0 ?_ | refine d1 ?_ | refine d4 ?_ | refine d3' (h := ?_) | refine d4' ?_ | refine a0 (hk := ?_) | refine b0 (hk := ?_) | refine b1 (hk := ?_) | refine b2 (hk := ?_) | refine b3 (hk := ?_) | refine b4 (hk := ?_) | refine p1 (hk := ?_) | refine g0' (hk := ?_) | refine a1 (hk := ?_) | refine a2 (hk := ?_) | refine u1 (hk := ?_) | refine u2 (hk := ?_) | refine u3 (hk := ?_) | refine u4 (hk := ?_) | refine a3 (ht := ?_) (hf := ?_) | refine a4 (ht := ?_) (hf := ?_) | refine a5 (hk := ?_) | refine b5 (hk := ?_) | refine b6 (hk := ?_) | refine b8 (hk := ?_) | refine b9 (hk := ?_) | refine b7 (hk := ?_) | refine p0 (hk := ?_) | refine g1 (hw := ?_) | refine g2 (hw := ?_) | refine g3 (hw := ?_) | refine g4 (hw := ?_) | refine e0' (hk := ?_) | refine b0' (hk := ?_) | refine b1' (hk := ?_) | refine p1' (hk := ?_) | refine e1' (hk := ?_) | refine e2' (hk := ?_) | refine u1' (hk := ?_) | refine u2' (hk := ?_) | refine u3' (hk := ?_) | refine u4' (hk := ?_) | refine e3' (ht := ?_) (hf := ?_) | refine e4' (ht := ?_) (hf := ?_) | refine b4' (hk := ?_) | refine b7b (hk := ?_) | refine e5' (hk := ?_) | refine f5' (hk := ?_) | refine f6' (hk := ?_) | refine f8' (hk := ?_) | refine f9' (hk := ?_) | refine b7' (hk := ?_) | refine p0' (hk := ?_) | refine h1'' (hw := ?_) | refine h2'' (hw := ?_) | refine h3'' (hw := ?_) | refine h4'' (hw := ?_) | (with_reducible intro hc) | refine d6 (ht := ?_) | refine d7 (hf := ?_) | refine u5 (hk := ?_) | refine u6 (hk := ?_) | refine u7 (hk := ?_) | refine u8 (hk := ?_) | refine d8 (ht := ?_) (hf := ?_) | refine d9 (ht := ?_) (hf := ?_))
          refine ⟨_, _, _, y2, .sl q3 ((r1.ss.map wrow).length + 1), z, hq', ho.2, hs, hn, ?_, hw', hz3, ?_, n2, n3.to, ?_, ?_, ?_, ?_, at_mk ⟨rfl, rfl, rfl, inc (by omega), trivial⟩, (List.append_nil _).symm⟩
          · simp only; omega
          · exact ⟨((h3.a.set fun k n hc => by cases hc; exact Ne.symm h13).set fun k n hc => by cases hc; omega).app, ((h3.b.set fun k n hc => (fun e => h3.bc _ _ _ _ hc rfl e)).set fun k n hc => (g2 k n hc).1).app, Col.of' (get_old (setN hgq (setE fV))) (by rw [List.map_append]; rfl) (by simp), h3.ab, apaS fun k n hc => by cases hc; exact h13, Apa.symm (apaS fun k n hc => (fun e => h3.bc _ _ _ _ hc rfl e))⟩
          · simp; omega
          · exact ((hF.set ((n3.own (by omega) rfl).imp id fun h => .inr (.inr h))).set (.inl (by omega))).app (by simp; omega)
          · rw [get_old (setE (setN hgq' fB))]; rfl
          · exact get_old (setN (by omega) (setN (Ne.symm hgr) fR))
      have e1 : (k == 1) = false := by simpa using k1
      have e3 : (k == 3) = false := by simpa using k3
      repeat' (first | refine c0 ?_ | refine c1 ?_ | refine c2 ?_ | refine c3 ?_ | refine c4 ?_ | refine c5 ?_ | refine c6 (h := ?_) | refine c7 ?_ | refine d2 ?_ | refine c8 ?_ | refine c9 ?_ | refine d0 ?_ | refine d1 ?_ | refine d4 ?_ | refine d3' (h := ?_) | refine d4' ?_ | refine a0 (hk := ?_) | refine b0 (hk := ?_) | refine b1 (hk := ?_) | refine b2 (hk := ?_) | refine b3 (hk := ?_) | refine b4 (hk := ?_) | refine p1 (hk := ?_) | refine g0' (hk := ?_) | refine a1 (hk := ?_) | refine a2 (hk := ?_) | refine u1 (hk := ?_) | refine u2 (hk := ?_) | refine u3 (hk := ?_) | refine u4 (hk := ?_) | refine a3 (ht := ?_) (hf := ?_) | refine a4 (ht := ?_) (hf := ?_) | refine a5 (hk := ?_) | refine b5 (hk := ?_) | refine b6 (hk := ?_) | refine b8 (hk := ?_) | refine b9 (hk := ?_) | refine b7 (hk := ?_) | refine p0 (hk := ?_) | refine g1 (hw := ?_) | refine g2 (hw := ?_) | refine g3 (hw := ?_) | refine g4 (hw := ?_) | refine e0' (hk := ?_) | refine b0' (hk := ?_) | refine b1' (hk := ?_) | refine p1' (hk := ?_) | refine e1' (hk := ?_) | refine e2' (hk := ?_) | refine u1' (hk := ?_) | refine u2' (hk := ?_) | refine u3' (hk := ?_) | refine u4' (hk := ?_) | refine e3' (ht := ?_) (hf := ?_) | refine e4' (ht := ?_) (hf := ?_) | refine b4' (hk := ?_) | refine b7b (hk := ?_) | refine e5' (hk := ?_) | refine f5' (hk := ?_) | refine f6' (hk := ?_) | refine f8' (hk := ?_) | refine f9' (hk := ?_) | refine b7' (hk := ?_) | refine p0' (hk := ?_) | refine h1'' (hw := ?_) | refine h2'' (hw := ?_) | refine h3'' (hw := ?_) | refine h4'' (hw := ?_) | (with_reducible intro hc) | refine d6 (ht := ?_) | refine d7 (hf := ?_) | refine u5 (hk := ?_) | refine u6 (hk := ?_) | refine u7 (hk := ?_) | refine u8 (hk := ?_) | refine d8 (ht := ?_) (hf := ?_) | refine d9 (ht := ?_) (hf := ?_))
      · refine kR (he := ih t.sz (by omega) t (d - 1) r1 _ _ _ _ (Nat.le_refl _) (by omega) ht hs hn (by omega) (by omega) ⟨h3.a.app, h3.b.app, h3.c.app, h3.ab, h3.ac, h3.bc⟩) (hk := ?_)
        rintro v S2 ⟨y2', y3', rfl, h3', n2', n3', hle', hF'⟩
        simp at hle'
        have o1 : ∀ n, HV.sl q1 r1.nums.length ≠ .sl (S.length + 0) n := fun n e => by cases e; omega
        have o1' : ∀ n, HV.sl q1 r1.nums.length ≠ .sl (S.length + 1) n := fun n e => by cases e; omega
        have fB' : S2[S.length + 0]? = some (.cells false [[.sl q1 r1.nums.length, y2, y3]]) := by
          rw [hF' _ (by simp; omega) o1 (fun n e => (g2 _ _ e).1 rfl) (fun n e => (g3 _ _ e).1 rfl)]
          exact get_old fB
        have fR' : S2[S.length + 1]? = some (.cells false [z]) := by
          rw [hF' _ (by simp; omega) o1' (fun n e => (g2 _ _ e).2 rfl) (fun n e => (g3 _ _ e).2 rfl)]
          exact get_old fR
        have i2' := h3'.b.cell
        have i3' := h3'.c.cell
        have hri := runs_in t (d - 1) r1 ht hs
        rw [← List.append_nil S2]
        refine b7 (h3 := get_old fB') (h9 := by show [HV.sl q1 r1.nums.length, y2', y3'].all isCell = true; simp only [List.all_cons, i2', i3']; rfl) (h10 := set_old fB') (hk := ?_)
        repeat' (first | refine c0 ?_ | refine c1 ?_ | refine c2 ?_ | refine c3 ?_ | refine c4 ?_ | refine c5 ?_ | refine c6 (h := ?_) | refine c7 ?_ | refine d2 ?_ | refine c8 ?_ | refine c9 ?_ | refine d0 ?_ | refine d1 ?_ | refine d4 ?_ | refine a0 (hk := ?_) | refine b0 (hk := ?_) | refine b1 (hk := ?_) | refine b2 (hk := ?_) | refine b3 (hk := ?_) | refine b4 (hk := ?_) | refine p1 (hk := ?_) | refine g0' (hk := ?_) | refine a1 (hk := ?_) | refine a2 (hk := ?_) | refine u1 (hk := ?_) | refine u2 (hk := ?_) | refine u3 (hk := ?_) | refine u4 (hk := ?_) | refine a3 (ht := ?_) (hf := ?_) | refine a4 (ht := ?_) (hf := ?_) | refine a5 (hk := ?_) | refine b5 (hk := ?_) | refine b6 (hk := ?_) | refine b8 (hk := ?_) | refine b9 (hk := ?_) | refine b7 (hk := ?_) | refine p0 (hk := ?_) | refine g1 (hw := ?_) | refine g2 (hw := ?_) | refine g3 (hw := ?_) | refine g4 (hw := ?_) | (with_reducible intro hc) | refine d6 (ht := ?_) | refine d7 (hf := ?_) | refine u5 (hk := ?_) | refine u6 (hk := ?_) | refine u7 (hk := ?_) | refine u8 (hk := ?_) | refine d8 (ht := ?_) (hf := ?_) | refine d9 (ht := ?_) (hf := ?_))
        refine ⟨_, _, run t r1, y2', y3', z, ?_, by rw [hri.1]; exact ho.2, hri.2.1, by rw [hri.1]; exact hn, by omega, by omega, hz3, ?_, n2.trans n2' (by simp; omega), n3.trans n3' (by simp; omega), by simp; omega, ?_, get_old (setE fB'), get_old (setN (by omega) fR'), at_mk ⟨rfl, rfl, rfl, inc (by omega), trivial⟩, (List.append_nil _).symm⟩
        · simp at hc
          rw [hq, run_cons, if_neg k1, if_neg k3, if_pos hc]
        · refine ⟨(h3'.a.set fun k n hc => by cases hc; omega).app, (h3'.b.set fun k n hc => ?_).app, (h3'.c.set fun k n hc => ?_).app, h3'.ab, h3'.ac, h3'.bc⟩
          · rcases n2' k n hc with ⟨m, hm⟩ | hm
            · exact (g2 _ _ hm).1
            · simp at hm; omega
          · rcases n3' k n hc with ⟨m, hm⟩ | hm
            · exact (g3 _ _ hm).1
            · simp at hm; omega
        · exact (((hF.app (by omega)).trans hF' n2 n3 (by omega) (by simp; omega)).set (.inl (by omega))).app (by simp; omega)
      · refine kR (he := ih e.sz (by omega) e (d - 1) r1 _ _ _ _ (Nat.le_refl _) (by omega) he hs hn (by omega) (by omega) ⟨h3.a.app, h3.b.app, h3.c.app, h3.ab, h3.ac, h3.bc⟩) (hk := ?_)
        rintro v S2 ⟨y2', y3', rfl, h3', n2', n3', hle', hF'⟩
        simp at hle'
        have o1 : ∀ n, HV.sl q1 r1.nums.length ≠ .sl (S.length + 0) n := fun n e => by cases e; omega
        have o1' : ∀ n, HV.sl q1 r1.nums.length ≠ .sl (S.length + 1) n := fun n e => by cases e; omega
        have fB' : S2[S.length + 0]? = some (.cells false [[.sl q1 r1.nums.length, y2, y3]]) := by
          rw [hF' _ (by simp; omega) o1 (fun n e => (g2 _ _ e).1 rfl) (fun n e => (g3 _ _ e).1 rfl)]
          exact get_old fB
        have fR' : S2[S.length + 1]? = some (.cells false [z]) := by
          rw [hF' _ (by simp; omega) o1' (fun n e => (g2 _ _ e).2 rfl) (fun n e => (g3 _ _ e).2 rfl)]
          exact get_old fR
        have i2' := h3'.b.cell
        have i3' := h3'.c.cell
        have hri := runs_in e (d - 1) r1 he hs
        rw [← List.append_nil S2]
        refine b7 (h3 := get_old fB') (h9 := by show [HV.sl q1 r1.nums.length, y2', y3'].all isCell = true; simp only [List.all_cons, i2', i3']; rfl) (h10 := set_old fB') (hk := ?_)
        repeat' (first | refine c0 ?_ | refine c1 ?_ | refine c2 ?_ | refine c3 ?_ | refine c4 ?_ | refine c5 ?_ | refine c6 (h := ?_) | refine c7 ?_ | refine d2 ?_ | refine c8 ?_ | refine c9 ?_ | refine d0 ?_ | refine d1 ?_ | refine d4 ?_ | refine a0 (hk := ?_) | refine b0 (hk := ?_) | refine b1 (hk := ?_) | refine b2 (hk := ?_) | refine b3 (hk := ?_) | refine b4 (hk := ?_) | refine p1 (hk := ?_) | refine g0' (hk := ?_) | refine a1 (hk := ?_) | refine a2 (hk := ?_) | refine u1 (hk := ?_) | refine u2 (hk := ?_) | refine u3 (hk := ?_) | refine u4 (hk := ?_) | refine a3 (ht := ?_) (hf := ?_) | refine a4 (ht := ?_) (hf := ?_) | refine a5 (hk := ?_) | refine b5 (hk := ?_) | refine b6 (hk := ?_) | refine b8 (hk := ?_) | refine b9 (hk := ?_) | refine b7 (hk := ?_) | refine p0 (hk := ?_) | refine g1 (hw := ?_) | refine g2 (hw := ?_) | refine g3 (hw := ?_) | refine g4 (hw := ?_) | (with_reducible intro hc) | refine d6 (ht := ?_) | refine d7 (hf := ?_) | refine u5 (hk := ?_) | refine u6 (hk := ?_) | refine u7 (hk := ?_) | refine u8 (hk := ?_) | refine d8 (ht := ?_) (hf := ?_) | refine d9 (ht := ?_) (hf := ?_))
        refine ⟨_, _, run e r1, y2', y3', z, ?_, by rw [hri.1]; exact ho.2, hri.2.1, by rw [hri.1]; exact hn, by omega, by omega, hz3, ?_, n2.trans n2' (by simp; omega), n3.trans n3' (by simp; omega), by simp; omega, ?_, get_old (setE fB'), get_old (setN (by omega) fR'), at_mk ⟨rfl, rfl, rfl, inc (by omega), trivial⟩, (List.append_nil _).symm⟩
        · simp at hc
          rw [hq, run_cons, if_neg k1, if_neg k3, if_neg (by simpa using hc)]
        · refine ⟨(h3'.a.set fun k n hc => by cases hc; omega).app, (h3'.b.set fun k n hc => ?_).app, (h3'.c.set fun k n hc => ?_).app, h3'.ab, h3'.ac, h3'.bc⟩
          · rcases n2' k n hc with ⟨m, hm⟩ | hm
            · exact (g2 _ _ hm).1
            · simp at hm; omega
          · rcases n3' k n hc with ⟨m, hm⟩ | hm
            · exact (g3 _ _ hm).1
            · simp at hm; omega
        · exact (((hF.app (by omega)).trans hF' n2 n3 (by omega) (by simp; omega)).set (.inl (by omega))).app (by simp; omega)
    · rintro pre T' S' hl ⟨T0, S1, r1, y2, y3, z, hq, ho, hs, hn, hw, hv, hz3, h3, n2, n3, hle, hF, fB, fR, rfl, rfl⟩
      match z, hz3 with
      | [z1, z2, z3], _ =>
      have hlt' : ¬ ((pre.length : Int) < (l.rows.length : Int)) := by rw [hl]; omega
      have i1 := h3.a.cell
      have i2 := h3.b.cell
      have i3 := h3.c.cell
      have g1 : ∀ k n, m1 = .sl k n → k ≠ S.length + 1 := fun k n hc => by have := hlt k n hc; omega
      have g2 : ∀ k n, y2 = .sl k n → k ≠ S.length + 1 := fun k n hc => by
        rcases n2 k n hc with ⟨m, hm⟩ | hm
        · have := hlt2 k m hm; omega
        · omega
      have g3 : ∀ k n, y3 = .sl k n → k ≠ S.length + 1 := fun k n hc => by
        rcases n3 k n hc with ⟨m, hm⟩ | hm
        · have := hlt3 k m hm; omega
        · omega
      repeat' (first | refine c0 ?_ | refine c1 ?_ | refine c2 ?_ | refine c3 ?_ | refine c4 ?_ | refine c5 ?_ | refine c6 (h := ?_) | refine c7 ?_ | refine d2 ?_ | refine c8 ?_ | refine c9 ?_ | refine d0 ?_ | refine d1 ?_ | refine d4 ?_ | refine a0 (hk := ?_) | refine b0 (hk := ?_) | refine b1 (hk := ?_) | refine b2 (hk := ?_) | refine b3 (hk := ?_) | refine b4 (hk := ?_) | refine p1 (hk := ?_) | refine g0' (hk := ?_) | refine a1 (hk := ?_) | refine a2 (hk := ?_) | refine u1 (hk := ?_) | refine u2 (hk := ?_) | refine u3 (hk := ?_) | refine u4 (hk := ?_) | refine a3 (ht := ?_) (hf := ?_) | refine a4 (ht := ?_) (hf := ?_) | refine a5 (hk := ?_) | refine b5 (hk := ?_) | refine b6 (hk := ?_) | refine b8 (hk := ?_) | refine b9 (hk := ?_) | refine b7 (hk := ?_) | refine p0 (hk := ?_) | refine g1 (hw := ?_) | refine g2 (hw := ?_) | refine g3 (hw := ?_) | refine g4 (hw := ?_) | (with_reducible intro hc) | refine d6 (ht := ?_) | refine d7 (hf := ?_) | refine u5 (hk := ?_) | refine u6 (hk := ?_) | refine u7 (hk := ?_) | refine u8 (hk := ?_) | refine d8 (ht := ?_) (hf := ?_) | refine d9 (ht := ?_) (hf := ?_))
      refine b7 (h9 := by show [m1, y2, y3].all isCell = true; simp [i1, i2, i3]) (hk := ?_)
      repeat' (first | refine c0 ?_ | refine c1 ?_ | refine c2 ?_ | refine c3 ?_ | refine c4 ?_ | refine c5 ?_ | refine c6 (h := ?_) | refine c7 ?_ | refine d2 ?_ | refine c8 ?_ | refine c9 ?_ | refine d0 ?_ | refine d1 ?_ | refine d4 ?_ | refine a0 (hk := ?_) | refine b0 (hk := ?_) | refine b1 (hk := ?_) | refine b2 (hk := ?_) | refine b3 (hk := ?_) | refine b4 (hk := ?_) | refine p1 (hk := ?_) | refine g0' (hk := ?_) | refine a1 (hk := ?_) | refine a2 (hk := ?_) | refine u1 (hk := ?_) | refine u2 (hk := ?_) | refine u3 (hk := ?_) | refine u4 (hk := ?_) | refine a3 (ht := ?_) (hf := ?_) | refine a4 (ht := ?_) (hf := ?_) | refine a5 (hk := ?_) | refine b5 (hk := ?_) | refine b6 (hk := ?_) | refine b8 (hk := ?_) | refine b9 (hk := ?_) | refine b7 (hk := ?_) | refine p0 (hk := ?_) | refine g1 (hw := ?_) | refine g2 (hw := ?_) | refine g3 (hw := ?_) | refine g4 (hw := ?_) | (with_reducible intro hc) | refine d6 (ht := ?_) | refine d7 (hf := ?_) | refine u5 (hk := ?_) | refine u6 (hk := ?_) | refine u7 (hk := ?_) | refine u8 (hk := ?_) | refine d8 (ht := ?_) (hf := ?_) | refine d9 (ht := ?_) (hf := ?_))
      refine ⟨_, _, rKeepC (h3 := get_old (setE fR)), y2, y3, rfl, ?_, fun k n hc => (n2.own (by omega) hc).symm, fun k n hc => (n3.own (by omega) hc).symm, by simp; omega, (hF.set (.inl (by omega))).app (by simp; omega)⟩
      rw [hq]
      exact ⟨(h3.a.set g1).app, (h3.b.set g2).app, (h3.c.set g3).app, h3.ab, h3.ac, h3.bc⟩
end Go.Proofs.X
end
section
namespace Go.Proofs.X
open Go Go.Proofs.XVai Go.Proofs Go.Proofs.XN
set_option linter.unusedVariables false
set_option linter.unusedSimpArgs false
set_option maxHeartbeats 4000000
section
variable {fid : Nat} {T : Tm} {S : St} {K : Tm → St → Prop} {ops : Array Oper} {l : List Oper} {dst : Option Tmp} {ty : TypeId} {pos : String} {after : Array Edge} {g0 : Option (Nat × Bool)} {bs ix : Nat} {es : List (Nat × (Nat → Prop))} {ns : List (Nat × Nat)}
/-- A call that gets its rows as they are, and may change much: all that is ahead is ahead in any order. -/
theorem kT' {f : Operand} {args : Array Operand} {ats : Array TypeId} {g : Nat} {args' : List HV} {R : HV → St → Prop} (hg : wantG ops g0 T = true := by rfl) (hf : ev T f = .fn g [] := by rfl) (hb : Y.byref g = true := by rfl)
    (ha : args.toList.map (ev T) = args' := by rfl) (he : EvR Y g args' S R) (hc : Nc ops ns ix (fun _ => True) := by first | exact nc0 | ((repeat' (first | exact nc0 | refine nc2 (by decide +kernel) ?_)) <;> fail)) (hk : ∀ v S', R v S' → DW Y fid ops bs (ix + 1) ((ix, fun _ => True) :: es) ns l (put T dst v) S' K) :
    DW Y fid ops bs ix es ns (⟨dst, .call ⟨.value f, args, ats⟩, ty, pos, after, g0⟩ :: l) T S K := by
  obtain ⟨v, S', ⟨m, hm⟩, h2⟩ := he
  subst ha
  rw [← List.append_nil (args.toList.map (ev T))] at hm
  exact DW_effP hg ⟨m, by simp only [cop, hf, hb, if_true, hm]⟩ rfl hc (fun j hj => absurd trivial hj) (hk v S' h2)
/-- The same, of what is handed on by value. -/
theorem kU' {f : Operand} {args : Array Operand} {ats : Array TypeId} {g : Nat} {args' : List HV} {R : HV → St → Prop} (hg : wantG ops g0 T = true := by rfl) (hf : ev T f = .fn g [] := by rfl) (hb : Y.byref g = false := by rfl)
    (ha : mapMS (frzV 0) (args.toList.map (ev T)) S = some (args', S)) (he : EvR Y g args' S R) (hc : Nc ops ns ix (fun _ => True) := by first | exact nc0 | ((repeat' (first | exact nc0 | refine nc2 (by decide +kernel) ?_)) <;> fail)) (hk : ∀ v S', R v S' → DW Y fid ops bs (ix + 1) ((ix, fun _ => True) :: es) ns l (put T dst v) S' K) :
    DW Y fid ops bs ix es ns (⟨dst, .call ⟨.value f, args, ats⟩, ty, pos, after, g0⟩ :: l) T S K := by
  obtain ⟨v, S', ⟨m, hm⟩, h2⟩ := he
  rw [← List.append_nil args'] at hm
  exact DW_effP hg ⟨m, by simp only [cop, hf, hb, Bool.false_eq_true, if_false, ha, hm]⟩ rfl hc (fun j hj => absurd trivial hj) (hk v S' h2)
/-- Nothing is put behind nil. -/
theorem pN' {f : Builtin} {x y : Operand} {t t2 : TypeId} {ti ti2 : TI} {e e2 z : Nat} (hg : wantG ops g0 T = true := by rfl) (hf : f = .append := by rfl) (h1 : Y.tab t = some ti := by rfl) (h2 : ti.sh = .slice e := by rfl) (h3 : Y.tab t2 = some ti2 := by rfl) (h4 : ti2.sh = .slice e2 := by rfl) (h5 : tsize Y e = some z := by rfl)
    (hx : ev T x = .nils := by rfl) (hr : rowsOf S (ev T y) = some [] := by rfl) (hk : DW Y fid ops bs (ix + 1) es ns l (put T dst .nils) S K) :
    DW Y fid ops bs ix es ns (⟨dst, .call ⟨.builtin f, #[x, y], #[t, t2]⟩, ty, pos, after, g0⟩ :: l) T S K := by
  subst hf
  refine DW_pure hg ⟨0, ?_⟩ rfl hk
  simp only [cop]
  simp only [List.map_cons, List.map_nil, h1, h2, h3, h4, h5, cappend, hx, hr]
  rfl
end
theorem Ext.old {S S1 : St} (h : Ext S S1) {j : Nat} (hj : j < S.length) : S1[j]? = S[j]? := by
  obtain ⟨J, rfl⟩ := h
  exact List.getElem?_append_left hj
theorem Ext.le {S S1 : St} (h : Ext S S1) : S.length ≤ S1.length := by
  obtain ⟨J, rfl⟩ := h
  simp
/-- A return of which all is given. -/
theorem rG {f : Nat} {fn : Func} {T' : Tm} {S0 S1 S2 : St} {vs : List HV} {v v' : HV} (hkp : Y.keep f = false := by rfl) (hr : resVs Y T' S1 fn.results.toList = some vs := by rfl) (hz : frzR S0.length (resTup vs) S1 = some (v, S2)) (hi : idR S0.length v = true := by rfl)
    (hl : S0.length ≤ S2.length) (ho : ∀ j, j < S0.length → S2[j]? = S0[j]?) (hv : v = v' := by rfl) : RT Y f fn S0 v' S0 .ret T' S1 := by
  subst hv
  have hold : oldOk S0.length S0 S2 := ⟨hl, fun k hk => .inl (ho k hk)⟩
  have ht : S2.take S0.length = S0 := by
    refine List.ext_getElem? fun j => ?_
    by_cases hj : j < S0.length
    · rw [List.getElem?_take_of_lt hj, ho j hj]
    · rw [List.getElem?_eq_none (by simp; omega), List.getElem?_eq_none (by omega)]
  refine ⟨?_⟩
  simp only [cret, hr, hkp, hz]
  simp [hi, hold, ht]
theorem frzR_tup {n0 : Nat} {S S' : St} {vs vs' : List HV} (h : mapMS (frzV n0) vs S = some (vs', S')) : frzR n0 (.tup vs) S = some (.tup vs', S') := by
  simp only [frzR, h]
/-- The same, out of a cell. -/
theorem rCG {f : Nat} {fn : Func} {T' : Tm} {S0 S1 S2 : St} {v w : HV} (hkp : Y.keep f = false := by rfl) {a : Tmp} {t : TypeId} (hres : fn.results.toList = [.cell a t] := by rfl) {ti : TI} (h1 : Y.tab t = some ti := by rfl) {q n i of' : Nat} {fr : Bool} {rows : List (List HV)} {row : List HV}
    (h2 : T' a = .ptr q n i of' := by rfl) (h3 : S1[q]? = some (.cells fr rows)) (h4 : rows.length = n := by rfl) (h5 : rows[i]? = some row := by rfl) (h6 : XVai.part ti.agg ti.size row of' = some v := by rfl) (hz : frzR S0.length v S1 = some (w, S2)) (hi : idR S0.length w = true := by rfl)
    (hl : S0.length ≤ S2.length) (ho : ∀ j, j < S0.length → S2[j]? = S0[j]?) : RT Y f fn S0 w S0 .ret T' S1 := by
  have hr : resVs Y T' S1 fn.results.toList = some [v] := by
    rw [hres]
    simp only [resVs, resV, cload, h1, getRow, h2, h3, h4, if_true, h5, Option.map_some, h6]
  exact rG hkp hr hz hi hl ho
/-- A value out of a cell of one's own, and a truth. -/
theorem rRun {f : Nat} {fn : Func} {T' : Tm} {S0 S1 S2 : St} {v w : HV} {b : Bool} (hkp : Y.keep f = false := by rfl) {a bt : Tmp} {t : TypeId} (hres : fn.results.toList = [.cell a t, .tmp bt] := by rfl) {ti : TI} (h1 : Y.tab t = some ti := by rfl) {q n i of' : Nat} {fr : Bool} {rows : List (List HV)} {row : List HV}
    (h2 : T' a = .ptr q n i of' := by rfl) (h3 : S1[q]? = some (.cells fr rows)) (h4 : rows.length = n := by rfl) (h5 : rows[i]? = some row := by rfl) (h6 : XVai.part ti.agg ti.size row of' = some v := by rfl) (hb : T' bt = .bool b := by rfl) (hz : frzV S0.length v S1 = some (w, S2)) (hi : idR S0.length (.tup [w, .bool b]) = true := by rfl)
    (hl : S0.length ≤ S2.length) (ho : ∀ j, j < S0.length → S2[j]? = S0[j]?) : RT Y f fn S0 (.tup [w, .bool b]) S0 .ret T' S1 := by
  have hr : resVs Y T' S1 fn.results.toList = some [v, .bool b] := by
    rw [hres]
    simp only [resVs, resV, cload, h1, getRow, h2, h3, h4, if_true, h5, Option.map_some, h6, hb]
  have hz' : frzR S0.length (resTup [v, .bool b]) S1 = some (.tup [w, .bool b], S2) := by
    simp only [resTup, frzR, mapMS, hz]
    rfl
  have hold : oldOk S0.length S0 S2 := ⟨hl, fun k hk => .inl (ho k hk)⟩
  have ht : S2.take S0.length = S0 := by
    refine List.ext_getElem? fun j => ?_
    by_cases hj : j < S0.length
    · rw [List.getElem?_take_of_lt hj, ho j hj]
    · rw [List.getElem?_eq_none (by simp; omega), List.getElem?_eq_none (by omega)]
  refine ⟨?_⟩
  simp only [cret, hr, hkp, hz']
  simp [hi, hold, ht]
/-- A row of one's own, or nil, becomes immutable. -/
theorem Col.frz {fr : Bool} {S : St} {c : HV} {rows : List (List HV)} {n0 : Nat} (h : Col fr S c rows) (hp : rows.all (fun r => r.all pureC) = true) (hn : ∀ k n, c = .sl k n → n0 ≤ k) :
    ∃ S', frzC n0 6 c S = some (.lst rows, S') ∧ S'.length = S.length ∧ (∀ j, (∀ n, c ≠ .sl j n) → S'[j]? = S[j]?) := by
  rcases h with ⟨rfl, rfl⟩ | ⟨q, rfl, h⟩
  · exact ⟨S, rfl, rfl, fun _ _ => rfl⟩
  · cases fr with
    | true => exact ⟨S, fz_sl rfl (hn _ _ rfl) h rfl hp, rfl, fun _ _ => rfl⟩
    | false => exact ⟨_, fz_slF rfl (hn _ _ rfl) h rfl hp, by simp, fun j hj => by rw [List.getElem?_set_ne]; rintro rfl; exact hj _ rfl⟩
/-- A run's rows become immutable. -/
theorem Run3.frz {S : St} {r : Rn} {c1 c2 c3 : HV} {n0 : Nat} (h : Run3 S r c1 c2 c3) (h1 : ∀ k n, c1 = .sl k n → n0 ≤ k) (h2 : ∀ k n, c2 = .sl k n → n0 ≤ k) (h3 : ∀ k n, c3 = .sl k n → n0 ≤ k) :
    ∃ S', frzV n0 (.agg [c1, c2, c3]) S = some (RN r.nums r.ws r.ss, S') ∧ S'.length = S.length ∧ ∀ j, (∀ n, c1 ≠ .sl j n) → (∀ n, c2 ≠ .sl j n) → (∀ n, c3 ≠ .sl j n) → S'[j]? = S[j]? := by
  obtain ⟨S1, a1, l1, f1⟩ := h.a.frz (irow_pure _) h1
  have b1 := h.b.keep (S' := S1) fun k n hc => f1 k fun m hm => h.ab _ _ _ _ hm hc rfl
  have e1 := h.c.keep (S' := S1) fun k n hc => f1 k fun m hm => h.ac _ _ _ _ hm hc rfl
  obtain ⟨S2, a2, l2, f2⟩ := b1.frz (wrow_pure _) h2
  have e2 := e1.keep (S' := S2) fun k n hc => f2 k fun m hm => h.bc _ _ _ _ hm hc rfl
  obtain ⟨S3, a3, l3, f3⟩ := e2.frz (wrow_pure _) h3
  refine ⟨S3, ?_, by omega, fun j j1 j2 j3 => by rw [f3 j j3, f2 j j2, f1 j j1]⟩
  simp only [frzV]
  rw [fmS a1 (fmS a2 (fmS a3 fm0))]
theorem numsOk_in {ls : List Lab} {ss : Stps} {nums : List Int} (h : numsOk ls ss nums = true) : progOk ls ss = true ∧ nums.length = ls.length ∧ small nums := by
  simp only [numsOk, Bool.and_eq_true, beq_iff_eq, List.all_eq_true] at h
  refine ⟨h.1.1, h.1.2, fun n hn => ?_⟩
  have := h.2 n hn
  simpa [inB] using this
abbrev RUNR (ls : List Lab) (ss : Stps) (nums : List Int) : HV := .tup [RN (runOf ls ss nums).nums (runOf ls ss nums).ws (runOf ls ss nums).ss, .bool (numsOk ls ss nums)]
theorem k_spec_RunOf (ls : List Lab) (ss : Stps) (nums : List Int) (S : St) (hs : ss.sz ≤ 1048576) (hl : ls.length ≤ 1048576) (hn : nums.length ≤ 1048576) : Ev Y spec_RunOf [PR ls ss, L nums] S (RUNR ls ss nums) S := by
  cases hok : numsOk ls ss nums with
  | false =>
    have hno : (!numsOk ls ss nums) = true := by rw [hok]; rfl
    rw [RUNR, hok, show runOf ls ss nums = ⟨[], [], []⟩ by simp [runOf, hok]]
    refine E_start (h := ?_)
    repeat' (first | refine c0 ?_ | refine c1 ?_ | refine c2 ?_ | refine c3 ?_ | refine c4 ?_ | refine c5 ?_ | refine c6 (h := ?_) | refine c7 ?_ | refine d2 ?_ | refine c8 ?_ | refine c9 ?_ | refine d0 ?_ | refine d1 ?_ | refine d4 ?_ | refine a0 (hk := ?_) | refine k0 (he := (by first | exact k_spec_NumsOk _ _ _ _ hs hl hn)) (hk := ?_) | refine k1 (he := (by first | exact k_spec_NumsOk _ _ _ _ hs hl hn)) (hk := ?_) | refine b0 (hk := ?_) | refine b1 (hk := ?_) | refine b2 (hk := ?_) | refine b3 (hk := ?_) | refine b4 (hk := ?_) | refine p1 (hk := ?_) | refine g0' (hk := ?_) | refine a1 (hk := ?_) | refine a2 (hk := ?_) | refine u1 (hk := ?_) | refine u2 (hk := ?_) | refine u3 (hk := ?_) | refine u4 (hk := ?_) | refine a3 (ht := ?_) (hf := ?_) | refine a4 (ht := ?_) (hf := ?_) | refine a5 (hk := ?_) | refine b5 (hk := ?_) | refine b6 (hk := ?_) | refine b8 (hk := ?_) | refine b9 (hk := ?_) | refine b7 (hk := ?_) | refine p0 (hk := ?_) | refine g1 (hw := ?_) | refine g2 (hw := ?_) | refine g3 (hw := ?_) | refine g4 (hw := ?_) | (with_reducible intro hc) | refine d6 (ht := ?_) | refine d7 (hf := ?_) | refine u5 (hk := ?_) | refine u6 (hk := ?_) | refine u7 (hk := ?_) | refine u8 (hk := ?_) | refine d8 (ht := ?_) (hf := ?_) | refine d9 (ht := ?_) (hf := ?_))
    exact rRun (h3 := get_own rfl) (hz := rfl) (hl := by simp) (ho := fun j hj => by rw [List.getElem?_append_left hj])
  | true =>
    have hno : (!numsOk ls ss nums) = false := by rw [hok]; rfl
    obtain ⟨h1, h2, h3⟩ := numsOk_in hok
    obtain ⟨p1, p2, p3, p4⟩ := progOk_in h1
    rw [RUNR, hok, show runOf ls ss nums = run ss ⟨nums, [], []⟩ by simp [runOf, hok]]
    rw [← h2] at p1 p3
    have hri := runs_in ss 3 ⟨nums, [], []⟩ p3 h3
    cases nums with
    | nil =>
      refine E_start (h := ?_)
      repeat' (first | refine c0 ?_ | refine c1 ?_ | refine c2 ?_ | refine c3 ?_ | refine c4 ?_ | refine c5 ?_ | refine c6 (h := ?_) | refine c7 ?_ | refine d2 ?_ | refine c8 ?_ | refine c9 ?_ | refine d0 ?_ | refine d1 ?_ | refine d4 ?_ | refine d3' (h := ?_) | refine d4' ?_ | refine a0 (hk := ?_) | refine k0 (he := (by first | exact k_spec_NumsOk _ _ _ _ hs hl hn)) (hk := ?_) | refine k1 (he := (by first | exact k_spec_NumsOk _ _ _ _ hs hl hn)) (hk := ?_) | refine k0' (he := (by first | exact k_spec_NumsOk _ _ _ _ hs hl hn)) (hk := ?_) | refine k2' (he := (by first | exact k_spec_NumsOk _ _ _ _ hs hl hn)) (hk := ?_) | refine k3' (he := (by first | exact k_spec_NumsOk _ _ _ _ hs hl hn)) (hk := ?_) | refine k1' (he := (by first | exact k_spec_NumsOk _ _ _ _ hs hl hn)) (hk := ?_) | refine b0 (hk := ?_) | refine b1 (hk := ?_) | refine b2 (hk := ?_) | refine b3 (hk := ?_) | refine b4 (hk := ?_) | refine p1 (hk := ?_) | refine g0' (hk := ?_) | refine a1 (hk := ?_) | refine a2 (hk := ?_) | refine u1 (hk := ?_) | refine u2 (hk := ?_) | refine u3 (hk := ?_) | refine u4 (hk := ?_) | refine a3 (ht := ?_) (hf := ?_) | refine a4 (ht := ?_) (hf := ?_) | refine a5 (hk := ?_) | refine b5 (hk := ?_) | refine b6 (hk := ?_) | refine b8 (hk := ?_) | refine b9 (hk := ?_) | refine b7 (hk := ?_) | refine p0 (hk := ?_) | refine g1 (hw := ?_) | refine g2 (hw := ?_) | refine g3 (hw := ?_) | refine g4 (hw := ?_) | refine e0' (hk := ?_) | refine b0' (hk := ?_) | refine b1' (hk := ?_) | refine p1' (hk := ?_) | refine e1' (hk := ?_) | refine e2' (hk := ?_) | refine u1' (hk := ?_) | refine u2' (hk := ?_) | refine u3' (hk := ?_) | refine u4' (hk := ?_) | refine e3' (ht := ?_) (hf := ?_) | refine e4' (ht := ?_) (hf := ?_) | refine b4' (hk := ?_) | refine b7b (hk := ?_) | refine e5' (hk := ?_) | refine f5' (hk := ?_) | refine f6' (hk := ?_) | refine f8' (hk := ?_) | refine f9' (hk := ?_) | refine b7' (hk := ?_) | refine p0' (hk := ?_) | refine h1'' (hw := ?_) | refine h2'' (hw := ?_) | refine h3'' (hw := ?_) | refine h4'' (hw := ?_) | (with_reducible intro hc) | refine d6 (ht := ?_) | refine d7 (hf := ?_) | refine u5 (hk := ?_) | refine u6 (hk := ?_) | refine u7 (hk := ?_) | refine u8 (hk := ?_) | refine d8 (ht := ?_) (hf := ?_) | refine d9 (ht := ?_) (hf := ?_))
      refine pN' (hk := ?_)
      repeat' (first | refine c0 ?_ | refine c1 ?_ | refine c2 ?_ | refine c3 ?_ | refine c4 ?_ | refine c5 ?_ | refine c6 (h := ?_) | refine c7 ?_ | refine d2 ?_ | refine c8 ?_ | refine c9 ?_ | refine d0 ?_ | refine d1 ?_ | refine d4 ?_ | refine d3' (h := ?_) | refine d4' ?_ | refine a0 (hk := ?_) | refine b0 (hk := ?_) | refine b1 (hk := ?_) | refine b2 (hk := ?_) | refine b3 (hk := ?_) | refine b4 (hk := ?_) | refine p1 (hk := ?_) | refine g0' (hk := ?_) | refine a1 (hk := ?_) | refine a2 (hk := ?_) | refine u1 (hk := ?_) | refine u2 (hk := ?_) | refine u3 (hk := ?_) | refine u4 (hk := ?_) | refine a3 (ht := ?_) (hf := ?_) | refine a4 (ht := ?_) (hf := ?_) | refine a5 (hk := ?_) | refine b5 (hk := ?_) | refine b6 (hk := ?_) | refine b8 (hk := ?_) | refine b9 (hk := ?_) | refine b7 (hk := ?_) | refine p0 (hk := ?_) | refine g1 (hw := ?_) | refine g2 (hw := ?_) | refine g3 (hw := ?_) | refine g4 (hw := ?_) | refine e0' (hk := ?_) | refine b0' (hk := ?_) | refine b1' (hk := ?_) | refine p1' (hk := ?_) | refine e1' (hk := ?_) | refine e2' (hk := ?_) | refine u1' (hk := ?_) | refine u2' (hk := ?_) | refine u3' (hk := ?_) | refine u4' (hk := ?_) | refine e3' (ht := ?_) (hf := ?_) | refine e4' (ht := ?_) (hf := ?_) | refine b4' (hk := ?_) | refine b7b (hk := ?_) | refine e5' (hk := ?_) | refine f5' (hk := ?_) | refine f6' (hk := ?_) | refine f8' (hk := ?_) | refine f9' (hk := ?_) | refine b7' (hk := ?_) | refine p0' (hk := ?_) | refine h1'' (hw := ?_) | refine h2'' (hw := ?_) | refine h3'' (hw := ?_) | refine h4'' (hw := ?_) | (with_reducible intro hc) | refine d6 (ht := ?_) | refine d7 (hf := ?_) | refine u5 (hk := ?_) | refine u6 (hk := ?_) | refine u7 (hk := ?_) | refine u8 (hk := ?_) | refine d8 (ht := ?_) (hf := ?_) | refine d9 (ht := ?_) (hf := ?_))
      refine kT' (he := k_spec_l3Do _ ss 3 ⟨[], [], []⟩ .nils .nils .nils _ (Nat.le_refl _) (by omega) p3 h3 (by simp) (by simp; omega) (by simp; omega) ⟨.inl ⟨rfl, rfl⟩, .inl ⟨rfl, rfl⟩, .inl ⟨rfl, rfl⟩, apa0, apa0, apa0⟩) (hk := ?_)
      rintro v S2 ⟨c2, c3, rfl, h3', n2, n3, hle, hF⟩
      have fB : S2[S.length + 1]? = some (.cells false [[.nils, .nils, .nils]]) := by
        rw [hF _ (by simp) (by simp) (by simp) (by simp)]
        exact get_own rfl
      have i2 := h3'.b.cell
      have i3 := h3'.c.cell
      rw [← List.append_nil S2]
      refine b7' (h3 := get_old fB) (h9 := by show [HV.nils, c2, c3].all isCell = true; simp only [List.all_cons, i2, i3]; rfl) (h10 := set_old fB) (hk := ?_)
      repeat' (first | refine c0 ?_ | refine c1 ?_ | refine c2 ?_ | refine c3 ?_ | refine c4 ?_ | refine c5 ?_ | refine c6 (h := ?_) | refine c7 ?_ | refine d2 ?_ | refine c8 ?_ | refine c9 ?_ | refine d0 ?_ | refine d1 ?_ | refine d4 ?_ | refine d3' (h := ?_) | refine d4' ?_ | refine a0 (hk := ?_) | refine b0 (hk := ?_) | refine b1 (hk := ?_) | refine b2 (hk := ?_) | refine b3 (hk := ?_) | refine b4 (hk := ?_) | refine p1 (hk := ?_) | refine g0' (hk := ?_) | refine a1 (hk := ?_) | refine a2 (hk := ?_) | refine u1 (hk := ?_) | refine u2 (hk := ?_) | refine u3 (hk := ?_) | refine u4 (hk := ?_) | refine a3 (ht := ?_) (hf := ?_) | refine a4 (ht := ?_) (hf := ?_) | refine a5 (hk := ?_) | refine b5 (hk := ?_) | refine b6 (hk := ?_) | refine b8 (hk := ?_) | refine b9 (hk := ?_) | refine b7 (hk := ?_) | refine p0 (hk := ?_) | refine g1 (hw := ?_) | refine g2 (hw := ?_) | refine g3 (hw := ?_) | refine g4 (hw := ?_) | refine e0' (hk := ?_) | refine b0' (hk := ?_) | refine b1' (hk := ?_) | refine p1' (hk := ?_) | refine e1' (hk := ?_) | refine e2' (hk := ?_) | refine u1' (hk := ?_) | refine u2' (hk := ?_) | refine u3' (hk := ?_) | refine u4' (hk := ?_) | refine e3' (ht := ?_) (hf := ?_) | refine e4' (ht := ?_) (hf := ?_) | refine b4' (hk := ?_) | refine b7b (hk := ?_) | refine e5' (hk := ?_) | refine f5' (hk := ?_) | refine f6' (hk := ?_) | refine f8' (hk := ?_) | refine f9' (hk := ?_) | refine b7' (hk := ?_) | refine p0' (hk := ?_) | refine h1'' (hw := ?_) | refine h2'' (hw := ?_) | refine h3'' (hw := ?_) | refine h4'' (hw := ?_) | (with_reducible intro hc) | refine d6 (ht := ?_) | refine d7 (hf := ?_) | refine u5 (hk := ?_) | refine u6 (hk := ?_) | refine u7 (hk := ?_) | refine u8 (hk := ?_) | refine d8 (ht := ?_) (hf := ?_) | refine d9 (ht := ?_) (hf := ?_))
      have q2 : ∀ k n, c2 = .sl k n → S.length + 2 ≤ k := fun k n hc => by
        rcases n2 k n hc with ⟨m, hm⟩ | hm
        · cases hm
        · simp at hm; omega
      have q3 : ∀ k n, c3 = .sl k n → S.length + 2 ≤ k := fun k n hc => by
        rcases n3 k n hc with ⟨m, hm⟩ | hm
        · cases hm
        · simp at hm; omega
      have h3s : Run3 (S2.set (S.length + 1) (.cells false [[.nils, c2, c3]]) ++ []) (run ss ⟨[], [], []⟩) .nils c2 c3 := ⟨(h3'.a.set (by simp)).app, (h3'.b.set fun k n hc => by have := q2 k n hc; omega).app, (h3'.c.set fun k n hc => by have := q3 k n hc; omega).app, h3'.ab, h3'.ac, h3'.bc⟩
      obtain ⟨S3, z1, z2, z3⟩ := h3s.frz (n0 := S.length) (by simp) (fun k n hc => by have := q2 k n hc; omega) (fun k n hc => by have := q3 k n hc; omega)
      refine rRun (h3 := get_old (setE fB)) (hz := z1) (hl := by simp at hle z2; omega) (ho := fun j hj => ?_)
      rw [z3 j (by simp) (fun n hc => by have := q2 j n hc; omega) (fun n hc => by have := q3 j n hc; omega), List.append_nil, List.getElem?_set_ne (by omega), hF j (by simp; omega) (by simp) (by simp) (by simp), List.getElem?_append_left hj]
    | cons x xs =>
      have hz2 : ((x :: xs).map irow).all (fun r => r.length == 1 && r.all isCell) = true := by simp [isCell]
      have hn' : xs.length + 1 ≤ 1048576 := by simpa using hn
      refine E_start (h := ?_)
      repeat' (first | refine c0 ?_ | refine c1 ?_ | refine c2 ?_ | refine c3 ?_ | refine c4 ?_ | refine c5 ?_ | refine c6 (h := ?_) | refine c7 ?_ | refine d2 ?_ | refine c8 ?_ | refine c9 ?_ | refine d0 ?_ | refine d1 ?_ | refine d4 ?_ | refine d3' (h := ?_) | refine d4' ?_ | refine a0 (hk := ?_) | refine k0 (he := (by first | exact k_spec_NumsOk _ _ _ _ hs hl hn)) (hk := ?_) | refine k1 (he := (by first | exact k_spec_NumsOk _ _ _ _ hs hl hn)) (hk := ?_) | refine k0' (he := (by first | exact k_spec_NumsOk _ _ _ _ hs hl hn)) (hk := ?_) | refine k2' (he := (by first | exact k_spec_NumsOk _ _ _ _ hs hl hn)) (hk := ?_) | refine k3' (he := (by first | exact k_spec_NumsOk _ _ _ _ hs hl hn)) (hk := ?_) | refine k1' (he := (by first | exact k_spec_NumsOk _ _ _ _ hs hl hn)) (hk := ?_) | refine b0 (hk := ?_) | refine b1 (hk := ?_) | refine b2 (hk := ?_) | refine b3 (hk := ?_) | refine b4 (hk := ?_) | refine p1 (hk := ?_) | refine g0' (hk := ?_) | refine a1 (hk := ?_) | refine a2 (hk := ?_) | refine u1 (hk := ?_) | refine u2 (hk := ?_) | refine u3 (hk := ?_) | refine u4 (hk := ?_) | refine a3 (ht := ?_) (hf := ?_) | refine a4 (ht := ?_) (hf := ?_) | refine a5 (hk := ?_) | refine b5 (hk := ?_) | refine b6 (hk := ?_) | refine b8 (hk := ?_) | refine b9 (hk := ?_) | refine b7 (hk := ?_) | refine p0 (hk := ?_) | refine g1 (hw := ?_) | refine g2 (hw := ?_) | refine g3 (hw := ?_) | refine g4 (hw := ?_) | refine e0' (hk := ?_) | refine b0' (hk := ?_) | refine b1' (hk := ?_) | refine p1' (hk := ?_) | refine e1' (hk := ?_) | refine e2' (hk := ?_) | refine u1' (hk := ?_) | refine u2' (hk := ?_) | refine u3' (hk := ?_) | refine u4' (hk := ?_) | refine e3' (ht := ?_) (hf := ?_) | refine e4' (ht := ?_) (hf := ?_) | refine b4' (hk := ?_) | refine b7b (hk := ?_) | refine e5' (hk := ?_) | refine f5' (hk := ?_) | refine f6' (hk := ?_) | refine f8' (hk := ?_) | refine f9' (hk := ?_) | refine b7' (hk := ?_) | refine p0' (hk := ?_) | refine h1'' (hw := ?_) | refine h2'' (hw := ?_) | refine h3'' (hw := ?_) | refine h4'' (hw := ?_) | (with_reducible intro hc) | refine d6 (ht := ?_) | refine d7 (hf := ?_) | refine u5 (hk := ?_) | refine u6 (hk := ?_) | refine u7 (hk := ?_) | refine u8 (hk := ?_) | refine d8 (ht := ?_) (hf := ?_) | refine d9 (ht := ?_) (hf := ?_))
      refine kT' (he := k_spec_l3Do _ ss 3 ⟨x :: xs, [], []⟩ (.sl (S.length + 6) ((x :: xs).map irow).length) .nils .nils _ (Nat.le_refl _) (by omega) p3 h3 (show (x :: xs).length ≤ 1000 by omega) (by simp; omega) (by simp; omega) ⟨.inr ⟨S.length + 6, rfl, get_own rfl⟩, .inl ⟨rfl, rfl⟩, .inl ⟨rfl, rfl⟩, apa0.symm, apa0.symm, apa0⟩) (hk := ?_)
      rintro v S2 ⟨c2, c3, rfl, h3', n2, n3, hle, hF⟩
      have fB : S2[S.length + 1]? = some (.cells false [[.nils, .nils, .nils]]) := by
        rw [hF _ (by simp) (by simp) (by simp) (by simp)]
        exact get_own rfl
      have i2 := h3'.b.cell
      have i3 := h3'.c.cell
      rw [← List.append_nil S2]
      refine b7' (h3 := get_old fB) (h9 := by show [HV.sl _ _, c2, c3].all isCell = true; simp only [List.all_cons, i2, i3]; rfl) (h10 := set_old fB) (hk := ?_)
      repeat' (first | refine c0 ?_ | refine c1 ?_ | refine c2 ?_ | refine c3 ?_ | refine c4 ?_ | refine c5 ?_ | refine c6 (h := ?_) | refine c7 ?_ | refine d2 ?_ | refine c8 ?_ | refine c9 ?_ | refine d0 ?_ | refine d1 ?_ | refine d4 ?_ | refine d3' (h := ?_) | refine d4' ?_ | refine a0 (hk := ?_) | refine b0 (hk := ?_) | refine b1 (hk := ?_) | refine b2 (hk := ?_) | refine b3 (hk := ?_) | refine b4 (hk := ?_) | refine p1 (hk := ?_) | refine g0' (hk := ?_) | refine a1 (hk := ?_) | refine a2 (hk := ?_) | refine u1 (hk := ?_) | refine u2 (hk := ?_) | refine u3 (hk := ?_) | refine u4 (hk := ?_) | refine a3 (ht := ?_) (hf := ?_) | refine a4 (ht := ?_) (hf := ?_) | refine a5 (hk := ?_) | refine b5 (hk := ?_) | refine b6 (hk := ?_) | refine b8 (hk := ?_) | refine b9 (hk := ?_) | refine b7 (hk := ?_) | refine p0 (hk := ?_) | refine g1 (hw := ?_) | refine g2 (hw := ?_) | refine g3 (hw := ?_) | refine g4 (hw := ?_) | refine e0' (hk := ?_) | refine b0' (hk := ?_) | refine b1' (hk := ?_) | refine p1' (hk := ?_) | refine e1' (hk := ?_) | refine e2' (hk := ?_) | refine u1' (hk := ?_) | refine u2' (hk := ?_) | refine u3' (hk := ?_) | refine u4' (hk := ?_) | refine e3' (ht := ?_) (hf := ?_) | refine e4' (ht := ?_) (hf := ?_) | refine b4' (hk := ?_) | refine b7b (hk := ?_) | refine e5' (hk := ?_) | refine f5' (hk := ?_) | refine f6' (hk := ?_) | refine f8' (hk := ?_) | refine f9' (hk := ?_) | refine b7' (hk := ?_) | refine p0' (hk := ?_) | refine h1'' (hw := ?_) | refine h2'' (hw := ?_) | refine h3'' (hw := ?_) | refine h4'' (hw := ?_) | (with_reducible intro hc) | refine d6 (ht := ?_) | refine d7 (hf := ?_) | refine u5 (hk := ?_) | refine u6 (hk := ?_) | refine u7 (hk := ?_) | refine u8 (hk := ?_) | refine d8 (ht := ?_) (hf := ?_) | refine d9 (ht := ?_) (hf := ?_))
      have q2 : ∀ k n, c2 = .sl k n → S.length + 2 ≤ k := fun k n hc => by
        rcases n2 k n hc with ⟨m, hm⟩ | hm
        · cases hm
        · simp at hm; omega
      have q3 : ∀ k n, c3 = .sl k n → S.length + 2 ≤ k := fun k n hc => by
        rcases n3 k n hc with ⟨m, hm⟩ | hm
        · cases hm
        · simp at hm; omega
      have h3s : Run3 (S2.set (S.length + 1) (.cells false [[.sl (S.length + 6) ((x :: xs).map irow).length, c2, c3]]) ++ []) (run ss ⟨x :: xs, [], []⟩) (.sl (S.length + 6) ((x :: xs).map irow).length) c2 c3 := ⟨(h3'.a.set fun k n hc => by cases hc; omega).app, (h3'.b.set fun k n hc => by have := q2 k n hc; omega).app, (h3'.c.set fun k n hc => by have := q3 k n hc; omega).app, h3'.ab, h3'.ac, h3'.bc⟩
      obtain ⟨S3, z1, z2, z3⟩ := h3s.frz (n0 := S.length) (fun k n hc => by cases hc; omega) (fun k n hc => by have := q2 k n hc; omega) (fun k n hc => by have := q3 k n hc; omega)
      refine rRun (h3 := get_old (setE fB)) (hz := z1) (hl := by simp at hle z2; omega) (ho := fun j hj => ?_)
      rw [z3 j (fun n hc => by cases hc; omega) (fun n hc => by have := q2 j n hc; omega) (fun n hc => by have := q3 j n hc; omega), List.append_nil, List.getElem?_set_ne (by omega), hF j (by simp; omega) (fun n hc => by cases hc; omega) (by simp) (by simp), List.getElem?_append_left hj]
end Go.Proofs.X
end
section
namespace Go.Proofs.X
open Go Go.Proofs.XVai Go.Proofs Go.Proofs.XN
set_option linter.unusedVariables false
set_option linter.unusedSimpArgs false
set_option maxHeartbeats 4000000
set_option maxRecDepth 100000
theorem rKeepN {Y : XVai.Sys} {f : Nat} {fn : Func} {T' : Tm} {S S1 : St} {vs : List HV} {v : HV} (hkp : Y.keep f = true := by rfl) (hr : resVs Y T' S1 fn.results.toList = some vs := by rfl) (hv : resTup vs = v := by rfl) : RT Y f fn S v S1 .norm T' S1 :=
  ⟨by simp only [cret, hr, hkp, if_true, hv]⟩
theorem k_impl_cloneInts (xs : List Int) (S : St) (hx : xs.length ≤ 1048576) : EvR Y impl_cloneInts [L xs] S (fun v S' => ∃ J, S' = S ++ J ∧ Col false S' v (xs.map irow) ∧ ∀ k n, v = .sl k n → S.length ≤ k) := by
  cases xs with
  | nil =>
    refine E_startR (h := ?_)
    repeat' (first | refine c0 ?_ | refine c1 ?_ | refine c2 ?_ | refine c3 ?_ | refine c4 ?_ | refine c5 ?_ | refine c6 (h := ?_) | refine c7 ?_ | refine d2 ?_ | refine c8 ?_ | refine c9 ?_ | refine d0 ?_ | refine d1 ?_ | refine d4 ?_ | refine a0 (hk := ?_) | refine b0 (hk := ?_) | refine b1 (hk := ?_) | refine b2 (hk := ?_) | refine b3 (hk := ?_) | refine b4 (hk := ?_) | refine p1 (hk := ?_) | refine g0' (hk := ?_) | refine a1 (hk := ?_) | refine a2 (hk := ?_) | refine u1 (hk := ?_) | refine u2 (hk := ?_) | refine u3 (hk := ?_) | refine u4 (hk := ?_) | refine a3 (ht := ?_) (hf := ?_) | refine a4 (ht := ?_) (hf := ?_) | refine a5 (hk := ?_) | refine b5 (hk := ?_) | refine b6 (hk := ?_) | refine b8 (hk := ?_) | refine b9 (hk := ?_) | refine b7 (hk := ?_) | refine p0 (hk := ?_) | refine g1 (hw := ?_) | refine g2 (hw := ?_) | refine g3 (hw := ?_) | refine g4 (hw := ?_) | (with_reducible intro hc) | refine d6 (ht := ?_) | refine d7 (hf := ?_) | refine u5 (hk := ?_) | refine u6 (hk := ?_) | refine u7 (hk := ?_) | refine u8 (hk := ?_) | refine d8 (ht := ?_) (hf := ?_) | refine d9 (ht := ?_) (hf := ?_))
    exact ⟨_, _, rKeep, _, rfl, .inl ⟨rfl, rfl⟩, fun k n hc => by cases hc⟩
  | cons x xs =>
    have hz2 : ((x :: xs).map irow).all (fun r => r.length == 1 && r.all isCell) = true := by simp [isCell]
    have hn' : xs.length + 1 ≤ 1048576 := by simpa using hx
    refine E_startR (h := ?_)
    repeat' (first | refine c0 ?_ | refine c1 ?_ | refine c2 ?_ | refine c3 ?_ | refine c4 ?_ | refine c5 ?_ | refine c6 (h := ?_) | refine c7 ?_ | refine d2 ?_ | refine c8 ?_ | refine c9 ?_ | refine d0 ?_ | refine d1 ?_ | refine d4 ?_ | refine a0 (hk := ?_) | refine b0 (hk := ?_) | refine b1 (hk := ?_) | refine b2 (hk := ?_) | refine b3 (hk := ?_) | refine b4 (hk := ?_) | refine p1 (hk := ?_) | refine g0' (hk := ?_) | refine a1 (hk := ?_) | refine a2 (hk := ?_) | refine u1 (hk := ?_) | refine u2 (hk := ?_) | refine u3 (hk := ?_) | refine u4 (hk := ?_) | refine a3 (ht := ?_) (hf := ?_) | refine a4 (ht := ?_) (hf := ?_) | refine a5 (hk := ?_) | refine b5 (hk := ?_) | refine b6 (hk := ?_) | refine b8 (hk := ?_) | refine b9 (hk := ?_) | refine b7 (hk := ?_) | refine p0 (hk := ?_) | refine g1 (hw := ?_) | refine g2 (hw := ?_) | refine g3 (hw := ?_) | refine g4 (hw := ?_) | (with_reducible intro hc) | refine d6 (ht := ?_) | refine d7 (hf := ?_) | refine u5 (hk := ?_) | refine u6 (hk := ?_) | refine u7 (hk := ?_) | refine u8 (hk := ?_) | refine d8 (ht := ?_) (hf := ?_) | refine d9 (ht := ?_) (hf := ?_))
    exact ⟨_, _, rKeep, _, rfl, .inr ⟨S.length + 1, rfl, get_own rfl⟩, fun k n hc => by cases hc; omega⟩
/-- All else but an object is as it was. -/
def FrmK (S S' : St) (k : Nat) (c1 c2 c3 : HV) : Prop := ∀ j, j < S.length → j ≠ k → (∀ n, c1 ≠ .sl j n) → (∀ n, c2 ≠ .sl j n) → (∀ n, c3 ≠ .sl j n) → S'[j]? = S[j]?
theorem FrmK.refl {S : St} {k : Nat} {c1 c2 c3 : HV} : FrmK S S k c1 c2 c3 := fun _ _ _ _ _ _ => rfl
theorem FrmK.set {S S1 : St} {c1 c2 c3 : HV} {k k' : Nat} {o : Ob} (h : FrmK S S1 k c1 c2 c3) (hk : S.length ≤ k' ∨ k' = k ∨ (∃ n, c1 = .sl k' n) ∨ (∃ n, c2 = .sl k' n) ∨ ∃ n, c3 = .sl k' n) : FrmK S (S1.set k' o) k c1 c2 c3 := by
  intro j hj h0 h1 h2 h3
  rw [List.getElem?_set_ne, h j hj h0 h1 h2 h3]
  rintro rfl
  rcases hk with hk | hk | ⟨n, hk⟩ | ⟨n, hk⟩ | ⟨n, hk⟩
  · omega
  · exact h0 hk
  · exact h1 n hk
  · exact h2 n hk
  · exact h3 n hk
theorem FrmK.app {S S1 L : St} {c1 c2 c3 : HV} {k : Nat} (h : FrmK S S1 k c1 c2 c3) (hl : S.length ≤ S1.length) : FrmK S (S1 ++ L) k c1 c2 c3 := by
  intro j hj h0 h1 h2 h3
  rw [List.getElem?_append_left (by omega), h j hj h0 h1 h2 h3]
theorem FrmK.trans {S S1 S2 : St} {c1 c2 c3 e2 e3 : HV} {b k : Nat} (h : FrmK S S1 k c1 c2 c3) (h' : FrmK S1 S2 k c1 e2 e3) (n2 : New b c2 e2) (n3 : New b c3 e3) (hb : S.length ≤ b) (hl : S.length ≤ S1.length) : FrmK S S2 k c1 c2 c3 := by
  intro j hj h0 h1 h2 h3
  rw [h' j (by omega) h0 h1 (fun n hc => ?_) (fun n hc => ?_), h j hj h0 h1 h2 h3]
  · rcases n2 j n hc with ⟨m, hm⟩ | hm
    · exact h2 m hm
    · omega
  · rcases n3 j n hc with ⟨m, hm⟩ | hm
    · exact h3 m hm
    · omega
/-- A run in a cell. -/
structure RunK (S : St) (k : Nat) (r : Rn) (c1 c2 c3 : HV) : Prop where
  box : S[k]? = some (.cells false [[c1, c2, c3]])
  run : Run3 S r c1 c2 c3
  a : ∀ q n, c1 = .sl q n → q ≠ k
  b : ∀ q n, c2 = .sl q n → q ≠ k
  c : ∀ q n, c3 = .sl q n → q ≠ k
def RanK (S : St) (k : Nat) (r' : Rn) (c1 c2 c3 v : HV) (S' : St) : Prop := v = .tup [] ∧ ∃ c2' c3', RunK S' k r' c1 c2' c3' ∧ New S.length c2 c2' ∧ New S.length c3 c3' ∧ S.length ≤ S'.length ∧ FrmK S S' k c1 c2 c3
theorem k_impl_Run_set (k j : Nat) (y : Int) (r : Rn) (m1 m2 m3 : HV) (S : St) (hj : j < r.nums.length) (hw : r.ws.length ≤ 1048576) (h : RunK S k r m1 m2 m3) :
    EvR Y impl_Run_set [.ptr k 1 0 0, I j, I y] S (RanK S k ⟨r.nums.set j y, r.ws ++ [((j : Int), y)], r.ss⟩ m1 m2 m3) := by
  obtain ⟨fB, h3, ha, hb, hc⟩ := h
  have i1 := h3.a.cell
  have i2 := h3.b.cell
  have i3 := h3.c.cell
  obtain ⟨q1, rfl, fN⟩ : ∃ q1, m1 = .sl q1 r.nums.length ∧ S[q1]? = some (.cells false (r.nums.map irow)) := by
    rcases h3.a with ⟨_, h0⟩ | ⟨q, h0, h1⟩
    · simp at h0; simp [h0] at hj
    · exact ⟨q, by simpa using h0, h1⟩
  have hlN : (r.nums.map irow).length = r.nums.length := by simp
  have hgj := map_get (f := irow) (nget_at hj)
  have hk1 := ha _ _ rfl
  have hk1' := Ne.symm hk1
  have lw : (r.ws.map wrow).length = r.ws.length := by simp
  have w2 := wrow2 r.ws
  have hnm : (r.nums.map irow).set j (irow y) = (r.nums.set j y).map irow := by rw [List.map_set]
  have hkl : k < S.length := (List.getElem?_eq_some_iff.1 fB).1
  have hql : q1 < S.length := (List.getElem?_eq_some_iff.1 fN).1
  have x2 : ∀ k n, m2 = .sl k n → k ≠ q1 := fun k n hc e => h3.ab _ _ _ _ rfl hc e.symm
  have x3 : ∀ k n, m3 = .sl k n → k ≠ q1 := fun k n hc e => h3.ac _ _ _ _ rfl hc e.symm
  rcases h3.b with ⟨rfl, hw0⟩ | ⟨q2, rfl, fW⟩
  · refine E_startR (h := ?_)
    repeat' (first | refine c0 ?_ | refine c1 ?_ | refine c2 ?_ | refine c3 ?_ | refine c4 ?_ | refine c5 ?_ | refine c6 (h := ?_) | refine c7 ?_ | refine d2 ?_ | refine c8 ?_ | refine c9 ?_ | refine d0 ?_ | refine d1 ?_ | refine d4 ?_ | refine a0 (hk := ?_) | refine b0 (hk := ?_) | refine b1 (hk := ?_) | refine b2 (hk := ?_) | refine b3 (hk := ?_) | refine b4 (hk := ?_) | refine p1 (hk := ?_) | refine g0' (hk := ?_) | refine a1 (hk := ?_) | refine a2 (hk := ?_) | refine u1 (hk := ?_) | refine u2 (hk := ?_) | refine u3 (hk := ?_) | refine u4 (hk := ?_) | refine a3 (ht := ?_) (hf := ?_) | refine a4 (ht := ?_) (hf := ?_) | refine a5 (hk := ?_) | refine b5 (hk := ?_) | refine b6 (hk := ?_) | refine b8 (hk := ?_) | refine b9 (hk := ?_) | refine b7 (hk := ?_) | refine p0 (hk := ?_) | refine g1 (hw := ?_) | refine g2 (hw := ?_) | refine g3 (hw := ?_) | refine g4 (hw := ?_) | (with_reducible intro hc) | refine d6 (ht := ?_) | refine d7 (hf := ?_) | refine u5 (hk := ?_) | refine u6 (hk := ?_) | refine u7 (hk := ?_) | refine u8 (hk := ?_) | refine d8 (ht := ?_) (hf := ?_) | refine d9 (ht := ?_) (hf := ?_))
    refine ⟨_, _, rKeepN, rfl, .sl (S.length + 0) 1, m3, ⟨by rw [get_old (setE (setN hk1' fB))]; show some (Ob.cells false [[_, .sl ((List.set S q1 _).length + 0) 1, m3]]) = _; rw [List.length_set], ⟨Col.of' (get_old (setN hk1 (setE fN))) hnm (by simp), Col.of' (get_ownL (by simp) rfl) (by simp at hw0; rw [hw0]; rfl) (by simp at hw0; simp [hw0]), ((h3.c.set x3).set hc).app, apaS fun k n hc => by cases hc; omega, h3.ac, apaS fun k n hc => by have := h3.c.lt hc; omega⟩, ha, fun q n hc => by cases hc; omega, hc⟩, New.nw (by omega), new0, by simp, (((FrmK.refl).set (.inr (.inr (.inl ⟨_, rfl⟩)))).set (.inr (.inl rfl))).app (by simp)⟩
  · have h12 : q2 ≠ q1 := x2 _ _ rfl
    have hk2 := hb _ _ rfl
    refine E_startR (h := ?_)
    repeat' (first | refine c0 ?_ | refine c1 ?_ | refine c2 ?_ | refine c3 ?_ | refine c4 ?_ | refine c5 ?_ | refine c6 (h := ?_) | refine c7 ?_ | refine d2 ?_ | refine c8 ?_ | refine c9 ?_ | refine d0 ?_ | refine d1 ?_ | refine d4 ?_ | refine a0 (hk := ?_) | refine b0 (hk := ?_) | refine b1 (hk := ?_) | refine b2 (hk := ?_) | refine b3 (hk := ?_) | refine b4 (hk := ?_) | refine p1 (hk := ?_) | refine g0' (hk := ?_) | refine a1 (hk := ?_) | refine a2 (hk := ?_) | refine u1 (hk := ?_) | refine u2 (hk := ?_) | refine u3 (hk := ?_) | refine u4 (hk := ?_) | refine a3 (ht := ?_) (hf := ?_) | refine a4 (ht := ?_) (hf := ?_) | refine a5 (hk := ?_) | refine b5 (hk := ?_) | refine b6 (hk := ?_) | refine b8 (hk := ?_) | refine b9 (hk := ?_) | refine b7 (hk := ?_) | refine p0 (hk := ?_) | refine g1 (hw := ?_) | refine g2 (hw := ?_) | refine g3 (hw := ?_) | refine g4 (hw := ?_) | (with_reducible intro hc) | refine d6 (ht := ?_) | refine d7 (hf := ?_) | refine u5 (hk := ?_) | refine u6 (hk := ?_) | refine u7 (hk := ?_) | refine u8 (hk := ?_) | refine d8 (ht := ?_) (hf := ?_) | refine d9 (ht := ?_) (hf := ?_))
    refine b7 (h3 := get_old (setN (Ne.symm hk2) (setN hk1' fB))) (h10 := set_old (setN (Ne.symm hk2) (setN hk1' fB))) (hk := ?_)
    repeat' (first | refine c0 ?_ | refine c1 ?_ | refine c2 ?_ | refine c3 ?_ | refine c4 ?_ | refine c5 ?_ | refine c6 (h := ?_) | refine c7 ?_ | refine d2 ?_ | refine c8 ?_ | refine c9 ?_ | refine d0 ?_ | refine d1 ?_ | refine d4 ?_ | refine a0 (hk := ?_) | refine b0 (hk := ?_) | refine b1 (hk := ?_) | refine b2 (hk := ?_) | refine b3 (hk := ?_) | refine b4 (hk := ?_) | refine p1 (hk := ?_) | refine g0' (hk := ?_) | refine a1 (hk := ?_) | refine a2 (hk := ?_) | refine u1 (hk := ?_) | refine u2 (hk := ?_) | refine u3 (hk := ?_) | refine u4 (hk := ?_) | refine a3 (ht := ?_) (hf := ?_) | refine a4 (ht := ?_) (hf := ?_) | refine a5 (hk := ?_) | refine b5 (hk := ?_) | refine b6 (hk := ?_) | refine b8 (hk := ?_) | refine b9 (hk := ?_) | refine b7 (hk := ?_) | refine p0 (hk := ?_) | refine g1 (hw := ?_) | refine g2 (hw := ?_) | refine g3 (hw := ?_) | refine g4 (hw := ?_) | (with_reducible intro hc) | refine d6 (ht := ?_) | refine d7 (hf := ?_) | refine u5 (hk := ?_) | refine u6 (hk := ?_) | refine u7 (hk := ?_) | refine u8 (hk := ?_) | refine d8 (ht := ?_) (hf := ?_) | refine d9 (ht := ?_) (hf := ?_))
    refine ⟨_, _, rKeepN, rfl, .sl q2 ((r.ws.map wrow).length + 1), m3, ⟨get_old (setE (setN (Ne.symm hk2) (setN hk1' fB))), ⟨Col.of' (get_old (setN hk1 (setN (Ne.symm h12) (setE fN)))) hnm (by simp), Col.of' (get_old (setN hk2 (setE (setN h12 fW)))) (by rw [List.map_append]; rfl) (by simp), (((h3.c.set x3).set fun k n hc => (fun e => h3.bc _ _ _ _ rfl hc e.symm)).set hc).app, apaS fun k n hc => by cases hc; exact h12, h3.ac, apaS fun k n hc => (fun e => h3.bc _ _ _ _ rfl hc e.symm)⟩, ha, fun q n hc => by cases hc; exact hk2, hc⟩, new0.to, new0, by simp, ((((FrmK.refl).set (.inr (.inr (.inl ⟨_, rfl⟩)))).set (.inr (.inr (.inr (.inl ⟨_, rfl⟩))))).set (.inr (.inl rfl))).app (by simp)⟩
theorem RunK.app {S L : St} {k : Nat} {r : Rn} {c1 c2 c3 : HV} (h : RunK S k r c1 c2 c3) : RunK (S ++ L) k r c1 c2 c3 := ⟨get_old h.box, ⟨h.run.a.app, h.run.b.app, h.run.c.app, h.run.ab, h.run.ac, h.run.bc⟩, h.a, h.b, h.c⟩
theorem k_impl_Run_do (n : Nat) : ∀ (l : Stps) (d : Int) (r : Rn) (m1 m2 m3 : HV) (k : Nat) (S : St), l.sz ≤ n → l.sz ≤ 1000 → stepsOk r.nums.length l d = true → small r.nums → r.nums.length ≤ 1000 → r.ws.length + l.sz ≤ 100000 → r.ss.length + l.sz ≤ 100000 → RunK S k r m1 m2 m3 →
    EvR Y impl_Run_do [.ptr k 1 0 0, .lst l.rows] S (RanK S k (run l r) m1 m2 m3) := by
  induction n using Nat.strongRecOn with
  | _ n ih =>
    intro l d r m1 m2 m3 k S h hb ho hs hn hw hv h3
    have hkl : k < S.length := (List.getElem?_eq_some_iff.1 h3.box).1
    have hm2 := h3.b
    have hm3 := h3.c
    refine E_startR (h := ?_)
    repeat' (first | refine c0 ?_ | refine c1 ?_ | refine c2 ?_ | refine c3 ?_ | refine c4 ?_ | refine c5 ?_ | refine c6 (h := ?_) | refine c7 ?_ | refine d2 ?_ | refine c8 ?_ | refine c9 ?_ | refine d0 ?_ | refine d1 ?_ | refine d4 ?_ | refine a0 (hk := ?_) | refine b0 (hk := ?_) | refine b1 (hk := ?_) | refine b2 (hk := ?_) | refine b3 (hk := ?_) | refine b4 (hk := ?_) | refine p1 (hk := ?_) | refine g0' (hk := ?_) | refine a1 (hk := ?_) | refine a2 (hk := ?_) | refine u1 (hk := ?_) | refine u2 (hk := ?_) | refine u3 (hk := ?_) | refine u4 (hk := ?_) | refine a3 (ht := ?_) (hf := ?_) | refine a4 (ht := ?_) (hf := ?_) | refine a5 (hk := ?_) | refine b5 (hk := ?_) | refine b6 (hk := ?_) | refine b8 (hk := ?_) | refine b9 (hk := ?_) | refine b7 (hk := ?_) | refine p0 (hk := ?_) | refine g1 (hw := ?_) | refine g2 (hw := ?_) | refine g3 (hw := ?_) | refine g4 (hw := ?_) | (with_reducible intro hc) | refine d6 (ht := ?_) | refine d7 (hf := ?_) | refine u5 (hk := ?_) | refine u6 (hk := ?_) | refine u7 (hk := ?_) | refine u8 (hk := ?_) | refine d8 (ht := ?_) (hf := ?_) | refine d9 (ht := ?_) (hf := ?_))
    refine C_stps l (fun pre rest T' S' => ∃ (T0 : Tm) (S1 : St) (r1 : Rn) (y2 y3 : HV), run l r = run rest r1 ∧ stepsOk r1.nums.length rest d = true ∧ small r1.nums ∧ r1.nums.length ≤ 1000 ∧ r1.ws.length + rest.sz ≤ 100000 ∧ r1.ss.length + rest.sz ≤ 100000 ∧
        RunK S1 k r1 m1 y2 y3 ∧ New S.length m2 y2 ∧ New S.length m3 y3 ∧ S.length ≤ S1.length ∧ FrmK S S1 k m1 m2 m3 ∧
        T' = putL T0 [(0, .ptr k 1 0 0), (9, .lst l.rows), (10, I l.rows.length), (11, I pre.length)] ∧ S' = S1 ++ [])
      ⟨_, _, r, m2, m3, rfl, ho, hs, hn, hw, hv, h3, new0, new0, Nat.le_refl _, FrmK.refl, at_mk ⟨rfl, rfl, rfl, rfl, trivial⟩, rfl⟩ ?_ ?_
    · rintro pre kk v x hh t e rest T' S' hl hz ⟨T0, S1, r1, y2, y3, hq, ho, hs, hn, hw, hv, hR, n2, n3, hle, hF, rfl, rfl⟩
      have hg := mid hl
      have hp := mid_lt hl
      have := l.rows_len
      have := l.len_sz
      have hlt' : (pre.length : Int) < (l.rows.length : Int) := by omega
      have fB := hR.box
      have h3 := hR.run
      have i1 := h3.a.cell
      have i2 := h3.b.cell
      have i3 := h3.c.cell
      rw [stepsOk_cons, Bool.and_eq_true] at ho
      obtain ⟨hv1, hv2, _, ⟨ht, he⟩, _⟩ := stepOk_in ho.1
      obtain ⟨j, rfl, hj⟩ := vOk_nat hv1
      obtain ⟨q1, rfl, fN⟩ : ∃ q1, m1 = .sl q1 r1.nums.length ∧ S1[q1]? = some (.cells false (r1.nums.map irow)) := by
        rcases h3.a with ⟨_, h0⟩ | ⟨q, h0, h1⟩
        · simp at h0; simp [h0] at hj
        · exact ⟨q, by simpa using h0, h1⟩
      have hlN : (r1.nums.map irow).length = r1.nums.length := by simp
      have hgj := map_get (f := irow) (nget_at hj)
      have hB1 : k ≠ q1 := Ne.symm (hR.a _ _ rfl)
      have lw : (r1.ws.map wrow).length = r1.ws.length := by simp
      have lv : (r1.ss.map wrow).length = r1.ss.length := by simp
      have w3 := wrow2 r1.ss
      simp only [Stps.sz] at hw hv
      have g3 := hR.c
      have x3 : ∀ k n, y3 = .sl k n → k ≠ q1 := fun k n hc e => h3.ac _ _ _ _ rfl hc e.symm
      have u2 : ∀ k n, y2 = .sl k n → k < S1.length := fun k n hc => h3.b.lt hc
      by_cases k1 : kk = 1
      · subst k1
        have hx := hv2 rfl
        have hq' : run l r = run rest ⟨r1.nums.set j (valNum x r1.nums), r1.ws ++ [((j : Int), valNum x r1.nums)], r1.ss⟩ := by rw [hq, run_cons, if_pos rfl, Int.toNat_natCast]
        have ho' : stepsOk (r1.nums.set j (valNum x r1.nums)).length rest d = true := by rw [List.length_set]; exact ho.2
        have hs' := small_set (j := j) hs (valNum_small hx hs)
        have hn' : (r1.nums.set j (valNum x r1.nums)).length ≤ 1000 := by rw [List.length_set]; exact hn
        have hw' : (r1.ws ++ [((j : Int), valNum x r1.nums)]).length + rest.sz ≤ 100000 := by rw [List.length_append]; simp; omega
        have fin : ∀ (L' : St) (v : HV) (S2 : St), RanK (S1 ++ L') k ⟨r1.nums.set j (valNum x r1.nums), r1.ws ++ [((j : Int), valNum x r1.nums)], r1.ss⟩ (.sl q1 r1.nums.length) y2 y3 v S2 →
            ∃ y2' y3', RunK S2 k ⟨r1.nums.set j (valNum x r1.nums), r1.ws ++ [((j : Int), valNum x r1.nums)], r1.ss⟩ (.sl q1 r1.nums.length) y2' y3' ∧ New S.length m2 y2' ∧ New S.length m3 y3' ∧ S.length ≤ S2.length ∧ FrmK S S2 k (.sl q1 r1.nums.length) m2 m3 := by
          rintro L' v S2 ⟨_, y2', y3', hR', n2', n3', hle', hF'⟩
          simp at hle'
          exact ⟨y2', y3', hR', n2.trans n2' (by simp; omega), n3.trans n3' (by simp; omega), by omega, (hF.app (L := L') hle).trans hF' n2 n3 (Nat.le_refl _) (by simp; omega)⟩
        have hst := fun L' => k_impl_Run_set k j (valNum x r1.nums) r1 _ y2 y3 (S1 ++ L') hj (by omega) hR.app
        obtain ⟨xk, xa, xb⟩ := x
        by_cases w1 : xk = 1
        · subst w1
          have hvars : ∀ S, Ev Y impl_Val_vars [.agg (vrow ⟨1, xa, xb⟩)] S (L []) S := fun S => k_impl_Val_vars ⟨1, xa, xb⟩ S
          have hof : ∀ S, Ev Y impl_Val_of [.agg (vrow ⟨1, xa, xb⟩), L []] S (I (valNum ⟨1, xa, xb⟩ r1.nums)) S := fun S => k_impl_Val_of ⟨1, xa, xb⟩ r1.nums S hx hs
          repeat' (first | refine c0 ?_ | refine c1 ?_ | refine c2 ?_ | refine c3 ?_ | refine c4 ?_ | refine c5 ?_ | refine c6 (h := ?_) | refine c7 ?_ | refine d2 ?_ | refine c8 ?_ | refine c9 ?_ | refine d0 ?_ | refine d1 ?_ | refine d4 ?_ | refine d3' (h := ?_) | refine d4' ?_ | refine d5 ?_ | refine a0 (hk := ?_) | refine k0 (he := (by first | exact hvars _ | exact hof _)) (hk := ?_) | refine k1 (he := (by first | exact hvars _ | exact hof _)) (hk := ?_) | refine k0' (he := (by first | exact hvars _ | exact hof _)) (hk := ?_) | refine k2' (he := (by first | exact hvars _ | exact hof _)) (hk := ?_) | refine k3' (he := (by first | exact hvars _ | exact hof _)) (hk := ?_) | refine k1' (he := (by first | exact hvars _ | exact hof _)) (hk := ?_) | refine b0 (hk := ?_) | refine b1 (hk := ?_) | refine b2 (hk := ?_) | refine b3 (hk := ?_) | refine b4 (hk := ?_) | refine p1 (hk := ?_) | refine g0' (hk := ?_) | refine a1 (hk := ?_) | refine a2 (hk := ?_) | refine u1 (hk := ?_) | refine u2 (hk := ?_) | refine u3 (hk := ?_) | refine u4 (hk := ?_) | refine a3 (ht := ?_) (hf := ?_) | refine a4 (ht := ?_) (hf := ?_) | refine a5 (hk := ?_) | refine b5 (hk := ?_) | refine b6 (hk := ?_) | refine b8 (hk := ?_) | refine b9 (hk := ?_) | refine b7 (hk := ?_) | refine p0 (hk := ?_) | refine g1 (hw := ?_) | refine g2 (hw := ?_) | refine g3 (hw := ?_) | refine g4 (hw := ?_) | refine e0' (hk := ?_) | refine b0' (hk := ?_) | refine b1' (hk := ?_) | refine p1' (hk := ?_) | refine e1' (hk := ?_) | refine e2' (hk := ?_) | refine u1' (hk := ?_) | refine u2' (hk := ?_) | refine u3' (hk := ?_) | refine u4' (hk := ?_) | refine e3' (ht := ?_) (hf := ?_) | refine e4' (ht := ?_) (hf := ?_) | refine b4' (hk := ?_) | refine b7b (hk := ?_) | refine e5' (hk := ?_) | refine f5' (hk := ?_) | refine f6' (hk := ?_) | refine f8' (hk := ?_) | refine f9' (hk := ?_) | refine b7' (hk := ?_) | refine p0' (hk := ?_) | refine h1'' (hw := ?_) | refine h2'' (hw := ?_) | refine h3'' (hw := ?_) | refine h4'' (hw := ?_) | (with_reducible intro hc) | refine d6 (ht := ?_) | refine d7 (hf := ?_) | refine u5 (hk := ?_) | refine u6 (hk := ?_) | refine u7 (hk := ?_) | refine u8 (hk := ?_) | refine d8 (ht := ?_) (hf := ?_) | refine d9 (ht := ?_) (hf := ?_))
          refine k0' (ha' := fm1 rfl (fm1 (fzV_sl rfl (Nat.zero_le _) (get_own rfl) rfl rfl) fm0)) (he := hof _) (hk := ?_)
          repeat' (first | refine c0 ?_ | refine c1 ?_ | refine c2 ?_ | refine c3 ?_ | refine c4 ?_ | refine c5 ?_ | refine c6 (h := ?_) | refine c7 ?_ | refine d2 ?_ | refine c8 ?_ | refine c9 ?_ | refine d0 ?_ | refine d1 ?_ | refine d4 ?_ | refine d3' (h := ?_) | refine d4' ?_ | refine a0 (hk := ?_) | refine b0 (hk := ?_) | refine b1 (hk := ?_) | refine b2 (hk := ?_) | refine b3 (hk := ?_) | refine b4 (hk := ?_) | refine p1 (hk := ?_) | refine g0' (hk := ?_) | refine a1 (hk := ?_) | refine a2 (hk := ?_) | refine u1 (hk := ?_) | refine u2 (hk := ?_) | refine u3 (hk := ?_) | refine u4 (hk := ?_) | refine a3 (ht := ?_) (hf := ?_) | refine a4 (ht := ?_) (hf := ?_) | refine a5 (hk := ?_) | refine b5 (hk := ?_) | refine b6 (hk := ?_) | refine b8 (hk := ?_) | refine b9 (hk := ?_) | refine b7 (hk := ?_) | refine p0 (hk := ?_) | refine g1 (hw := ?_) | refine g2 (hw := ?_) | refine g3 (hw := ?_) | refine g4 (hw := ?_) | refine e0' (hk := ?_) | refine b0' (hk := ?_) | refine b1' (hk := ?_) | refine p1' (hk := ?_) | refine e1' (hk := ?_) | refine e2' (hk := ?_) | refine u1' (hk := ?_) | refine u2' (hk := ?_) | refine u3' (hk := ?_) | refine u4' (hk := ?_) | refine e3' (ht := ?_) (hf := ?_) | refine e4' (ht := ?_) (hf := ?_) | refine b4' (hk := ?_) | refine b7b (hk := ?_) | refine e5' (hk := ?_) | refine f5' (hk := ?_) | refine f6' (hk := ?_) | refine f8' (hk := ?_) | refine f9' (hk := ?_) | refine b7' (hk := ?_) | refine p0' (hk := ?_) | refine h1'' (hw := ?_) | refine h2'' (hw := ?_) | refine h3'' (hw := ?_) | refine h4'' (hw := ?_) | (with_reducible intro hc) | refine d6 (ht := ?_) | refine d7 (hf := ?_) | refine u5 (hk := ?_) | refine u6 (hk := ?_) | refine u7 (hk := ?_) | refine u8 (hk := ?_) | refine d8 (ht := ?_) (hf := ?_) | refine d9 (ht := ?_) (hf := ?_))
          refine kU' (ha := rfl) (he := hst _) (hk := ?_)
          intro v' S2 hRk
          obtain ⟨y2', y3', hR', n2', n3', hle', hF'⟩ := fin _ _ _ hRk
          rw [← List.append_nil S2]
          repeat' (first | refine c0 ?_ | refine c1 ?_ | refine c2 ?_ | refine c3 ?_ | refine c4 ?_ | refine c5 ?_ | refine c6 (h := ?_) | refine c7 ?_ | refine d2 ?_ | refine c8 ?_ | refine c9 ?_ | refine d0 ?_ | refine d1 ?_ | refine d4 ?_ | refine d3' (h := ?_) | refine d4' ?_ | refine a0 (hk := ?_) | refine b0 (hk := ?_) | refine b1 (hk := ?_) | refine b2 (hk := ?_) | refine b3 (hk := ?_) | refine b4 (hk := ?_) | refine p1 (hk := ?_) | refine g0' (hk := ?_) | refine a1 (hk := ?_) | refine a2 (hk := ?_) | refine u1 (hk := ?_) | refine u2 (hk := ?_) | refine u3 (hk := ?_) | refine u4 (hk := ?_) | refine a3 (ht := ?_) (hf := ?_) | refine a4 (ht := ?_) (hf := ?_) | refine a5 (hk := ?_) | refine b5 (hk := ?_) | refine b6 (hk := ?_) | refine b8 (hk := ?_) | refine b9 (hk := ?_) | refine b7 (hk := ?_) | refine p0 (hk := ?_) | refine g1 (hw := ?_) | refine g2 (hw := ?_) | refine g3 (hw := ?_) | refine g4 (hw := ?_) | refine e0' (hk := ?_) | refine b0' (hk := ?_) | refine b1' (hk := ?_) | refine p1' (hk := ?_) | refine e1' (hk := ?_) | refine e2' (hk := ?_) | refine u1' (hk := ?_) | refine u2' (hk := ?_) | refine u3' (hk := ?_) | refine u4' (hk := ?_) | refine e3' (ht := ?_) (hf := ?_) | refine e4' (ht := ?_) (hf := ?_) | refine b4' (hk := ?_) | refine b7b (hk := ?_) | refine e5' (hk := ?_) | refine f5' (hk := ?_) | refine f6' (hk := ?_) | refine f8' (hk := ?_) | refine f9' (hk := ?_) | refine b7' (hk := ?_) | refine p0' (hk := ?_) | refine h1'' (hw := ?_) | refine h2'' (hw := ?_) | refine h3'' (hw := ?_) | refine h4'' (hw := ?_) | (with_reducible intro hc) | refine d6 (ht := ?_) | refine d7 (hf := ?_) | refine u5 (hk := ?_) | refine u6 (hk := ?_) | refine u7 (hk := ?_) | refine u8 (hk := ?_) | refine d8 (ht := ?_) (hf := ?_) | refine d9 (ht := ?_) (hf := ?_))
          exact ⟨_, _, _, y2', y3', hq', ho', hs', hn', hw', by simp only; omega, hR', n2', n3', hle', hF', at_mk ⟨rfl, rfl, rfl, inc (by omega), trivial⟩, rfl⟩
        by_cases w2 : xk = 2
        · subst w2
          have hx1 := hx
          simp [valOk] at hx1
          obtain ⟨j1, rfl, hj1⟩ := vOk_nat hx1.1
          have hgj1 := map_get (f := irow) (nget_at hj1)
          have hvars : ∀ S, Ev Y impl_Val_vars [.agg (vrow ⟨2, j1, xb⟩)] S (L [(j1 : Int)]) S := fun S => k_impl_Val_vars ⟨2, j1, xb⟩ S
          have hof : ∀ S, Ev Y impl_Val_of [.agg (vrow ⟨2, j1, xb⟩), L [nget r1.nums j1]] S (I (valNum ⟨2, j1, xb⟩ r1.nums)) S := fun S => k_impl_Val_of ⟨2, j1, xb⟩ r1.nums S hx hs
          repeat' (first | refine c0 ?_ | refine c1 ?_ | refine c2 ?_ | refine c3 ?_ | refine c4 ?_ | refine c5 ?_ | refine c6 (h := ?_) | refine c7 ?_ | refine d2 ?_ | refine c8 ?_ | refine c9 ?_ | refine d0 ?_ | refine d1 ?_ | refine d4 ?_ | refine d3' (h := ?_) | refine d4' ?_ | refine d5 ?_ | refine a0 (hk := ?_) | refine k0 (he := (by first | exact hvars _ | exact hof _)) (hk := ?_) | refine k1 (he := (by first | exact hvars _ | exact hof _)) (hk := ?_) | refine k0' (he := (by first | exact hvars _ | exact hof _)) (hk := ?_) | refine k2' (he := (by first | exact hvars _ | exact hof _)) (hk := ?_) | refine k3' (he := (by first | exact hvars _ | exact hof _)) (hk := ?_) | refine k1' (he := (by first | exact hvars _ | exact hof _)) (hk := ?_) | refine b0 (hk := ?_) | refine b1 (hk := ?_) | refine b2 (hk := ?_) | refine b3 (hk := ?_) | refine b4 (hk := ?_) | refine p1 (hk := ?_) | refine g0' (hk := ?_) | refine a1 (hk := ?_) | refine a2 (hk := ?_) | refine u1 (hk := ?_) | refine u2 (hk := ?_) | refine u3 (hk := ?_) | refine u4 (hk := ?_) | refine a3 (ht := ?_) (hf := ?_) | refine a4 (ht := ?_) (hf := ?_) | refine a5 (hk := ?_) | refine b5 (hk := ?_) | refine b6 (hk := ?_) | refine b8 (hk := ?_) | refine b9 (hk := ?_) | refine b7 (hk := ?_) | refine p0 (hk := ?_) | refine g1 (hw := ?_) | refine g2 (hw := ?_) | refine g3 (hw := ?_) | refine g4 (hw := ?_) | refine e0' (hk := ?_) | refine b0' (hk := ?_) | refine b1' (hk := ?_) | refine p1' (hk := ?_) | refine e1' (hk := ?_) | refine e2' (hk := ?_) | refine u1' (hk := ?_) | refine u2' (hk := ?_) | refine u3' (hk := ?_) | refine u4' (hk := ?_) | refine e3' (ht := ?_) (hf := ?_) | refine e4' (ht := ?_) (hf := ?_) | refine b4' (hk := ?_) | refine b7b (hk := ?_) | refine e5' (hk := ?_) | refine f5' (hk := ?_) | refine f6' (hk := ?_) | refine f8' (hk := ?_) | refine f9' (hk := ?_) | refine b7' (hk := ?_) | refine p0' (hk := ?_) | refine h1'' (hw := ?_) | refine h2'' (hw := ?_) | refine h3'' (hw := ?_) | refine h4'' (hw := ?_) | (with_reducible intro hc) | refine d6 (ht := ?_) | refine d7 (hf := ?_) | refine u5 (hk := ?_) | refine u6 (hk := ?_) | refine u7 (hk := ?_) | refine u8 (hk := ?_) | refine d8 (ht := ?_) (hf := ?_) | refine d9 (ht := ?_) (hf := ?_))
          refine k0' (ha' := fm1 rfl (fm1 (fzV_sl rfl (Nat.zero_le _) (get_own rfl) rfl rfl) fm0)) (he := hof _) (hk := ?_)
          repeat' (first | refine c0 ?_ | refine c1 ?_ | refine c2 ?_ | refine c3 ?_ | refine c4 ?_ | refine c5 ?_ | refine c6 (h := ?_) | refine c7 ?_ | refine d2 ?_ | refine c8 ?_ | refine c9 ?_ | refine d0 ?_ | refine d1 ?_ | refine d4 ?_ | refine d3' (h := ?_) | refine d4' ?_ | refine a0 (hk := ?_) | refine b0 (hk := ?_) | refine b1 (hk := ?_) | refine b2 (hk := ?_) | refine b3 (hk := ?_) | refine b4 (hk := ?_) | refine p1 (hk := ?_) | refine g0' (hk := ?_) | refine a1 (hk := ?_) | refine a2 (hk := ?_) | refine u1 (hk := ?_) | refine u2 (hk := ?_) | refine u3 (hk := ?_) | refine u4 (hk := ?_) | refine a3 (ht := ?_) (hf := ?_) | refine a4 (ht := ?_) (hf := ?_) | refine a5 (hk := ?_) | refine b5 (hk := ?_) | refine b6 (hk := ?_) | refine b8 (hk := ?_) | refine b9 (hk := ?_) | refine b7 (hk := ?_) | refine p0 (hk := ?_) | refine g1 (hw := ?_) | refine g2 (hw := ?_) | refine g3 (hw := ?_) | refine g4 (hw := ?_) | refine e0' (hk := ?_) | refine b0' (hk := ?_) | refine b1' (hk := ?_) | refine p1' (hk := ?_) | refine e1' (hk := ?_) | refine e2' (hk := ?_) | refine u1' (hk := ?_) | refine u2' (hk := ?_) | refine u3' (hk := ?_) | refine u4' (hk := ?_) | refine e3' (ht := ?_) (hf := ?_) | refine e4' (ht := ?_) (hf := ?_) | refine b4' (hk := ?_) | refine b7b (hk := ?_) | refine e5' (hk := ?_) | refine f5' (hk := ?_) | refine f6' (hk := ?_) | refine f8' (hk := ?_) | refine f9' (hk := ?_) | refine b7' (hk := ?_) | refine p0' (hk := ?_) | refine h1'' (hw := ?_) | refine h2'' (hw := ?_) | refine h3'' (hw := ?_) | refine h4'' (hw := ?_) | (with_reducible intro hc) | refine d6 (ht := ?_) | refine d7 (hf := ?_) | refine u5 (hk := ?_) | refine u6 (hk := ?_) | refine u7 (hk := ?_) | refine u8 (hk := ?_) | refine d8 (ht := ?_) (hf := ?_) | refine d9 (ht := ?_) (hf := ?_))
          refine kU' (ha := rfl) (he := hst _) (hk := ?_)
          intro v' S2 hRk
          obtain ⟨y2', y3', hR', n2', n3', hle', hF'⟩ := fin _ _ _ hRk
          rw [← List.append_nil S2]
          repeat' (first | refine c0 ?_ | refine c1 ?_ | refine c2 ?_ | refine c3 ?_ | refine c4 ?_ | refine c5 ?_ | refine c6 (h := ?_) | refine c7 ?_ | refine d2 ?_ | refine c8 ?_ | refine c9 ?_ | refine d0 ?_ | refine d1 ?_ | refine d4 ?_ | refine d3' (h := ?_) | refine d4' ?_ | refine a0 (hk := ?_) | refine b0 (hk := ?_) | refine b1 (hk := ?_) | refine b2 (hk := ?_) | refine b3 (hk := ?_) | refine b4 (hk := ?_) | refine p1 (hk := ?_) | refine g0' (hk := ?_) | refine a1 (hk := ?_) | refine a2 (hk := ?_) | refine u1 (hk := ?_) | refine u2 (hk := ?_) | refine u3 (hk := ?_) | refine u4 (hk := ?_) | refine a3 (ht := ?_) (hf := ?_) | refine a4 (ht := ?_) (hf := ?_) | refine a5 (hk := ?_) | refine b5 (hk := ?_) | refine b6 (hk := ?_) | refine b8 (hk := ?_) | refine b9 (hk := ?_) | refine b7 (hk := ?_) | refine p0 (hk := ?_) | refine g1 (hw := ?_) | refine g2 (hw := ?_) | refine g3 (hw := ?_) | refine g4 (hw := ?_) | refine e0' (hk := ?_) | refine b0' (hk := ?_) | refine b1' (hk := ?_) | refine p1' (hk := ?_) | refine e1' (hk := ?_) | refine e2' (hk := ?_) | refine u1' (hk := ?_) | refine u2' (hk := ?_) | refine u3' (hk := ?_) | refine u4' (hk := ?_) | refine e3' (ht := ?_) (hf := ?_) | refine e4' (ht := ?_) (hf := ?_) | refine b4' (hk := ?_) | refine b7b (hk := ?_) | refine e5' (hk := ?_) | refine f5' (hk := ?_) | refine f6' (hk := ?_) | refine f8' (hk := ?_) | refine f9' (hk := ?_) | refine b7' (hk := ?_) | refine p0' (hk := ?_) | refine h1'' (hw := ?_) | refine h2'' (hw := ?_) | refine h3'' (hw := ?_) | refine h4'' (hw := ?_) | (with_reducible intro hc) | refine d6 (ht := ?_) | refine d7 (hf := ?_) | refine u5 (hk := ?_) | refine u6 (hk := ?_) | refine u7 (hk := ?_) | refine u8 (hk := ?_) | refine d8 (ht := ?_) (hf := ?_) | refine d9 (ht := ?_) (hf := ?_))
          exact ⟨_, _, _, y2', y3', hq', ho', hs', hn', hw', by simp only; omega, hR', n2', n3', hle', hF', at_mk ⟨rfl, rfl, rfl, inc (by omega), trivial⟩, rfl⟩
        have h34 : xk = 3 ∨ xk = 4 := by
          by_cases h : xk = 3 ∨ xk = 4
          · exact h
          · simp [valOk, w1, w2, h] at hx
        have hx2 : vOk r1.nums.length xa = true ∧ vOk r1.nums.length xb = true := by
          rcases h34 with rfl | rfl <;> simpa [valOk] using hx
        obtain ⟨j1, rfl, hj1⟩ := vOk_nat hx2.1
        obtain ⟨j2, rfl, hj2⟩ := vOk_nat hx2.2
        have hgj1 := map_get (f := irow) (nget_at hj1)
        have hgj2 := map_get (f := irow) (nget_at hj2)
        have hvars : ∀ S, Ev Y impl_Val_vars [.agg (vrow ⟨xk, j1, j2⟩)] S (L [(j1 : Int), (j2 : Int)]) S := fun S => by
          have := k_impl_Val_vars ⟨xk, j1, j2⟩ S
          rwa [show varsV ⟨xk, j1, j2⟩ = [(j1 : Int), (j2 : Int)] by simp [varsV, w2, h34]] at this
        have hof : ∀ S, Ev Y impl_Val_of [.agg (vrow ⟨xk, j1, j2⟩), L [nget r1.nums j1, nget r1.nums j2]] S (I (valNum ⟨xk, j1, j2⟩ r1.nums)) S := fun S => by
          have := k_impl_Val_of ⟨xk, j1, j2⟩ r1.nums S hx hs
          rwa [show varsV ⟨xk, j1, j2⟩ = [(j1 : Int), (j2 : Int)] by simp [varsV, w2, h34]] at this
        repeat' (first | refine c0 ?_ | refine c1 ?_ | refine c2 ?_ | refine c3 ?_ | refine c4 ?_ | refine c5 ?_ | refine c6 (h := ?_) | refine c7 ?_ | refine d2 ?_ | refine c8 ?_ | refine c9 ?_ | refine d0 ?_ | refine d1 ?_ | refine d4 ?_ | refine d3' (h := ?_) | refine d4' ?_ | refine d5 ?_ | refine a0 (hk := ?_) | refine k0 (he := (by first | exact hvars _ | exact hof _)) (hk := ?_) | refine k1 (he := (by first | exact hvars _ | exact hof _)) (hk := ?_) | refine k0' (he := (by first | exact hvars _ | exact hof _)) (hk := ?_) | refine k2' (he := (by first | exact hvars _ | exact hof _)) (hk := ?_) | refine k3' (he := (by first | exact hvars _ | exact hof _)) (hk := ?_) | refine k1' (he := (by first | exact hvars _ | exact hof _)) (hk := ?_) | refine b0 (hk := ?_) | refine b1 (hk := ?_) | refine b2 (hk := ?_) | refine b3 (hk := ?_) | refine b4 (hk := ?_) | refine p1 (hk := ?_) | refine g0' (hk := ?_) | refine a1 (hk := ?_) | refine a2 (hk := ?_) | refine u1 (hk := ?_) | refine u2 (hk := ?_) | refine u3 (hk := ?_) | refine u4 (hk := ?_) | refine a3 (ht := ?_) (hf := ?_) | refine a4 (ht := ?_) (hf := ?_) | refine a5 (hk := ?_) | refine b5 (hk := ?_) | refine b6 (hk := ?_) | refine b8 (hk := ?_) | refine b9 (hk := ?_) | refine b7 (hk := ?_) | refine p0 (hk := ?_) | refine g1 (hw := ?_) | refine g2 (hw := ?_) | refine g3 (hw := ?_) | refine g4 (hw := ?_) | refine e0' (hk := ?_) | refine b0' (hk := ?_) | refine b1' (hk := ?_) | refine p1' (hk := ?_) | refine e1' (hk := ?_) | refine e2' (hk := ?_) | refine u1' (hk := ?_) | refine u2' (hk := ?_) | refine u3' (hk := ?_) | refine u4' (hk := ?_) | refine e3' (ht := ?_) (hf := ?_) | refine e4' (ht := ?_) (hf := ?_) | refine b4' (hk := ?_) | refine b7b (hk := ?_) | refine e5' (hk := ?_) | refine f5' (hk := ?_) | refine f6' (hk := ?_) | refine f8' (hk := ?_) | refine f9' (hk := ?_) | refine b7' (hk := ?_) | refine p0' (hk := ?_) | refine h1'' (hw := ?_) | refine h2'' (hw := ?_) | refine h3'' (hw := ?_) | refine h4'' (hw := ?_) | (with_reducible intro hc) | refine d6 (ht := ?_) | refine d7 (hf := ?_) | refine u5 (hk := ?_) | refine u6 (hk := ?_) | refine u7 (hk := ?_) | refine u8 (hk := ?_) | refine d8 (ht := ?_) (hf := ?_) | refine d9 (ht := ?_) (hf := ?_))
        refine k0' (ha' := fm1 rfl (fm1 (fzV_sl rfl (Nat.zero_le _) (get_own rfl) rfl rfl) fm0)) (he := hof _) (hk := ?_)
        repeat' (first | refine c0 ?_ | refine c1 ?_ | refine c2 ?_ | refine c3 ?_ | refine c4 ?_ | refine c5 ?_ | refine c6 (h := ?_) | refine c7 ?_ | refine d2 ?_ | refine c8 ?_ | refine c9 ?_ | refine d0 ?_ | refine d1 ?_ | refine d4 ?_ | refine d3' (h := ?_) | refine d4' ?_ | refine a0 (hk := ?_) | refine b0 (hk := ?_) | refine b1 (hk := ?_) | refine b2 (hk := ?_) | refine b3 (hk := ?_) | refine b4 (hk := ?_) | refine p1 (hk := ?_) | refine g0' (hk := ?_) | refine a1 (hk := ?_) | refine a2 (hk := ?_) | refine u1 (hk := ?_) | refine u2 (hk := ?_) | refine u3 (hk := ?_) | refine u4 (hk := ?_) | refine a3 (ht := ?_) (hf := ?_) | refine a4 (ht := ?_) (hf := ?_) | refine a5 (hk := ?_) | refine b5 (hk := ?_) | refine b6 (hk := ?_) | refine b8 (hk := ?_) | refine b9 (hk := ?_) | refine b7 (hk := ?_) | refine p0 (hk := ?_) | refine g1 (hw := ?_) | refine g2 (hw := ?_) | refine g3 (hw := ?_) | refine g4 (hw := ?_) | refine e0' (hk := ?_) | refine b0' (hk := ?_) | refine b1' (hk := ?_) | refine p1' (hk := ?_) | refine e1' (hk := ?_) | refine e2' (hk := ?_) | refine u1' (hk := ?_) | refine u2' (hk := ?_) | refine u3' (hk := ?_) | refine u4' (hk := ?_) | refine e3' (ht := ?_) (hf := ?_) | refine e4' (ht := ?_) (hf := ?_) | refine b4' (hk := ?_) | refine b7b (hk := ?_) | refine e5' (hk := ?_) | refine f5' (hk := ?_) | refine f6' (hk := ?_) | refine f8' (hk := ?_) | refine f9' (hk := ?_) | refine b7' (hk := ?_) | refine p0' (hk := ?_) | refine h1'' (hw := ?_) | refine h2'' (hw := ?_) | refine h3'' (hw := ?_) | refine h4'' (hw := ?_) | (with_reducible intro hc) | refine d6 (ht := ?_) | refine d7 (hf := ?_) | refine u5 (hk := ?_) | refine u6 (hk := ?_) | refine u7 (hk := ?_) | refine u8 (hk := ?_) | refine d8 (ht := ?_) (hf := ?_) | refine d9 (ht := ?_) (hf := ?_))
        refine kU' (ha := rfl) (he := hst _) (hk := ?_)
        intro v' S2 hRk
        obtain ⟨y2', y3', hR', n2', n3', hle', hF'⟩ := fin _ _ _ hRk
        rw [← List.append_nil S2]
        repeat' (first | refine c0 ?_ | refine c1 ?_ | refine c2 ?_ | refine c3 ?_ | refine c4 ?_ | refine c5 ?_ | refine c6 (h := ?_) | refine c7 ?_ | refine d2 ?_ | refine c8 ?_ | refine c9 ?_ | refine d0 ?_ | refine d1 ?_ | refine d4 ?_ | refine d3' (h := ?_) | refine d4' ?_ | refine a0 (hk := ?_) | refine b0 (hk := ?_) | refine b1 (hk := ?_) | refine b2 (hk := ?_) | refine b3 (hk := ?_) | refine b4 (hk := ?_) | refine p1 (hk := ?_) | refine g0' (hk := ?_) | refine a1 (hk := ?_) | refine a2 (hk := ?_) | refine u1 (hk := ?_) | refine u2 (hk := ?_) | refine u3 (hk := ?_) | refine u4 (hk := ?_) | refine a3 (ht := ?_) (hf := ?_) | refine a4 (ht := ?_) (hf := ?_) | refine a5 (hk := ?_) | refine b5 (hk := ?_) | refine b6 (hk := ?_) | refine b8 (hk := ?_) | refine b9 (hk := ?_) | refine b7 (hk := ?_) | refine p0 (hk := ?_) | refine g1 (hw := ?_) | refine g2 (hw := ?_) | refine g3 (hw := ?_) | refine g4 (hw := ?_) | refine e0' (hk := ?_) | refine b0' (hk := ?_) | refine b1' (hk := ?_) | refine p1' (hk := ?_) | refine e1' (hk := ?_) | refine e2' (hk := ?_) | refine u1' (hk := ?_) | refine u2' (hk := ?_) | refine u3' (hk := ?_) | refine u4' (hk := ?_) | refine e3' (ht := ?_) (hf := ?_) | refine e4' (ht := ?_) (hf := ?_) | refine b4' (hk := ?_) | refine b7b (hk := ?_) | refine e5' (hk := ?_) | refine f5' (hk := ?_) | refine f6' (hk := ?_) | refine f8' (hk := ?_) | refine f9' (hk := ?_) | refine b7' (hk := ?_) | refine p0' (hk := ?_) | refine h1'' (hw := ?_) | refine h2'' (hw := ?_) | refine h3'' (hw := ?_) | refine h4'' (hw := ?_) | (with_reducible intro hc) | refine d6 (ht := ?_) | refine d7 (hf := ?_) | refine u5 (hk := ?_) | refine u6 (hk := ?_) | refine u7 (hk := ?_) | refine u8 (hk := ?_) | refine d8 (ht := ?_) (hf := ?_) | refine d9 (ht := ?_) (hf := ?_))
        exact ⟨_, _, _, y2', y3', hq', ho', hs', hn', hw', by simp only; omega, hR', n2', n3', hle', hF', at_mk ⟨rfl, rfl, rfl, inc (by omega), trivial⟩, rfl⟩
      by_cases k3 : kk = 3
      · subst k3
        have hq' : run l r = run rest ⟨r1.nums, r1.ws, r1.ss ++ [(hh, nget r1.nums (j : Int))]⟩ := by rw [hq, run_cons, if_neg (by omega), if_pos rfl]
        have hw' : (r1.ss ++ [(hh, nget r1.nums (j : Int))]).length + rest.sz ≤ 100000 := by rw [List.length_append]; simp; omega
        have hkR : ∀ q n, HV.sl q1 r1.nums.length = .sl q n → q ≠ k := hR.a
        have hk2 := hR.b
        rcases h3.c with ⟨rfl, hw0⟩ | ⟨q3, rfl, fV⟩
        · repeat' (first | refine c0 ?_ | refine c1 ?_ | refine c2 ?_ | refine c3 ?_ | refine c4 ?_ | refine c5 ?_ | refine c6 (h := ?_) | refine c7 ?_ | refine d2 ?_ | refine c8 ?_ | refine c9 ?_ | refine d0 ?_ | refine d1 ?_ | refine d4 ?_ | refine d3' (h := ?_) | refine d4' ?_ | refine a0 (hk := ?_) | refine b0 (hk := ?_) | refine b1 (hk := ?_) | refine b2 (hk := ?_) | refine b3 (hk := ?_) | refine b4 (hk := ?_) | refine p1 (hk := ?_) | refine g0' (hk := ?_) | refine a1 (hk := ?_) | refine a2 (hk := ?_) | refine u1 (hk := ?_) | refine u2 (hk := ?_) | refine u3 (hk := ?_) | refine u4 (hk := ?_) | refine a3 (ht := ?_) (hf := ?_) | refine a4 (ht := ?_) (hf := ?_) | refine a5 (hk := ?_) | refine b5 (hk := ?_) | refine b6 (hk := ?_) | refine b8 (hk := ?_) | refine b9 (hk := ?_) | refine b7 (hk := ?_) | refine p0 (hk := ?_) | refine g1 (hw := ?_) | refine g2 (hw := ?_) | refine g3 (hw := ?_) | refine g4 (hw := ?_) | refine e0' (hk := ?_) | refine b0' (hk := ?_) | refine b1' (hk := ?_) | refine p1' (hk := ?_) | refine e1' (hk := ?_) | refine e2' (hk := ?_) | refine u1' (hk := ?_) | refine u2' (hk := ?_) | refine u3' (hk := ?_) | refine u4' (hk := ?_) | refine e3' (ht := ?_) (hf := ?_) | refine e4' (ht := ?_) (hf := ?_) | refine b4' (hk := ?_) | refine b7b (hk := ?_) | refine e5' (hk := ?_) | refine f5' (hk := ?_) | refine f6' (hk := ?_) | refine f8' (hk := ?_) | refine f9' (hk := ?_) | refine b7' (hk := ?_) | refine p0' (hk := ?_) | refine h1'' (hw := ?_) | refine h2'' (hw := ?_) | refine h3'' (hw := ?_) | refine h4'' (hw := ?_) | (with_reducible intro hc) | refine d6 (ht := ?_) | refine d7 (hf := ?_) | refine u5 (hk := ?_) | refine u6 (hk := ?_) | refine u7 (hk := ?_) | refine u8 (hk := ?_) | refine d8 (ht := ?_) (hf := ?_) | refine d9 (ht := ?_) (hf := ?_))
          refine ⟨_, _, _, y2, .sl (S1.length + 18) 1, hq', ho.2, hs, hn, by simp only; omega, hw', ⟨get_old (setE fB), ⟨(h3.a.set hkR).app, (h3.b.set hk2).app, Col.of' (get_ownL (by simp) rfl) (by simp at hw0; rw [hw0]; rfl) (by simp at hw0; simp [hw0]), h3.ab, apaS fun k n hc => by cases hc; have := (List.getElem?_eq_some_iff.1 fN).1; omega, Apa.symm (apaS fun k n hc => by have := u2 k n hc; omega)⟩, hkR, hk2, fun q n hc => by cases hc; omega⟩, n2, New.nw (by omega), by simp; omega, (hF.set (.inr (.inl rfl))).app (by simp; omega), at_mk ⟨rfl, rfl, rfl, inc (by omega), trivial⟩, (List.append_nil _).symm⟩
        · have h13 : q3 ≠ q1 := x3 _ _ rfl
          have hk3 := g3 _ _ rfl
          have hk3' := Ne.symm hk3
          repeat' (first | refine c0 ?_ | refine c1 ?_ | refine c2 ?_ | refine c3 ?_ | refine c4 ?_ | refine c5 ?_ | refine c6 (h := ?_) | refine c7 ?_ | refine d2 ?_ | refine c8 ?_ | refine c9 ?_ | refine d0 ?_ | refine d1 ?_ | refine d4 ?_ | refine d3' (h := ?_) | refine d4' ?_ | refine a0 (hk := ?_) | refine b0 (hk := ?_) | refine b1 (hk := ?_) | refine b2 (hk := ?_) | refine b3 (hk := ?_) | refine b4 (hk := ?_) | refine p1 (hk := ?_) | refine g0' (hk := ?_) | refine a1 (hk := ?_) | refine a2 (hk := ?_) | refine u1 (hk := ?_) | refine u2 (hk := ?_) | refine u3 (hk := ?_) | refine u4 (hk := ?_) | refine a3 (ht := ?_) (hf := ?_) | refine a4 (ht := ?_) (hf := ?_) | refine a5 (hk := ?_) | refine b5 (hk := ?_) | refine b6 (hk := ?_) | refine b8 (hk := ?_) | refine b9 (hk := ?_) | refine b7 (hk := ?_) | refine p0 (hk := ?_) | refine g1 (hw := ?_) | refine g2 (hw := ?_) | refine g3 (hw := ?_) | refine g4 (hw := ?_) | refine e0' (hk := ?_) | refine b0' (hk := ?_) | refine b1' (hk := ?_) | refine p1' (hk := ?_) | refine e1' (hk := ?_) | refine e2' (hk := ?_) | refine u1' (hk := ?_) | refine u2' (hk := ?_) | refine u3' (hk := ?_) | refine u4' (hk := ?_) | refine e3' (ht := ?_) (hf := ?_) | refine e4' (ht := ?_) (hf := ?_) | refine b4' (hk := ?_) | refine b7b (hk := ?_) | refine e5' (hk := ?_) | refine f5' (hk := ?_) | refine f6' (hk := ?_) | refine f8' (hk := ?_) | refine f9' (hk := ?_) | refine b7' (hk := ?_) | refine p0' (hk := ?_) | refine h1'' (hw := ?_) | refine h2'' (hw := ?_) | refine h3'' (hw := ?_) | refine h4'' (hw := ?_) | (with_reducible intro hc) | refine d6 (ht := ?_) | refine d7 (hf := ?_) | refine u5 (hk := ?_) | refine u6 (hk := ?_) | refine u7 (hk := ?_) | refine u8 (hk := ?_) | refine d8 (ht := ?_) (hf := ?_) | refine d9 (ht := ?_) (hf := ?_))
          refine ⟨_, _, _, y2, .sl q3 ((r1.ss.map wrow).length + 1), hq', ho.2, hs, hn, by simp only; omega, hw', ⟨get_old (setE (setN hk3' fB)), ⟨((h3.a.set fun k n hc => by cases hc; exact Ne.symm h13).set hkR).app, ((h3.b.set fun k n hc => (fun e => h3.bc _ _ _ _ hc rfl e)).set hk2).app, Col.of' (get_old (setN hk3 (setE fV))) (by rw [List.map_append]; rfl) (by simp), h3.ab, apaS fun k n hc => by cases hc; exact h13, Apa.symm (apaS fun k n hc => (fun e => h3.bc _ _ _ _ hc rfl e))⟩, hkR, hk2, fun q n hc => by cases hc; exact hk3⟩, n2, n3.to, by simp; omega, ((hF.set ((n3.own (Nat.le_refl _) rfl).imp id fun h => .inr (.inr (.inr h)))).set (.inr (.inl rfl))).app (by simp; omega), at_mk ⟨rfl, rfl, rfl, inc (by omega), trivial⟩, (List.append_nil _).symm⟩
      have e1 : (kk == 1) = false := by simpa using k1
      have e3 : (kk == 3) = false := by simpa using k3
      have e2 : kk = 2 := by
        have := ho.1
        simp only [stepOk, k1, k3, if_false] at this
        by_cases h2 : kk = 2
        · exact h2
        · simp [h2] at this
      subst e2
      repeat' (first | refine c0 ?_ | refine c1 ?_ | refine c2 ?_ | refine c3 ?_ | refine c4 ?_ | refine c5 ?_ | refine c6 (h := ?_) | refine c7 ?_ | refine d2 ?_ | refine c8 ?_ | refine c9 ?_ | refine d0 ?_ | refine d1 ?_ | refine d4 ?_ | refine d3' (h := ?_) | refine d4' ?_ | refine a0 (hk := ?_) | refine b0 (hk := ?_) | refine b1 (hk := ?_) | refine b2 (hk := ?_) | refine b3 (hk := ?_) | refine b4 (hk := ?_) | refine p1 (hk := ?_) | refine g0' (hk := ?_) | refine a1 (hk := ?_) | refine a2 (hk := ?_) | refine u1 (hk := ?_) | refine u2 (hk := ?_) | refine u3 (hk := ?_) | refine u4 (hk := ?_) | refine a3 (ht := ?_) (hf := ?_) | refine a4 (ht := ?_) (hf := ?_) | refine a5 (hk := ?_) | refine b5 (hk := ?_) | refine b6 (hk := ?_) | refine b8 (hk := ?_) | refine b9 (hk := ?_) | refine b7 (hk := ?_) | refine p0 (hk := ?_) | refine g1 (hw := ?_) | refine g2 (hw := ?_) | refine g3 (hw := ?_) | refine g4 (hw := ?_) | refine e0' (hk := ?_) | refine b0' (hk := ?_) | refine b1' (hk := ?_) | refine p1' (hk := ?_) | refine e1' (hk := ?_) | refine e2' (hk := ?_) | refine u1' (hk := ?_) | refine u2' (hk := ?_) | refine u3' (hk := ?_) | refine u4' (hk := ?_) | refine e3' (ht := ?_) (hf := ?_) | refine e4' (ht := ?_) (hf := ?_) | refine b4' (hk := ?_) | refine b7b (hk := ?_) | refine e5' (hk := ?_) | refine f5' (hk := ?_) | refine f6' (hk := ?_) | refine f8' (hk := ?_) | refine f9' (hk := ?_) | refine b7' (hk := ?_) | refine p0' (hk := ?_) | refine h1'' (hw := ?_) | refine h2'' (hw := ?_) | refine h3'' (hw := ?_) | refine h4'' (hw := ?_) | (with_reducible intro hc) | refine d6 (ht := ?_) | refine d7 (hf := ?_) | refine u5 (hk := ?_) | refine u6 (hk := ?_) | refine u7 (hk := ?_) | refine u8 (hk := ?_) | refine d8 (ht := ?_) (hf := ?_) | refine d9 (ht := ?_) (hf := ?_))
      · refine kX (he := ih t.sz (by omega) t (d - 1) r1 _ _ _ _ _ (Nat.le_refl _) (by omega) ht hs hn (by omega) (by omega) hR.app) (hk := ?_)
        rintro v S2 ⟨rfl, y2', y3', hR', n2', n3', hle', hF'⟩
        simp at hle'
        have hri := runs_in t (d - 1) r1 ht hs
        rw [← List.append_nil S2]
        repeat' (first | refine c0 ?_ | refine c1 ?_ | refine c2 ?_ | refine c3 ?_ | refine c4 ?_ | refine c5 ?_ | refine c6 (h := ?_) | refine c7 ?_ | refine d2 ?_ | refine c8 ?_ | refine c9 ?_ | refine d0 ?_ | refine d1 ?_ | refine d4 ?_ | refine a0 (hk := ?_) | refine b0 (hk := ?_) | refine b1 (hk := ?_) | refine b2 (hk := ?_) | refine b3 (hk := ?_) | refine b4 (hk := ?_) | refine p1 (hk := ?_) | refine g0' (hk := ?_) | refine a1 (hk := ?_) | refine a2 (hk := ?_) | refine u1 (hk := ?_) | refine u2 (hk := ?_) | refine u3 (hk := ?_) | refine u4 (hk := ?_) | refine a3 (ht := ?_) (hf := ?_) | refine a4 (ht := ?_) (hf := ?_) | refine a5 (hk := ?_) | refine b5 (hk := ?_) | refine b6 (hk := ?_) | refine b8 (hk := ?_) | refine b9 (hk := ?_) | refine b7 (hk := ?_) | refine p0 (hk := ?_) | refine g1 (hw := ?_) | refine g2 (hw := ?_) | refine g3 (hw := ?_) | refine g4 (hw := ?_) | (with_reducible intro hc) | refine d6 (ht := ?_) | refine d7 (hf := ?_) | refine u5 (hk := ?_) | refine u6 (hk := ?_) | refine u7 (hk := ?_) | refine u8 (hk := ?_) | refine d8 (ht := ?_) (hf := ?_) | refine d9 (ht := ?_) (hf := ?_))
        refine ⟨_, _, run t r1, y2', y3', ?_, by rw [hri.1]; exact ho.2, hri.2.1, by rw [hri.1]; exact hn, by omega, by omega, hR', n2.trans n2' (by simp; omega), n3.trans n3' (by simp; omega), by omega, (hF.app hle).trans hF' n2 n3 (Nat.le_refl _) (by simp; omega), at_mk ⟨rfl, rfl, rfl, inc (by omega), trivial⟩, rfl⟩
        rw [hq, run_cons, if_neg k1, if_neg k3, if_pos (by simpa using hc)]
      · refine kX (he := ih e.sz (by omega) e (d - 1) r1 _ _ _ _ _ (Nat.le_refl _) (by omega) he hs hn (by omega) (by omega) hR.app) (hk := ?_)
        rintro v S2 ⟨rfl, y2', y3', hR', n2', n3', hle', hF'⟩
        simp at hle'
        have hri := runs_in e (d - 1) r1 he hs
        rw [← List.append_nil S2]
        repeat' (first | refine c0 ?_ | refine c1 ?_ | refine c2 ?_ | refine c3 ?_ | refine c4 ?_ | refine c5 ?_ | refine c6 (h := ?_) | refine c7 ?_ | refine d2 ?_ | refine c8 ?_ | refine c9 ?_ | refine d0 ?_ | refine d1 ?_ | refine d4 ?_ | refine a0 (hk := ?_) | refine b0 (hk := ?_) | refine b1 (hk := ?_) | refine b2 (hk := ?_) | refine b3 (hk := ?_) | refine b4 (hk := ?_) | refine p1 (hk := ?_) | refine g0' (hk := ?_) | refine a1 (hk := ?_) | refine a2 (hk := ?_) | refine u1 (hk := ?_) | refine u2 (hk := ?_) | refine u3 (hk := ?_) | refine u4 (hk := ?_) | refine a3 (ht := ?_) (hf := ?_) | refine a4 (ht := ?_) (hf := ?_) | refine a5 (hk := ?_) | refine b5 (hk := ?_) | refine b6 (hk := ?_) | refine b8 (hk := ?_) | refine b9 (hk := ?_) | refine b7 (hk := ?_) | refine p0 (hk := ?_) | refine g1 (hw := ?_) | refine g2 (hw := ?_) | refine g3 (hw := ?_) | refine g4 (hw := ?_) | (with_reducible intro hc) | refine d6 (ht := ?_) | refine d7 (hf := ?_) | refine u5 (hk := ?_) | refine u6 (hk := ?_) | refine u7 (hk := ?_) | refine u8 (hk := ?_) | refine d8 (ht := ?_) (hf := ?_) | refine d9 (ht := ?_) (hf := ?_))
        refine ⟨_, _, run e r1, y2', y3', ?_, by rw [hri.1]; exact ho.2, hri.2.1, by rw [hri.1]; exact hn, by omega, by omega, hR', n2.trans n2' (by simp; omega), n3.trans n3' (by simp; omega), by omega, (hF.app hle).trans hF' n2 n3 (Nat.le_refl _) (by simp; omega), at_mk ⟨rfl, rfl, rfl, inc (by omega), trivial⟩, rfl⟩
        rw [hq, run_cons, if_neg k1, if_neg k3, if_neg (by simpa using hc)]
    · rintro pre T' S' hl ⟨T0, S1, r1, y2, y3, hq, ho, hs, hn, hw, hv, hR, n2, n3, hle, hF, rfl, rfl⟩
      have hlt' : ¬ ((pre.length : Int) < (l.rows.length : Int)) := by rw [hl]; omega
      repeat' (first | refine c0 ?_ | refine c1 ?_ | refine c2 ?_ | refine c3 ?_ | refine c4 ?_ | refine c5 ?_ | refine c6 (h := ?_) | refine c7 ?_ | refine d2 ?_ | refine c8 ?_ | refine c9 ?_ | refine d0 ?_ | refine d1 ?_ | refine d4 ?_ | refine a0 (hk := ?_) | refine b0 (hk := ?_) | refine b1 (hk := ?_) | refine b2 (hk := ?_) | refine b3 (hk := ?_) | refine b4 (hk := ?_) | refine p1 (hk := ?_) | refine g0' (hk := ?_) | refine a1 (hk := ?_) | refine a2 (hk := ?_) | refine u1 (hk := ?_) | refine u2 (hk := ?_) | refine u3 (hk := ?_) | refine u4 (hk := ?_) | refine a3 (ht := ?_) (hf := ?_) | refine a4 (ht := ?_) (hf := ?_) | refine a5 (hk := ?_) | refine b5 (hk := ?_) | refine b6 (hk := ?_) | refine b8 (hk := ?_) | refine b9 (hk := ?_) | refine b7 (hk := ?_) | refine p0 (hk := ?_) | refine g1 (hw := ?_) | refine g2 (hw := ?_) | refine g3 (hw := ?_) | refine g4 (hw := ?_) | (with_reducible intro hc) | refine d6 (ht := ?_) | refine d7 (hf := ?_) | refine u5 (hk := ?_) | refine u6 (hk := ?_) | refine u7 (hk := ?_) | refine u8 (hk := ?_) | refine d8 (ht := ?_) (hf := ?_) | refine d9 (ht := ?_) (hf := ?_))
      refine ⟨_, _, rKeepN, rfl, y2, y3, ?_, n2, n3, by simp; omega, hF.app hle⟩
      rw [hq]
      exact hR.app
end Go.Proofs.X
end
section
namespace Go.Proofs.X
open Go Go.Proofs.XVai Go.Proofs Go.Proofs.XN
set_option linter.unusedVariables false
set_option linter.unusedSimpArgs false
set_option maxHeartbeats 4000000
set_option maxRecDepth 100000
theorem wrow22 (ws : List (Int × Int)) : (ws.map wrow).all (fun r => r.length == 2 && r.all isCell) = true := by simp [isCell]
theorem Col.own {S X : St} {j : Nat} {o : Ob} {fr : Bool} {c : HV} {rows : List (List HV)} (h : Col fr (S ++ X) c rows) (hj : ∀ k n, c = .sl k n → k ≠ S.length + j) : Col fr (S ++ X.set j o) c rows := by
  rw [← set_own]; exact h.set hj
theorem Run3.frzR {S S1 : St} {r : Rn} {c1 c2 c3 : HV} (h : Run3 S1 r c1 c2 c3) (h1 : ∀ k n, c1 = .sl k n → S.length ≤ k) (h2 : ∀ k n, c2 = .sl k n → S.length ≤ k) (h3 : ∀ k n, c3 = .sl k n → S.length ≤ k) (hl : S.length ≤ S1.length) (ho : ∀ j, j < S.length → S1[j]? = S[j]?) :
    ∃ S2, XVai.frzR S.length (.agg [c1, c2, c3]) S1 = some (RN r.nums r.ws r.ss, S2) ∧ S.length ≤ S2.length ∧ ∀ j, j < S.length → S2[j]? = S[j]? := by
  obtain ⟨S2, z1, z2, z3⟩ := h.frz h1 h2 h3
  refine ⟨S2, by rw [← z1]; rfl, by omega, fun j hj => ?_⟩
  rw [z3 j (fun n hc => by have := h1 j n hc; omega) (fun n hc => by have := h2 j n hc; omega) (fun n hc => by have := h3 j n hc; omega), ho j hj]
/-- A run out of a cell of one's own. -/
theorem rRn {f : Nat} {fn : Func} {T' : Tm} {S S1 : St} {r : Rn} {c1 c2 c3 : HV} (hkp : Y.keep f = false := by rfl) {a : Tmp} {t : TypeId} (hres : fn.results.toList = [.cell a t] := by rfl) {ti : TI} (h1 : Y.tab t = some ti := by rfl) {q n i of' : Nat} {fr : Bool} {rows : List (List HV)} {row : List HV}
    (h2 : T' a = .ptr q n i of' := by rfl) (h3 : S1[q]? = some (.cells fr rows)) (h4 : rows.length = n := by rfl) (h5 : rows[i]? = some row := by rfl) (h6 : XVai.part ti.agg ti.size row of' = some (.agg [c1, c2, c3]) := by rfl) (hR : Run3 S1 r c1 c2 c3)
    (o1 : ∀ k n, c1 = .sl k n → S.length ≤ k) (o2 : ∀ k n, c2 = .sl k n → S.length ≤ k) (o3 : ∀ k n, c3 = .sl k n → S.length ≤ k) (hl : S.length ≤ S1.length) (ho : ∀ j, j < S.length → S1[j]? = S[j]?) : RT Y f fn S (RN r.nums r.ws r.ss) S .ret T' S1 := by
  obtain ⟨S2, z1, z2, z3⟩ := hR.frzR o1 o2 o3 hl ho
  exact rCG hkp hres h1 h2 h3 h4 h5 h6 z1 rfl z2 z3
theorem apaI {k n k' n' : Nat} (h : k ≠ k') : Apa (.sl k n) (.sl k' n') := fun a b c d h1 h2 e => by cases h1; cases h2; exact h e
theorem apaN {a : HV} : Apa a .nils := fun k n k' n' _ h => by cases h
theorem ownN {m : Nat} : ∀ k n, HV.nils = .sl k n → m ≤ k := fun k n h => by cases h
theorem ownI {m q l : Nat} (h : m ≤ q) : ∀ k n, HV.sl q l = .sl k n → m ≤ k := fun k n h => by cases h; assumption
theorem k_impl_Run_clone (r : Rn) (S : St) (h1 : r.nums.length ≤ 1048576) (h2 : r.ws.length ≤ 1048576) (h3 : r.ss.length ≤ 1048576) : Ev Y impl_Run_clone [RN r.nums r.ws r.ss] S (RN r.nums r.ws r.ss) S := by
  obtain ⟨nums, ws, ss⟩ := r
  simp only at h1 h2 h3 ⊢
  have w2 := wrow22 ws
  have w3 := wrow22 ss
  cases ws with
  | nil =>
    cases ss with
    | nil =>
      refine E_start (h := ?_)
      repeat' (first | refine c0 ?_ | refine c1 ?_ | refine c2 ?_ | refine c3 ?_ | refine c4 ?_ | refine c5 ?_ | refine c6 (h := ?_) | refine c7 ?_ | refine d2 ?_ | refine c8 ?_ | refine c9 ?_ | refine d0 ?_ | refine d1 ?_ | refine d4 ?_ | refine d3' (h := ?_) | refine d4' ?_ | refine a0 (hk := ?_) | refine b0 (hk := ?_) | refine b1 (hk := ?_) | refine b2 (hk := ?_) | refine b3 (hk := ?_) | refine b4 (hk := ?_) | refine p1 (hk := ?_) | refine g0' (hk := ?_) | refine a1 (hk := ?_) | refine a2 (hk := ?_) | refine u1 (hk := ?_) | refine u2 (hk := ?_) | refine u3 (hk := ?_) | refine u4 (hk := ?_) | refine a3 (ht := ?_) (hf := ?_) | refine a4 (ht := ?_) (hf := ?_) | refine a5 (hk := ?_) | refine b5 (hk := ?_) | refine b6 (hk := ?_) | refine b8 (hk := ?_) | refine b9 (hk := ?_) | refine b7 (hk := ?_) | refine p0 (hk := ?_) | refine g1 (hw := ?_) | refine g2 (hw := ?_) | refine g3 (hw := ?_) | refine g4 (hw := ?_) | refine e0' (hk := ?_) | refine b0' (hk := ?_) | refine b1' (hk := ?_) | refine p1' (hk := ?_) | refine e1' (hk := ?_) | refine e2' (hk := ?_) | refine u1' (hk := ?_) | refine u2' (hk := ?_) | refine u3' (hk := ?_) | refine u4' (hk := ?_) | refine e3' (ht := ?_) (hf := ?_) | refine e4' (ht := ?_) (hf := ?_) | refine b4' (hk := ?_) | refine b7b (hk := ?_) | refine e5' (hk := ?_) | refine f5' (hk := ?_) | refine f6' (hk := ?_) | refine f8' (hk := ?_) | refine f9' (hk := ?_) | refine b7' (hk := ?_) | refine p0' (hk := ?_) | refine h1'' (hw := ?_) | refine h2'' (hw := ?_) | refine h3'' (hw := ?_) | refine h4'' (hw := ?_) | (with_reducible intro hc) | refine d6 (ht := ?_) | refine d7 (hf := ?_) | refine u5 (hk := ?_) | refine u6 (hk := ?_) | refine u7 (hk := ?_) | refine u8 (hk := ?_) | refine d8 (ht := ?_) (hf := ?_) | refine d9 (ht := ?_) (hf := ?_))
      refine kX' (he := k_impl_cloneInts nums _ h1) (hx := fun v S' ⟨J, h, _⟩ => ⟨J, h⟩) (hk := ?_)
      rintro c1 J ⟨J', -, hC, hle⟩
      rw [List.append_assoc] at hC ⊢
      rcases hC with ⟨rfl, hz⟩ | ⟨q, rfl, hq⟩
      · have hC0 : ∀ S, Col false S .nils (nums.map irow) := fun _ => .inl ⟨rfl, hz⟩
        repeat' (first | refine c0 ?_ | refine c1 ?_ | refine c2 ?_ | refine c3 ?_ | refine c4 ?_ | refine c5 ?_ | refine c6 (h := ?_) | refine c7 ?_ | refine d2 ?_ | refine c8 ?_ | refine c9 ?_ | refine d0 ?_ | refine d1 ?_ | refine d4 ?_ | refine d3' (h := ?_) | refine d4' ?_ | refine a0 (hk := ?_) | refine b0 (hk := ?_) | refine b1 (hk := ?_) | refine b2 (hk := ?_) | refine b3 (hk := ?_) | refine b4 (hk := ?_) | refine p1 (hk := ?_) | refine g0' (hk := ?_) | refine a1 (hk := ?_) | refine a2 (hk := ?_) | refine u1 (hk := ?_) | refine u2 (hk := ?_) | refine u3 (hk := ?_) | refine u4 (hk := ?_) | refine a3 (ht := ?_) (hf := ?_) | refine a4 (ht := ?_) (hf := ?_) | refine a5 (hk := ?_) | refine b5 (hk := ?_) | refine b6 (hk := ?_) | refine b8 (hk := ?_) | refine b9 (hk := ?_) | refine b7 (hk := ?_) | refine p0 (hk := ?_) | refine g1 (hw := ?_) | refine g2 (hw := ?_) | refine g3 (hw := ?_) | refine g4 (hw := ?_) | refine e0' (hk := ?_) | refine b0' (hk := ?_) | refine b1' (hk := ?_) | refine p1' (hk := ?_) | refine e1' (hk := ?_) | refine e2' (hk := ?_) | refine u1' (hk := ?_) | refine u2' (hk := ?_) | refine u3' (hk := ?_) | refine u4' (hk := ?_) | refine e3' (ht := ?_) (hf := ?_) | refine e4' (ht := ?_) (hf := ?_) | refine b4' (hk := ?_) | refine b7b (hk := ?_) | refine e5' (hk := ?_) | refine f5' (hk := ?_) | refine f6' (hk := ?_) | refine f8' (hk := ?_) | refine f9' (hk := ?_) | refine b7' (hk := ?_) | refine p0' (hk := ?_) | refine h1'' (hw := ?_) | refine h2'' (hw := ?_) | refine h3'' (hw := ?_) | refine h4'' (hw := ?_) | (with_reducible intro hc) | refine d6 (ht := ?_) | refine d7 (hf := ?_) | refine u5 (hk := ?_) | refine u6 (hk := ?_) | refine u7 (hk := ?_) | refine u8 (hk := ?_) | refine d8 (ht := ?_) (hf := ?_) | refine d9 (ht := ?_) (hf := ?_))
        refine pN' (hk := ?_)
        repeat' (first | refine c0 ?_ | refine c1 ?_ | refine c2 ?_ | refine c3 ?_ | refine c4 ?_ | refine c5 ?_ | refine c6 (h := ?_) | refine c7 ?_ | refine d2 ?_ | refine c8 ?_ | refine c9 ?_ | refine d0 ?_ | refine d1 ?_ | refine d4 ?_ | refine d3' (h := ?_) | refine d4' ?_ | refine a0 (hk := ?_) | refine b0 (hk := ?_) | refine b1 (hk := ?_) | refine b2 (hk := ?_) | refine b3 (hk := ?_) | refine b4 (hk := ?_) | refine p1 (hk := ?_) | refine g0' (hk := ?_) | refine a1 (hk := ?_) | refine a2 (hk := ?_) | refine u1 (hk := ?_) | refine u2 (hk := ?_) | refine u3 (hk := ?_) | refine u4 (hk := ?_) | refine a3 (ht := ?_) (hf := ?_) | refine a4 (ht := ?_) (hf := ?_) | refine a5 (hk := ?_) | refine b5 (hk := ?_) | refine b6 (hk := ?_) | refine b8 (hk := ?_) | refine b9 (hk := ?_) | refine b7 (hk := ?_) | refine p0 (hk := ?_) | refine g1 (hw := ?_) | refine g2 (hw := ?_) | refine g3 (hw := ?_) | refine g4 (hw := ?_) | refine e0' (hk := ?_) | refine b0' (hk := ?_) | refine b1' (hk := ?_) | refine p1' (hk := ?_) | refine e1' (hk := ?_) | refine e2' (hk := ?_) | refine u1' (hk := ?_) | refine u2' (hk := ?_) | refine u3' (hk := ?_) | refine u4' (hk := ?_) | refine e3' (ht := ?_) (hf := ?_) | refine e4' (ht := ?_) (hf := ?_) | refine b4' (hk := ?_) | refine b7b (hk := ?_) | refine e5' (hk := ?_) | refine f5' (hk := ?_) | refine f6' (hk := ?_) | refine f8' (hk := ?_) | refine f9' (hk := ?_) | refine b7' (hk := ?_) | refine p0' (hk := ?_) | refine h1'' (hw := ?_) | refine h2'' (hw := ?_) | refine h3'' (hw := ?_) | refine h4'' (hw := ?_) | (with_reducible intro hc) | refine d6 (ht := ?_) | refine d7 (hf := ?_) | refine u5 (hk := ?_) | refine u6 (hk := ?_) | refine u7 (hk := ?_) | refine u8 (hk := ?_) | refine d8 (ht := ?_) (hf := ?_) | refine d9 (ht := ?_) (hf := ?_))
        refine pN' (hk := ?_)
        repeat' (first | refine c0 ?_ | refine c1 ?_ | refine c2 ?_ | refine c3 ?_ | refine c4 ?_ | refine c5 ?_ | refine c6 (h := ?_) | refine c7 ?_ | refine d2 ?_ | refine c8 ?_ | refine c9 ?_ | refine d0 ?_ | refine d1 ?_ | refine d4 ?_ | refine d3' (h := ?_) | refine d4' ?_ | refine a0 (hk := ?_) | refine b0 (hk := ?_) | refine b1 (hk := ?_) | refine b2 (hk := ?_) | refine b3 (hk := ?_) | refine b4 (hk := ?_) | refine p1 (hk := ?_) | refine g0' (hk := ?_) | refine a1 (hk := ?_) | refine a2 (hk := ?_) | refine u1 (hk := ?_) | refine u2 (hk := ?_) | refine u3 (hk := ?_) | refine u4 (hk := ?_) | refine a3 (ht := ?_) (hf := ?_) | refine a4 (ht := ?_) (hf := ?_) | refine a5 (hk := ?_) | refine b5 (hk := ?_) | refine b6 (hk := ?_) | refine b8 (hk := ?_) | refine b9 (hk := ?_) | refine b7 (hk := ?_) | refine p0 (hk := ?_) | refine g1 (hw := ?_) | refine g2 (hw := ?_) | refine g3 (hw := ?_) | refine g4 (hw := ?_) | refine e0' (hk := ?_) | refine b0' (hk := ?_) | refine b1' (hk := ?_) | refine p1' (hk := ?_) | refine e1' (hk := ?_) | refine e2' (hk := ?_) | refine u1' (hk := ?_) | refine u2' (hk := ?_) | refine u3' (hk := ?_) | refine u4' (hk := ?_) | refine e3' (ht := ?_) (hf := ?_) | refine e4' (ht := ?_) (hf := ?_) | refine b4' (hk := ?_) | refine b7b (hk := ?_) | refine e5' (hk := ?_) | refine f5' (hk := ?_) | refine f6' (hk := ?_) | refine f8' (hk := ?_) | refine f9' (hk := ?_) | refine b7' (hk := ?_) | refine p0' (hk := ?_) | refine h1'' (hw := ?_) | refine h2'' (hw := ?_) | refine h3'' (hw := ?_) | refine h4'' (hw := ?_) | (with_reducible intro hc) | refine d6 (ht := ?_) | refine d7 (hf := ?_) | refine u5 (hk := ?_) | refine u6 (hk := ?_) | refine u7 (hk := ?_) | refine u8 (hk := ?_) | refine d8 (ht := ?_) (hf := ?_) | refine d9 (ht := ?_) (hf := ?_))
        refine rRn (r := ⟨nums, [], []⟩) (c1 := .nils) (c2 := .nils) (c3 := .nils) (h3 := get_own rfl) (hR := ⟨hC0 _, .inl ⟨rfl, rfl⟩, .inl ⟨rfl, rfl⟩, apa0, apa0, apa0⟩) (o1 := ownN) (o2 := ownN) (o3 := ownN) (hl := by simp) (ho := fun j hj => by rw [List.getElem?_append_left hj])
      have hql := hle _ _ rfl
      simp at hql
      have hC0 : Col false (S ++ _) (.sl q (nums.map irow).length) (nums.map irow) := .inr ⟨q, rfl, hq⟩
      repeat' (first | refine c0 ?_ | refine c1 ?_ | refine c2 ?_ | refine c3 ?_ | refine c4 ?_ | refine c5 ?_ | refine c6 (h := ?_) | refine c7 ?_ | refine d2 ?_ | refine c8 ?_ | refine c9 ?_ | refine d0 ?_ | refine d1 ?_ | refine d4 ?_ | refine d3' (h := ?_) | refine d4' ?_ | refine a0 (hk := ?_) | refine b0 (hk := ?_) | refine b1 (hk := ?_) | refine b2 (hk := ?_) | refine b3 (hk := ?_) | refine b4 (hk := ?_) | refine p1 (hk := ?_) | refine g0' (hk := ?_) | refine a1 (hk := ?_) | refine a2 (hk := ?_) | refine u1 (hk := ?_) | refine u2 (hk := ?_) | refine u3 (hk := ?_) | refine u4 (hk := ?_) | refine a3 (ht := ?_) (hf := ?_) | refine a4 (ht := ?_) (hf := ?_) | refine a5 (hk := ?_) | refine b5 (hk := ?_) | refine b6 (hk := ?_) | refine b8 (hk := ?_) | refine b9 (hk := ?_) | refine b7 (hk := ?_) | refine p0 (hk := ?_) | refine g1 (hw := ?_) | refine g2 (hw := ?_) | refine g3 (hw := ?_) | refine g4 (hw := ?_) | refine e0' (hk := ?_) | refine b0' (hk := ?_) | refine b1' (hk := ?_) | refine p1' (hk := ?_) | refine e1' (hk := ?_) | refine e2' (hk := ?_) | refine u1' (hk := ?_) | refine u2' (hk := ?_) | refine u3' (hk := ?_) | refine u4' (hk := ?_) | refine e3' (ht := ?_) (hf := ?_) | refine e4' (ht := ?_) (hf := ?_) | refine b4' (hk := ?_) | refine b7b (hk := ?_) | refine e5' (hk := ?_) | refine f5' (hk := ?_) | refine f6' (hk := ?_) | refine f8' (hk := ?_) | refine f9' (hk := ?_) | refine b7' (hk := ?_) | refine p0' (hk := ?_) | refine h1'' (hw := ?_) | refine h2'' (hw := ?_) | refine h3'' (hw := ?_) | refine h4'' (hw := ?_) | (with_reducible intro hc) | refine d6 (ht := ?_) | refine d7 (hf := ?_) | refine u5 (hk := ?_) | refine u6 (hk := ?_) | refine u7 (hk := ?_) | refine u8 (hk := ?_) | refine d8 (ht := ?_) (hf := ?_) | refine d9 (ht := ?_) (hf := ?_))
      refine pN' (hk := ?_)
      repeat' (first | refine c0 ?_ | refine c1 ?_ | refine c2 ?_ | refine c3 ?_ | refine c4 ?_ | refine c5 ?_ | refine c6 (h := ?_) | refine c7 ?_ | refine d2 ?_ | refine c8 ?_ | refine c9 ?_ | refine d0 ?_ | refine d1 ?_ | refine d4 ?_ | refine d3' (h := ?_) | refine d4' ?_ | refine a0 (hk := ?_) | refine b0 (hk := ?_) | refine b1 (hk := ?_) | refine b2 (hk := ?_) | refine b3 (hk := ?_) | refine b4 (hk := ?_) | refine p1 (hk := ?_) | refine g0' (hk := ?_) | refine a1 (hk := ?_) | refine a2 (hk := ?_) | refine u1 (hk := ?_) | refine u2 (hk := ?_) | refine u3 (hk := ?_) | refine u4 (hk := ?_) | refine a3 (ht := ?_) (hf := ?_) | refine a4 (ht := ?_) (hf := ?_) | refine a5 (hk := ?_) | refine b5 (hk := ?_) | refine b6 (hk := ?_) | refine b8 (hk := ?_) | refine b9 (hk := ?_) | refine b7 (hk := ?_) | refine p0 (hk := ?_) | refine g1 (hw := ?_) | refine g2 (hw := ?_) | refine g3 (hw := ?_) | refine g4 (hw := ?_) | refine e0' (hk := ?_) | refine b0' (hk := ?_) | refine b1' (hk := ?_) | refine p1' (hk := ?_) | refine e1' (hk := ?_) | refine e2' (hk := ?_) | refine u1' (hk := ?_) | refine u2' (hk := ?_) | refine u3' (hk := ?_) | refine u4' (hk := ?_) | refine e3' (ht := ?_) (hf := ?_) | refine e4' (ht := ?_) (hf := ?_) | refine b4' (hk := ?_) | refine b7b (hk := ?_) | refine e5' (hk := ?_) | refine f5' (hk := ?_) | refine f6' (hk := ?_) | refine f8' (hk := ?_) | refine f9' (hk := ?_) | refine b7' (hk := ?_) | refine p0' (hk := ?_) | refine h1'' (hw := ?_) | refine h2'' (hw := ?_) | refine h3'' (hw := ?_) | refine h4'' (hw := ?_) | (with_reducible intro hc) | refine d6 (ht := ?_) | refine d7 (hf := ?_) | refine u5 (hk := ?_) | refine u6 (hk := ?_) | refine u7 (hk := ?_) | refine u8 (hk := ?_) | refine d8 (ht := ?_) (hf := ?_) | refine d9 (ht := ?_) (hf := ?_))
      refine pN' (hk := ?_)
      repeat' (first | refine c0 ?_ | refine c1 ?_ | refine c2 ?_ | refine c3 ?_ | refine c4 ?_ | refine c5 ?_ | refine c6 (h := ?_) | refine c7 ?_ | refine d2 ?_ | refine c8 ?_ | refine c9 ?_ | refine d0 ?_ | refine d1 ?_ | refine d4 ?_ | refine d3' (h := ?_) | refine d4' ?_ | refine a0 (hk := ?_) | refine b0 (hk := ?_) | refine b1 (hk := ?_) | refine b2 (hk := ?_) | refine b3 (hk := ?_) | refine b4 (hk := ?_) | refine p1 (hk := ?_) | refine g0' (hk := ?_) | refine a1 (hk := ?_) | refine a2 (hk := ?_) | refine u1 (hk := ?_) | refine u2 (hk := ?_) | refine u3 (hk := ?_) | refine u4 (hk := ?_) | refine a3 (ht := ?_) (hf := ?_) | refine a4 (ht := ?_) (hf := ?_) | refine a5 (hk := ?_) | refine b5 (hk := ?_) | refine b6 (hk := ?_) | refine b8 (hk := ?_) | refine b9 (hk := ?_) | refine b7 (hk := ?_) | refine p0 (hk := ?_) | refine g1 (hw := ?_) | refine g2 (hw := ?_) | refine g3 (hw := ?_) | refine g4 (hw := ?_) | refine e0' (hk := ?_) | refine b0' (hk := ?_) | refine b1' (hk := ?_) | refine p1' (hk := ?_) | refine e1' (hk := ?_) | refine e2' (hk := ?_) | refine u1' (hk := ?_) | refine u2' (hk := ?_) | refine u3' (hk := ?_) | refine u4' (hk := ?_) | refine e3' (ht := ?_) (hf := ?_) | refine e4' (ht := ?_) (hf := ?_) | refine b4' (hk := ?_) | refine b7b (hk := ?_) | refine e5' (hk := ?_) | refine f5' (hk := ?_) | refine f6' (hk := ?_) | refine f8' (hk := ?_) | refine f9' (hk := ?_) | refine b7' (hk := ?_) | refine p0' (hk := ?_) | refine h1'' (hw := ?_) | refine h2'' (hw := ?_) | refine h3'' (hw := ?_) | refine h4'' (hw := ?_) | (with_reducible intro hc) | refine d6 (ht := ?_) | refine d7 (hf := ?_) | refine u5 (hk := ?_) | refine u6 (hk := ?_) | refine u7 (hk := ?_) | refine u8 (hk := ?_) | refine d8 (ht := ?_) (hf := ?_) | refine d9 (ht := ?_) (hf := ?_))
      refine rRn (r := ⟨nums, [], []⟩) (c1 := (.sl q (nums.map irow).length)) (c2 := .nils) (c3 := .nils) (h3 := get_own rfl) (hR := ⟨(hC0.own fun k n hc => by cases hc; omega), .inl ⟨rfl, rfl⟩, .inl ⟨rfl, rfl⟩, apaN, apaN, apa0⟩) (o1 := (ownI (by omega))) (o2 := ownN) (o3 := ownN) (hl := by simp) (ho := fun j hj => by rw [List.getElem?_append_left hj])
    | cons s0 st =>
      have h3' : st.length + 1 ≤ 1048576 := by simpa using h3
      refine E_start (h := ?_)
      repeat' (first | refine c0 ?_ | refine c1 ?_ | refine c2 ?_ | refine c3 ?_ | refine c4 ?_ | refine c5 ?_ | refine c6 (h := ?_) | refine c7 ?_ | refine d2 ?_ | refine c8 ?_ | refine c9 ?_ | refine d0 ?_ | refine d1 ?_ | refine d4 ?_ | refine d3' (h := ?_) | refine d4' ?_ | refine a0 (hk := ?_) | refine b0 (hk := ?_) | refine b1 (hk := ?_) | refine b2 (hk := ?_) | refine b3 (hk := ?_) | refine b4 (hk := ?_) | refine p1 (hk := ?_) | refine g0' (hk := ?_) | refine a1 (hk := ?_) | refine a2 (hk := ?_) | refine u1 (hk := ?_) | refine u2 (hk := ?_) | refine u3 (hk := ?_) | refine u4 (hk := ?_) | refine a3 (ht := ?_) (hf := ?_) | refine a4 (ht := ?_) (hf := ?_) | refine a5 (hk := ?_) | refine b5 (hk := ?_) | refine b6 (hk := ?_) | refine b8 (hk := ?_) | refine b9 (hk := ?_) | refine b7 (hk := ?_) | refine p0 (hk := ?_) | refine g1 (hw := ?_) | refine g2 (hw := ?_) | refine g3 (hw := ?_) | refine g4 (hw := ?_) | refine e0' (hk := ?_) | refine b0' (hk := ?_) | refine b1' (hk := ?_) | refine p1' (hk := ?_) | refine e1' (hk := ?_) | refine e2' (hk := ?_) | refine u1' (hk := ?_) | refine u2' (hk := ?_) | refine u3' (hk := ?_) | refine u4' (hk := ?_) | refine e3' (ht := ?_) (hf := ?_) | refine e4' (ht := ?_) (hf := ?_) | refine b4' (hk := ?_) | refine b7b (hk := ?_) | refine e5' (hk := ?_) | refine f5' (hk := ?_) | refine f6' (hk := ?_) | refine f8' (hk := ?_) | refine f9' (hk := ?_) | refine b7' (hk := ?_) | refine p0' (hk := ?_) | refine h1'' (hw := ?_) | refine h2'' (hw := ?_) | refine h3'' (hw := ?_) | refine h4'' (hw := ?_) | (with_reducible intro hc) | refine d6 (ht := ?_) | refine d7 (hf := ?_) | refine u5 (hk := ?_) | refine u6 (hk := ?_) | refine u7 (hk := ?_) | refine u8 (hk := ?_) | refine d8 (ht := ?_) (hf := ?_) | refine d9 (ht := ?_) (hf := ?_))
      refine kX' (he := k_impl_cloneInts nums _ h1) (hx := fun v S' ⟨J, h, _⟩ => ⟨J, h⟩) (hk := ?_)
      rintro c1 J ⟨J', -, hC, hle⟩
      rw [List.append_assoc] at hC ⊢
      rcases hC with ⟨rfl, hz⟩ | ⟨q, rfl, hq⟩
      · have hC0 : ∀ S, Col false S .nils (nums.map irow) := fun _ => .inl ⟨rfl, hz⟩
        repeat' (first | refine c0 ?_ | refine c1 ?_ | refine c2 ?_ | refine c3 ?_ | refine c4 ?_ | refine c5 ?_ | refine c6 (h := ?_) | refine c7 ?_ | refine d2 ?_ | refine c8 ?_ | refine c9 ?_ | refine d0 ?_ | refine d1 ?_ | refine d4 ?_ | refine d3' (h := ?_) | refine d4' ?_ | refine a0 (hk := ?_) | refine b0 (hk := ?_) | refine b1 (hk := ?_) | refine b2 (hk := ?_) | refine b3 (hk := ?_) | refine b4 (hk := ?_) | refine p1 (hk := ?_) | refine g0' (hk := ?_) | refine a1 (hk := ?_) | refine a2 (hk := ?_) | refine u1 (hk := ?_) | refine u2 (hk := ?_) | refine u3 (hk := ?_) | refine u4 (hk := ?_) | refine a3 (ht := ?_) (hf := ?_) | refine a4 (ht := ?_) (hf := ?_) | refine a5 (hk := ?_) | refine b5 (hk := ?_) | refine b6 (hk := ?_) | refine b8 (hk := ?_) | refine b9 (hk := ?_) | refine b7 (hk := ?_) | refine p0 (hk := ?_) | refine g1 (hw := ?_) | refine g2 (hw := ?_) | refine g3 (hw := ?_) | refine g4 (hw := ?_) | refine e0' (hk := ?_) | refine b0' (hk := ?_) | refine b1' (hk := ?_) | refine p1' (hk := ?_) | refine e1' (hk := ?_) | refine e2' (hk := ?_) | refine u1' (hk := ?_) | refine u2' (hk := ?_) | refine u3' (hk := ?_) | refine u4' (hk := ?_) | refine e3' (ht := ?_) (hf := ?_) | refine e4' (ht := ?_) (hf := ?_) | refine b4' (hk := ?_) | refine b7b (hk := ?_) | refine e5' (hk := ?_) | refine f5' (hk := ?_) | refine f6' (hk := ?_) | refine f8' (hk := ?_) | refine f9' (hk := ?_) | refine b7' (hk := ?_) | refine p0' (hk := ?_) | refine h1'' (hw := ?_) | refine h2'' (hw := ?_) | refine h3'' (hw := ?_) | refine h4'' (hw := ?_) | (with_reducible intro hc) | refine d6 (ht := ?_) | refine d7 (hf := ?_) | refine u5 (hk := ?_) | refine u6 (hk := ?_) | refine u7 (hk := ?_) | refine u8 (hk := ?_) | refine d8 (ht := ?_) (hf := ?_) | refine d9 (ht := ?_) (hf := ?_))
        refine pN' (hk := ?_)
        repeat' (first | refine c0 ?_ | refine c1 ?_ | refine c2 ?_ | refine c3 ?_ | refine c4 ?_ | refine c5 ?_ | refine c6 (h := ?_) | refine c7 ?_ | refine d2 ?_ | refine c8 ?_ | refine c9 ?_ | refine d0 ?_ | refine d1 ?_ | refine d4 ?_ | refine d3' (h := ?_) | refine d4' ?_ | refine a0 (hk := ?_) | refine b0 (hk := ?_) | refine b1 (hk := ?_) | refine b2 (hk := ?_) | refine b3 (hk := ?_) | refine b4 (hk := ?_) | refine p1 (hk := ?_) | refine g0' (hk := ?_) | refine a1 (hk := ?_) | refine a2 (hk := ?_) | refine u1 (hk := ?_) | refine u2 (hk := ?_) | refine u3 (hk := ?_) | refine u4 (hk := ?_) | refine a3 (ht := ?_) (hf := ?_) | refine a4 (ht := ?_) (hf := ?_) | refine a5 (hk := ?_) | refine b5 (hk := ?_) | refine b6 (hk := ?_) | refine b8 (hk := ?_) | refine b9 (hk := ?_) | refine b7 (hk := ?_) | refine p0 (hk := ?_) | refine g1 (hw := ?_) | refine g2 (hw := ?_) | refine g3 (hw := ?_) | refine g4 (hw := ?_) | refine e0' (hk := ?_) | refine b0' (hk := ?_) | refine b1' (hk := ?_) | refine p1' (hk := ?_) | refine e1' (hk := ?_) | refine e2' (hk := ?_) | refine u1' (hk := ?_) | refine u2' (hk := ?_) | refine u3' (hk := ?_) | refine u4' (hk := ?_) | refine e3' (ht := ?_) (hf := ?_) | refine e4' (ht := ?_) (hf := ?_) | refine b4' (hk := ?_) | refine b7b (hk := ?_) | refine e5' (hk := ?_) | refine f5' (hk := ?_) | refine f6' (hk := ?_) | refine f8' (hk := ?_) | refine f9' (hk := ?_) | refine b7' (hk := ?_) | refine p0' (hk := ?_) | refine h1'' (hw := ?_) | refine h2'' (hw := ?_) | refine h3'' (hw := ?_) | refine h4'' (hw := ?_) | (with_reducible intro hc) | refine d6 (ht := ?_) | refine d7 (hf := ?_) | refine u5 (hk := ?_) | refine u6 (hk := ?_) | refine u7 (hk := ?_) | refine u8 (hk := ?_) | refine d8 (ht := ?_) (hf := ?_) | refine d9 (ht := ?_) (hf := ?_))
        refine rRn (r := ⟨nums, [], (s0 :: st)⟩) (c1 := .nils) (c2 := .nils) (c3 := (.sl (S.length + 10) ((s0 :: st).map wrow).length)) (h3 := get_own rfl) (hR := ⟨hC0 _, .inl ⟨rfl, rfl⟩, .inr ⟨S.length + 10, rfl, get_own rfl⟩, apa0, apa0, apa0⟩) (o1 := ownN) (o2 := ownN) (o3 := (ownI (by omega))) (hl := by simp) (ho := fun j hj => by rw [List.getElem?_append_left hj])
      have hql := hle _ _ rfl
      simp at hql
      have hC0 : Col false (S ++ _) (.sl q (nums.map irow).length) (nums.map irow) := .inr ⟨q, rfl, hq⟩
      repeat' (first | refine c0 ?_ | refine c1 ?_ | refine c2 ?_ | refine c3 ?_ | refine c4 ?_ | refine c5 ?_ | refine c6 (h := ?_) | refine c7 ?_ | refine d2 ?_ | refine c8 ?_ | refine c9 ?_ | refine d0 ?_ | refine d1 ?_ | refine d4 ?_ | refine d3' (h := ?_) | refine d4' ?_ | refine a0 (hk := ?_) | refine b0 (hk := ?_) | refine b1 (hk := ?_) | refine b2 (hk := ?_) | refine b3 (hk := ?_) | refine b4 (hk := ?_) | refine p1 (hk := ?_) | refine g0' (hk := ?_) | refine a1 (hk := ?_) | refine a2 (hk := ?_) | refine u1 (hk := ?_) | refine u2 (hk := ?_) | refine u3 (hk := ?_) | refine u4 (hk := ?_) | refine a3 (ht := ?_) (hf := ?_) | refine a4 (ht := ?_) (hf := ?_) | refine a5 (hk := ?_) | refine b5 (hk := ?_) | refine b6 (hk := ?_) | refine b8 (hk := ?_) | refine b9 (hk := ?_) | refine b7 (hk := ?_) | refine p0 (hk := ?_) | refine g1 (hw := ?_) | refine g2 (hw := ?_) | refine g3 (hw := ?_) | refine g4 (hw := ?_) | refine e0' (hk := ?_) | refine b0' (hk := ?_) | refine b1' (hk := ?_) | refine p1' (hk := ?_) | refine e1' (hk := ?_) | refine e2' (hk := ?_) | refine u1' (hk := ?_) | refine u2' (hk := ?_) | refine u3' (hk := ?_) | refine u4' (hk := ?_) | refine e3' (ht := ?_) (hf := ?_) | refine e4' (ht := ?_) (hf := ?_) | refine b4' (hk := ?_) | refine b7b (hk := ?_) | refine e5' (hk := ?_) | refine f5' (hk := ?_) | refine f6' (hk := ?_) | refine f8' (hk := ?_) | refine f9' (hk := ?_) | refine b7' (hk := ?_) | refine p0' (hk := ?_) | refine h1'' (hw := ?_) | refine h2'' (hw := ?_) | refine h3'' (hw := ?_) | refine h4'' (hw := ?_) | (with_reducible intro hc) | refine d6 (ht := ?_) | refine d7 (hf := ?_) | refine u5 (hk := ?_) | refine u6 (hk := ?_) | refine u7 (hk := ?_) | refine u8 (hk := ?_) | refine d8 (ht := ?_) (hf := ?_) | refine d9 (ht := ?_) (hf := ?_))
      refine pN' (hk := ?_)
      repeat' (first | refine c0 ?_ | refine c1 ?_ | refine c2 ?_ | refine c3 ?_ | refine c4 ?_ | refine c5 ?_ | refine c6 (h := ?_) | refine c7 ?_ | refine d2 ?_ | refine c8 ?_ | refine c9 ?_ | refine d0 ?_ | refine d1 ?_ | refine d4 ?_ | refine d3' (h := ?_) | refine d4' ?_ | refine a0 (hk := ?_) | refine b0 (hk := ?_) | refine b1 (hk := ?_) | refine b2 (hk := ?_) | refine b3 (hk := ?_) | refine b4 (hk := ?_) | refine p1 (hk := ?_) | refine g0' (hk := ?_) | refine a1 (hk := ?_) | refine a2 (hk := ?_) | refine u1 (hk := ?_) | refine u2 (hk := ?_) | refine u3 (hk := ?_) | refine u4 (hk := ?_) | refine a3 (ht := ?_) (hf := ?_) | refine a4 (ht := ?_) (hf := ?_) | refine a5 (hk := ?_) | refine b5 (hk := ?_) | refine b6 (hk := ?_) | refine b8 (hk := ?_) | refine b9 (hk := ?_) | refine b7 (hk := ?_) | refine p0 (hk := ?_) | refine g1 (hw := ?_) | refine g2 (hw := ?_) | refine g3 (hw := ?_) | refine g4 (hw := ?_) | refine e0' (hk := ?_) | refine b0' (hk := ?_) | refine b1' (hk := ?_) | refine p1' (hk := ?_) | refine e1' (hk := ?_) | refine e2' (hk := ?_) | refine u1' (hk := ?_) | refine u2' (hk := ?_) | refine u3' (hk := ?_) | refine u4' (hk := ?_) | refine e3' (ht := ?_) (hf := ?_) | refine e4' (ht := ?_) (hf := ?_) | refine b4' (hk := ?_) | refine b7b (hk := ?_) | refine e5' (hk := ?_) | refine f5' (hk := ?_) | refine f6' (hk := ?_) | refine f8' (hk := ?_) | refine f9' (hk := ?_) | refine b7' (hk := ?_) | refine p0' (hk := ?_) | refine h1'' (hw := ?_) | refine h2'' (hw := ?_) | refine h3'' (hw := ?_) | refine h4'' (hw := ?_) | (with_reducible intro hc) | refine d6 (ht := ?_) | refine d7 (hf := ?_) | refine u5 (hk := ?_) | refine u6 (hk := ?_) | refine u7 (hk := ?_) | refine u8 (hk := ?_) | refine d8 (ht := ?_) (hf := ?_) | refine d9 (ht := ?_) (hf := ?_))
      refine rRn (r := ⟨nums, [], (s0 :: st)⟩) (c1 := (.sl q (nums.map irow).length)) (c2 := .nils) (c3 := (.sl (S.length + 10) ((s0 :: st).map wrow).length)) (h3 := get_own rfl) (hR := ⟨((hC0.own fun k n hc => by cases hc; omega).own fun k n hc => by cases hc; omega), .inl ⟨rfl, rfl⟩, .inr ⟨S.length + 10, rfl, get_own rfl⟩, apaN, (apaI (by omega)), apa0⟩) (o1 := (ownI (by omega))) (o2 := ownN) (o3 := (ownI (by omega))) (hl := by simp) (ho := fun j hj => by rw [List.getElem?_append_left hj])
  | cons w0 wt =>
    cases ss with
    | nil =>
      have h2' : wt.length + 1 ≤ 1048576 := by simpa using h2
      refine E_start (h := ?_)
      repeat' (first | refine c0 ?_ | refine c1 ?_ | refine c2 ?_ | refine c3 ?_ | refine c4 ?_ | refine c5 ?_ | refine c6 (h := ?_) | refine c7 ?_ | refine d2 ?_ | refine c8 ?_ | refine c9 ?_ | refine d0 ?_ | refine d1 ?_ | refine d4 ?_ | refine d3' (h := ?_) | refine d4' ?_ | refine a0 (hk := ?_) | refine b0 (hk := ?_) | refine b1 (hk := ?_) | refine b2 (hk := ?_) | refine b3 (hk := ?_) | refine b4 (hk := ?_) | refine p1 (hk := ?_) | refine g0' (hk := ?_) | refine a1 (hk := ?_) | refine a2 (hk := ?_) | refine u1 (hk := ?_) | refine u2 (hk := ?_) | refine u3 (hk := ?_) | refine u4 (hk := ?_) | refine a3 (ht := ?_) (hf := ?_) | refine a4 (ht := ?_) (hf := ?_) | refine a5 (hk := ?_) | refine b5 (hk := ?_) | refine b6 (hk := ?_) | refine b8 (hk := ?_) | refine b9 (hk := ?_) | refine b7 (hk := ?_) | refine p0 (hk := ?_) | refine g1 (hw := ?_) | refine g2 (hw := ?_) | refine g3 (hw := ?_) | refine g4 (hw := ?_) | refine e0' (hk := ?_) | refine b0' (hk := ?_) | refine b1' (hk := ?_) | refine p1' (hk := ?_) | refine e1' (hk := ?_) | refine e2' (hk := ?_) | refine u1' (hk := ?_) | refine u2' (hk := ?_) | refine u3' (hk := ?_) | refine u4' (hk := ?_) | refine e3' (ht := ?_) (hf := ?_) | refine e4' (ht := ?_) (hf := ?_) | refine b4' (hk := ?_) | refine b7b (hk := ?_) | refine e5' (hk := ?_) | refine f5' (hk := ?_) | refine f6' (hk := ?_) | refine f8' (hk := ?_) | refine f9' (hk := ?_) | refine b7' (hk := ?_) | refine p0' (hk := ?_) | refine h1'' (hw := ?_) | refine h2'' (hw := ?_) | refine h3'' (hw := ?_) | refine h4'' (hw := ?_) | (with_reducible intro hc) | refine d6 (ht := ?_) | refine d7 (hf := ?_) | refine u5 (hk := ?_) | refine u6 (hk := ?_) | refine u7 (hk := ?_) | refine u8 (hk := ?_) | refine d8 (ht := ?_) (hf := ?_) | refine d9 (ht := ?_) (hf := ?_))
      refine kX' (he := k_impl_cloneInts nums _ h1) (hx := fun v S' ⟨J, h, _⟩ => ⟨J, h⟩) (hk := ?_)
      rintro c1 J ⟨J', -, hC, hle⟩
      rw [List.append_assoc] at hC ⊢
      rcases hC with ⟨rfl, hz⟩ | ⟨q, rfl, hq⟩
      · have hC0 : ∀ S, Col false S .nils (nums.map irow) := fun _ => .inl ⟨rfl, hz⟩
        repeat' (first | refine c0 ?_ | refine c1 ?_ | refine c2 ?_ | refine c3 ?_ | refine c4 ?_ | refine c5 ?_ | refine c6 (h := ?_) | refine c7 ?_ | refine d2 ?_ | refine c8 ?_ | refine c9 ?_ | refine d0 ?_ | refine d1 ?_ | refine d4 ?_ | refine d3' (h := ?_) | refine d4' ?_ | refine a0 (hk := ?_) | refine b0 (hk := ?_) | refine b1 (hk := ?_) | refine b2 (hk := ?_) | refine b3 (hk := ?_) | refine b4 (hk := ?_) | refine p1 (hk := ?_) | refine g0' (hk := ?_) | refine a1 (hk := ?_) | refine a2 (hk := ?_) | refine u1 (hk := ?_) | refine u2 (hk := ?_) | refine u3 (hk := ?_) | refine u4 (hk := ?_) | refine a3 (ht := ?_) (hf := ?_) | refine a4 (ht := ?_) (hf := ?_) | refine a5 (hk := ?_) | refine b5 (hk := ?_) | refine b6 (hk := ?_) | refine b8 (hk := ?_) | refine b9 (hk := ?_) | refine b7 (hk := ?_) | refine p0 (hk := ?_) | refine g1 (hw := ?_) | refine g2 (hw := ?_) | refine g3 (hw := ?_) | refine g4 (hw := ?_) | refine e0' (hk := ?_) | refine b0' (hk := ?_) | refine b1' (hk := ?_) | refine p1' (hk := ?_) | refine e1' (hk := ?_) | refine e2' (hk := ?_) | refine u1' (hk := ?_) | refine u2' (hk := ?_) | refine u3' (hk := ?_) | refine u4' (hk := ?_) | refine e3' (ht := ?_) (hf := ?_) | refine e4' (ht := ?_) (hf := ?_) | refine b4' (hk := ?_) | refine b7b (hk := ?_) | refine e5' (hk := ?_) | refine f5' (hk := ?_) | refine f6' (hk := ?_) | refine f8' (hk := ?_) | refine f9' (hk := ?_) | refine b7' (hk := ?_) | refine p0' (hk := ?_) | refine h1'' (hw := ?_) | refine h2'' (hw := ?_) | refine h3'' (hw := ?_) | refine h4'' (hw := ?_) | (with_reducible intro hc) | refine d6 (ht := ?_) | refine d7 (hf := ?_) | refine u5 (hk := ?_) | refine u6 (hk := ?_) | refine u7 (hk := ?_) | refine u8 (hk := ?_) | refine d8 (ht := ?_) (hf := ?_) | refine d9 (ht := ?_) (hf := ?_))
        refine pN' (hk := ?_)
        repeat' (first | refine c0 ?_ | refine c1 ?_ | refine c2 ?_ | refine c3 ?_ | refine c4 ?_ | refine c5 ?_ | refine c6 (h := ?_) | refine c7 ?_ | refine d2 ?_ | refine c8 ?_ | refine c9 ?_ | refine d0 ?_ | refine d1 ?_ | refine d4 ?_ | refine d3' (h := ?_) | refine d4' ?_ | refine a0 (hk := ?_) | refine b0 (hk := ?_) | refine b1 (hk := ?_) | refine b2 (hk := ?_) | refine b3 (hk := ?_) | refine b4 (hk := ?_) | refine p1 (hk := ?_) | refine g0' (hk := ?_) | refine a1 (hk := ?_) | refine a2 (hk := ?_) | refine u1 (hk := ?_) | refine u2 (hk := ?_) | refine u3 (hk := ?_) | refine u4 (hk := ?_) | refine a3 (ht := ?_) (hf := ?_) | refine a4 (ht := ?_) (hf := ?_) | refine a5 (hk := ?_) | refine b5 (hk := ?_) | refine b6 (hk := ?_) | refine b8 (hk := ?_) | refine b9 (hk := ?_) | refine b7 (hk := ?_) | refine p0 (hk := ?_) | refine g1 (hw := ?_) | refine g2 (hw := ?_) | refine g3 (hw := ?_) | refine g4 (hw := ?_) | refine e0' (hk := ?_) | refine b0' (hk := ?_) | refine b1' (hk := ?_) | refine p1' (hk := ?_) | refine e1' (hk := ?_) | refine e2' (hk := ?_) | refine u1' (hk := ?_) | refine u2' (hk := ?_) | refine u3' (hk := ?_) | refine u4' (hk := ?_) | refine e3' (ht := ?_) (hf := ?_) | refine e4' (ht := ?_) (hf := ?_) | refine b4' (hk := ?_) | refine b7b (hk := ?_) | refine e5' (hk := ?_) | refine f5' (hk := ?_) | refine f6' (hk := ?_) | refine f8' (hk := ?_) | refine f9' (hk := ?_) | refine b7' (hk := ?_) | refine p0' (hk := ?_) | refine h1'' (hw := ?_) | refine h2'' (hw := ?_) | refine h3'' (hw := ?_) | refine h4'' (hw := ?_) | (with_reducible intro hc) | refine d6 (ht := ?_) | refine d7 (hf := ?_) | refine u5 (hk := ?_) | refine u6 (hk := ?_) | refine u7 (hk := ?_) | refine u8 (hk := ?_) | refine d8 (ht := ?_) (hf := ?_) | refine d9 (ht := ?_) (hf := ?_))
        refine rRn (r := ⟨nums, (w0 :: wt), []⟩) (c1 := .nils) (c2 := (.sl (S.length + 7) ((w0 :: wt).map wrow).length)) (c3 := .nils) (h3 := get_own rfl) (hR := ⟨hC0 _, .inr ⟨S.length + 7, rfl, get_own rfl⟩, .inl ⟨rfl, rfl⟩, apa0, apa0, apaN⟩) (o1 := ownN) (o2 := (ownI (by omega))) (o3 := ownN) (hl := by simp) (ho := fun j hj => by rw [List.getElem?_append_left hj])
      have hql := hle _ _ rfl
      simp at hql
      have hC0 : Col false (S ++ _) (.sl q (nums.map irow).length) (nums.map irow) := .inr ⟨q, rfl, hq⟩
      repeat' (first | refine c0 ?_ | refine c1 ?_ | refine c2 ?_ | refine c3 ?_ | refine c4 ?_ | refine c5 ?_ | refine c6 (h := ?_) | refine c7 ?_ | refine d2 ?_ | refine c8 ?_ | refine c9 ?_ | refine d0 ?_ | refine d1 ?_ | refine d4 ?_ | refine d3' (h := ?_) | refine d4' ?_ | refine a0 (hk := ?_) | refine b0 (hk := ?_) | refine b1 (hk := ?_) | refine b2 (hk := ?_) | refine b3 (hk := ?_) | refine b4 (hk := ?_) | refine p1 (hk := ?_) | refine g0' (hk := ?_) | refine a1 (hk := ?_) | refine a2 (hk := ?_) | refine u1 (hk := ?_) | refine u2 (hk := ?_) | refine u3 (hk := ?_) | refine u4 (hk := ?_) | refine a3 (ht := ?_) (hf := ?_) | refine a4 (ht := ?_) (hf := ?_) | refine a5 (hk := ?_) | refine b5 (hk := ?_) | refine b6 (hk := ?_) | refine b8 (hk := ?_) | refine b9 (hk := ?_) | refine b7 (hk := ?_) | refine p0 (hk := ?_) | refine g1 (hw := ?_) | refine g2 (hw := ?_) | refine g3 (hw := ?_) | refine g4 (hw := ?_) | refine e0' (hk := ?_) | refine b0' (hk := ?_) | refine b1' (hk := ?_) | refine p1' (hk := ?_) | refine e1' (hk := ?_) | refine e2' (hk := ?_) | refine u1' (hk := ?_) | refine u2' (hk := ?_) | refine u3' (hk := ?_) | refine u4' (hk := ?_) | refine e3' (ht := ?_) (hf := ?_) | refine e4' (ht := ?_) (hf := ?_) | refine b4' (hk := ?_) | refine b7b (hk := ?_) | refine e5' (hk := ?_) | refine f5' (hk := ?_) | refine f6' (hk := ?_) | refine f8' (hk := ?_) | refine f9' (hk := ?_) | refine b7' (hk := ?_) | refine p0' (hk := ?_) | refine h1'' (hw := ?_) | refine h2'' (hw := ?_) | refine h3'' (hw := ?_) | refine h4'' (hw := ?_) | (with_reducible intro hc) | refine d6 (ht := ?_) | refine d7 (hf := ?_) | refine u5 (hk := ?_) | refine u6 (hk := ?_) | refine u7 (hk := ?_) | refine u8 (hk := ?_) | refine d8 (ht := ?_) (hf := ?_) | refine d9 (ht := ?_) (hf := ?_))
      refine pN' (hk := ?_)
      repeat' (first | refine c0 ?_ | refine c1 ?_ | refine c2 ?_ | refine c3 ?_ | refine c4 ?_ | refine c5 ?_ | refine c6 (h := ?_) | refine c7 ?_ | refine d2 ?_ | refine c8 ?_ | refine c9 ?_ | refine d0 ?_ | refine d1 ?_ | refine d4 ?_ | refine d3' (h := ?_) | refine d4' ?_ | refine a0 (hk := ?_) | refine b0 (hk := ?_) | refine b1 (hk := ?_) | refine b2 (hk := ?_) | refine b3 (hk := ?_) | refine b4 (hk := ?_) | refine p1 (hk := ?_) | refine g0' (hk := ?_) | refine a1 (hk := ?_) | refine a2 (hk := ?_) | refine u1 (hk := ?_) | refine u2 (hk := ?_) | refine u3 (hk := ?_) | refine u4 (hk := ?_) | refine a3 (ht := ?_) (hf := ?_) | refine a4 (ht := ?_) (hf := ?_) | refine a5 (hk := ?_) | refine b5 (hk := ?_) | refine b6 (hk := ?_) | refine b8 (hk := ?_) | refine b9 (hk := ?_) | refine b7 (hk := ?_) | refine p0 (hk := ?_) | refine g1 (hw := ?_) | refine g2 (hw := ?_) | refine g3 (hw := ?_) | refine g4 (hw := ?_) | refine e0' (hk := ?_) | refine b0' (hk := ?_) | refine b1' (hk := ?_) | refine p1' (hk := ?_) | refine e1' (hk := ?_) | refine e2' (hk := ?_) | refine u1' (hk := ?_) | refine u2' (hk := ?_) | refine u3' (hk := ?_) | refine u4' (hk := ?_) | refine e3' (ht := ?_) (hf := ?_) | refine e4' (ht := ?_) (hf := ?_) | refine b4' (hk := ?_) | refine b7b (hk := ?_) | refine e5' (hk := ?_) | refine f5' (hk := ?_) | refine f6' (hk := ?_) | refine f8' (hk := ?_) | refine f9' (hk := ?_) | refine b7' (hk := ?_) | refine p0' (hk := ?_) | refine h1'' (hw := ?_) | refine h2'' (hw := ?_) | refine h3'' (hw := ?_) | refine h4'' (hw := ?_) | (with_reducible intro hc) | refine d6 (ht := ?_) | refine d7 (hf := ?_) | refine u5 (hk := ?_) | refine u6 (hk := ?_) | refine u7 (hk := ?_) | refine u8 (hk := ?_) | refine d8 (ht := ?_) (hf := ?_) | refine d9 (ht := ?_) (hf := ?_))
      refine rRn (r := ⟨nums, (w0 :: wt), []⟩) (c1 := (.sl q (nums.map irow).length)) (c2 := (.sl (S.length + 7) ((w0 :: wt).map wrow).length)) (c3 := .nils) (h3 := get_own rfl) (hR := ⟨((hC0.own fun k n hc => by cases hc; omega).own fun k n hc => by cases hc; omega), .inr ⟨S.length + 7, rfl, get_own rfl⟩, .inl ⟨rfl, rfl⟩, (apaI (by omega)), apaN, apaN⟩) (o1 := (ownI (by omega))) (o2 := (ownI (by omega))) (o3 := ownN) (hl := by simp) (ho := fun j hj => by rw [List.getElem?_append_left hj])
    | cons s0 st =>
      have h2' : wt.length + 1 ≤ 1048576 := by simpa using h2
      have h3' : st.length + 1 ≤ 1048576 := by simpa using h3
      refine E_start (h := ?_)
      repeat' (first | refine c0 ?_ | refine c1 ?_ | refine c2 ?_ | refine c3 ?_ | refine c4 ?_ | refine c5 ?_ | refine c6 (h := ?_) | refine c7 ?_ | refine d2 ?_ | refine c8 ?_ | refine c9 ?_ | refine d0 ?_ | refine d1 ?_ | refine d4 ?_ | refine d3' (h := ?_) | refine d4' ?_ | refine a0 (hk := ?_) | refine b0 (hk := ?_) | refine b1 (hk := ?_) | refine b2 (hk := ?_) | refine b3 (hk := ?_) | refine b4 (hk := ?_) | refine p1 (hk := ?_) | refine g0' (hk := ?_) | refine a1 (hk := ?_) | refine a2 (hk := ?_) | refine u1 (hk := ?_) | refine u2 (hk := ?_) | refine u3 (hk := ?_) | refine u4 (hk := ?_) | refine a3 (ht := ?_) (hf := ?_) | refine a4 (ht := ?_) (hf := ?_) | refine a5 (hk := ?_) | refine b5 (hk := ?_) | refine b6 (hk := ?_) | refine b8 (hk := ?_) | refine b9 (hk := ?_) | refine b7 (hk := ?_) | refine p0 (hk := ?_) | refine g1 (hw := ?_) | refine g2 (hw := ?_) | refine g3 (hw := ?_) | refine g4 (hw := ?_) | refine e0' (hk := ?_) | refine b0' (hk := ?_) | refine b1' (hk := ?_) | refine p1' (hk := ?_) | refine e1' (hk := ?_) | refine e2' (hk := ?_) | refine u1' (hk := ?_) | refine u2' (hk := ?_) | refine u3' (hk := ?_) | refine u4' (hk := ?_) | refine e3' (ht := ?_) (hf := ?_) | refine e4' (ht := ?_) (hf := ?_) | refine b4' (hk := ?_) | refine b7b (hk := ?_) | refine e5' (hk := ?_) | refine f5' (hk := ?_) | refine f6' (hk := ?_) | refine f8' (hk := ?_) | refine f9' (hk := ?_) | refine b7' (hk := ?_) | refine p0' (hk := ?_) | refine h1'' (hw := ?_) | refine h2'' (hw := ?_) | refine h3'' (hw := ?_) | refine h4'' (hw := ?_) | (with_reducible intro hc) | refine d6 (ht := ?_) | refine d7 (hf := ?_) | refine u5 (hk := ?_) | refine u6 (hk := ?_) | refine u7 (hk := ?_) | refine u8 (hk := ?_) | refine d8 (ht := ?_) (hf := ?_) | refine d9 (ht := ?_) (hf := ?_))
      refine kX' (he := k_impl_cloneInts nums _ h1) (hx := fun v S' ⟨J, h, _⟩ => ⟨J, h⟩) (hk := ?_)
      rintro c1 J ⟨J', -, hC, hle⟩
      rw [List.append_assoc] at hC ⊢
      rcases hC with ⟨rfl, hz⟩ | ⟨q, rfl, hq⟩
      · have hC0 : ∀ S, Col false S .nils (nums.map irow) := fun _ => .inl ⟨rfl, hz⟩
        repeat' (first | refine c0 ?_ | refine c1 ?_ | refine c2 ?_ | refine c3 ?_ | refine c4 ?_ | refine c5 ?_ | refine c6 (h := ?_) | refine c7 ?_ | refine d2 ?_ | refine c8 ?_ | refine c9 ?_ | refine d0 ?_ | refine d1 ?_ | refine d4 ?_ | refine d3' (h := ?_) | refine d4' ?_ | refine a0 (hk := ?_) | refine b0 (hk := ?_) | refine b1 (hk := ?_) | refine b2 (hk := ?_) | refine b3 (hk := ?_) | refine b4 (hk := ?_) | refine p1 (hk := ?_) | refine g0' (hk := ?_) | refine a1 (hk := ?_) | refine a2 (hk := ?_) | refine u1 (hk := ?_) | refine u2 (hk := ?_) | refine u3 (hk := ?_) | refine u4 (hk := ?_) | refine a3 (ht := ?_) (hf := ?_) | refine a4 (ht := ?_) (hf := ?_) | refine a5 (hk := ?_) | refine b5 (hk := ?_) | refine b6 (hk := ?_) | refine b8 (hk := ?_) | refine b9 (hk := ?_) | refine b7 (hk := ?_) | refine p0 (hk := ?_) | refine g1 (hw := ?_) | refine g2 (hw := ?_) | refine g3 (hw := ?_) | refine g4 (hw := ?_) | refine e0' (hk := ?_) | refine b0' (hk := ?_) | refine b1' (hk := ?_) | refine p1' (hk := ?_) | refine e1' (hk := ?_) | refine e2' (hk := ?_) | refine u1' (hk := ?_) | refine u2' (hk := ?_) | refine u3' (hk := ?_) | refine u4' (hk := ?_) | refine e3' (ht := ?_) (hf := ?_) | refine e4' (ht := ?_) (hf := ?_) | refine b4' (hk := ?_) | refine b7b (hk := ?_) | refine e5' (hk := ?_) | refine f5' (hk := ?_) | refine f6' (hk := ?_) | refine f8' (hk := ?_) | refine f9' (hk := ?_) | refine b7' (hk := ?_) | refine p0' (hk := ?_) | refine h1'' (hw := ?_) | refine h2'' (hw := ?_) | refine h3'' (hw := ?_) | refine h4'' (hw := ?_) | (with_reducible intro hc) | refine d6 (ht := ?_) | refine d7 (hf := ?_) | refine u5 (hk := ?_) | refine u6 (hk := ?_) | refine u7 (hk := ?_) | refine u8 (hk := ?_) | refine d8 (ht := ?_) (hf := ?_) | refine d9 (ht := ?_) (hf := ?_))
        refine rRn (r := ⟨nums, (w0 :: wt), (s0 :: st)⟩) (c1 := .nils) (c2 := (.sl (S.length + 7) ((w0 :: wt).map wrow).length)) (c3 := (.sl (S.length + 10) ((s0 :: st).map wrow).length)) (h3 := get_own rfl) (hR := ⟨hC0 _, .inr ⟨S.length + 7, rfl, get_own rfl⟩, .inr ⟨S.length + 10, rfl, get_own rfl⟩, apa0, apa0, (apaI (by omega))⟩) (o1 := ownN) (o2 := (ownI (by omega))) (o3 := (ownI (by omega))) (hl := by simp) (ho := fun j hj => by rw [List.getElem?_append_left hj])
      have hql := hle _ _ rfl
      simp at hql
      have hC0 : Col false (S ++ _) (.sl q (nums.map irow).length) (nums.map irow) := .inr ⟨q, rfl, hq⟩
      repeat' (first | refine c0 ?_ | refine c1 ?_ | refine c2 ?_ | refine c3 ?_ | refine c4 ?_ | refine c5 ?_ | refine c6 (h := ?_) | refine c7 ?_ | refine d2 ?_ | refine c8 ?_ | refine c9 ?_ | refine d0 ?_ | refine d1 ?_ | refine d4 ?_ | refine d3' (h := ?_) | refine d4' ?_ | refine a0 (hk := ?_) | refine b0 (hk := ?_) | refine b1 (hk := ?_) | refine b2 (hk := ?_) | refine b3 (hk := ?_) | refine b4 (hk := ?_) | refine p1 (hk := ?_) | refine g0' (hk := ?_) | refine a1 (hk := ?_) | refine a2 (hk := ?_) | refine u1 (hk := ?_) | refine u2 (hk := ?_) | refine u3 (hk := ?_) | refine u4 (hk := ?_) | refine a3 (ht := ?_) (hf := ?_) | refine a4 (ht := ?_) (hf := ?_) | refine a5 (hk := ?_) | refine b5 (hk := ?_) | refine b6 (hk := ?_) | refine b8 (hk := ?_) | refine b9 (hk := ?_) | refine b7 (hk := ?_) | refine p0 (hk := ?_) | refine g1 (hw := ?_) | refine g2 (hw := ?_) | refine g3 (hw := ?_) | refine g4 (hw := ?_) | refine e0' (hk := ?_) | refine b0' (hk := ?_) | refine b1' (hk := ?_) | refine p1' (hk := ?_) | refine e1' (hk := ?_) | refine e2' (hk := ?_) | refine u1' (hk := ?_) | refine u2' (hk := ?_) | refine u3' (hk := ?_) | refine u4' (hk := ?_) | refine e3' (ht := ?_) (hf := ?_) | refine e4' (ht := ?_) (hf := ?_) | refine b4' (hk := ?_) | refine b7b (hk := ?_) | refine e5' (hk := ?_) | refine f5' (hk := ?_) | refine f6' (hk := ?_) | refine f8' (hk := ?_) | refine f9' (hk := ?_) | refine b7' (hk := ?_) | refine p0' (hk := ?_) | refine h1'' (hw := ?_) | refine h2'' (hw := ?_) | refine h3'' (hw := ?_) | refine h4'' (hw := ?_) | (with_reducible intro hc) | refine d6 (ht := ?_) | refine d7 (hf := ?_) | refine u5 (hk := ?_) | refine u6 (hk := ?_) | refine u7 (hk := ?_) | refine u8 (hk := ?_) | refine d8 (ht := ?_) (hf := ?_) | refine d9 (ht := ?_) (hf := ?_))
      refine rRn (r := ⟨nums, (w0 :: wt), (s0 :: st)⟩) (c1 := (.sl q (nums.map irow).length)) (c2 := (.sl (S.length + 7) ((w0 :: wt).map wrow).length)) (c3 := (.sl (S.length + 10) ((s0 :: st).map wrow).length)) (h3 := get_own rfl) (hR := ⟨(((hC0.own fun k n hc => by cases hc; omega).own fun k n hc => by cases hc; omega).own fun k n hc => by cases hc; omega), .inr ⟨S.length + 7, rfl, get_own rfl⟩, .inr ⟨S.length + 10, rfl, get_own rfl⟩, (apaI (by omega)), (apaI (by omega)), (apaI (by omega))⟩) (o1 := (ownI (by omega))) (o2 := (ownI (by omega))) (o3 := (ownI (by omega))) (hl := by simp) (ho := fun j hj => by rw [List.getElem?_append_left hj])
end Go.Proofs.X
end
section
namespace Go.Proofs.X
open Go Go.Proofs.XVai Go.Proofs Go.Proofs.XN
set_option linter.unusedVariables false
set_option linter.unusedSimpArgs false
set_option maxHeartbeats 4000000
set_option maxRecDepth 100000
section
variable {fid : Nat} {T : Tm} {S : St} {K : Tm → St → Prop} {ops : Array Oper} {l : List Oper} {dst : Option Tmp} {ty : TypeId} {pos : String} {after : Array Edge} {g0 : Option (Nat × Bool)}
/-- A call whose arguments become immutable. -/
theorem kZ {f : Operand} {args : Array Operand} {ats : Array TypeId} {g : Nat} {args' : List HV} {S1 S2 : St} {v : HV} (hg : wantG ops g0 T = true := by rfl) (hf : ev T f = .fn g [] := by rfl) (hb : Y.byref g = false := by rfl)
    (ha : mapMS (frzV 0) (args.toList.map (ev T)) S = some (args', S1)) (he : Ev Y g args' S1 v S2) (hk : OW Y fid ops none l (put T dst v) S2 K) : OW Y fid ops none (⟨dst, .call ⟨.value f, args, ats⟩, ty, pos, after, g0⟩ :: l) T S K := by
  rw [← List.append_nil args'] at he
  exact ⟨WX_call hg hf hb ha he hk.of⟩
end
theorem k_impl_RunOf (ls : List Lab) (ss : Stps) (nums : List Int) (S : St) (hs : ss.sz ≤ 1048576) (hl : ls.length ≤ 1048576) (hn : nums.length ≤ 1048576) : Ev Y impl_RunOf [PR ls ss, L nums] S (RUNR ls ss nums) S := by
  cases hok : numsOk ls ss nums with
  | false =>
    have hno : (!numsOk ls ss nums) = true := by rw [hok]; rfl
    rw [RUNR, hok, show runOf ls ss nums = ⟨[], [], []⟩ by simp [runOf, hok]]
    refine E_start (h := ?_)
    repeat' (first | refine c0 ?_ | refine c1 ?_ | refine c2 ?_ | refine c3 ?_ | refine c4 ?_ | refine c5 ?_ | refine c6 (h := ?_) | refine c7 ?_ | refine d2 ?_ | refine c8 ?_ | refine c9 ?_ | refine d0 ?_ | refine d1 ?_ | refine d4 ?_ | refine a0 (hk := ?_) | refine k0 (he := (by first | exact k_impl_NumsOk _ _ _ _ hs hl hn)) (hk := ?_) | refine k1 (he := (by first | exact k_impl_NumsOk _ _ _ _ hs hl hn)) (hk := ?_) | refine b0 (hk := ?_) | refine b1 (hk := ?_) | refine b2 (hk := ?_) | refine b3 (hk := ?_) | refine b4 (hk := ?_) | refine p1 (hk := ?_) | refine g0' (hk := ?_) | refine a1 (hk := ?_) | refine a2 (hk := ?_) | refine u1 (hk := ?_) | refine u2 (hk := ?_) | refine u3 (hk := ?_) | refine u4 (hk := ?_) | refine a3 (ht := ?_) (hf := ?_) | refine a4 (ht := ?_) (hf := ?_) | refine a5 (hk := ?_) | refine b5 (hk := ?_) | refine b6 (hk := ?_) | refine b8 (hk := ?_) | refine b9 (hk := ?_) | refine b7 (hk := ?_) | refine p0 (hk := ?_) | refine g1 (hw := ?_) | refine g2 (hw := ?_) | refine g3 (hw := ?_) | refine g4 (hw := ?_) | (with_reducible intro hc) | refine d6 (ht := ?_) | refine d7 (hf := ?_) | refine u5 (hk := ?_) | refine u6 (hk := ?_) | refine u7 (hk := ?_) | refine u8 (hk := ?_) | refine d8 (ht := ?_) (hf := ?_) | refine d9 (ht := ?_) (hf := ?_))
    exact rRun (h3 := get_own rfl) (hz := rfl) (hl := by simp) (ho := fun j hj => by rw [List.getElem?_append_left hj])
  | true =>
    have hno : (!numsOk ls ss nums) = false := by rw [hok]; rfl
    obtain ⟨h1, h2, h3⟩ := numsOk_in hok
    obtain ⟨p1, p2, p3, p4⟩ := progOk_in h1
    rw [RUNR, hok, show runOf ls ss nums = run ss ⟨nums, [], []⟩ by simp [runOf, hok]]
    rw [← h2] at p1 p3
    have hri := runs_in ss 3 ⟨nums, [], []⟩ p3 h3
    refine E_start (h := ?_)
    repeat' (first | refine c0 ?_ | refine c1 ?_ | refine c2 ?_ | refine c3 ?_ | refine c4 ?_ | refine c5 ?_ | refine c6 (h := ?_) | refine c7 ?_ | refine d2 ?_ | refine c8 ?_ | refine c9 ?_ | refine d0 ?_ | refine d1 ?_ | refine d4 ?_ | refine a0 (hk := ?_) | refine k0 (he := (by first | exact k_impl_NumsOk _ _ _ _ hs hl hn)) (hk := ?_) | refine k1 (he := (by first | exact k_impl_NumsOk _ _ _ _ hs hl hn)) (hk := ?_) | refine b0 (hk := ?_) | refine b1 (hk := ?_) | refine b2 (hk := ?_) | refine b3 (hk := ?_) | refine b4 (hk := ?_) | refine p1 (hk := ?_) | refine g0' (hk := ?_) | refine a1 (hk := ?_) | refine a2 (hk := ?_) | refine u1 (hk := ?_) | refine u2 (hk := ?_) | refine u3 (hk := ?_) | refine u4 (hk := ?_) | refine a3 (ht := ?_) (hf := ?_) | refine a4 (ht := ?_) (hf := ?_) | refine a5 (hk := ?_) | refine b5 (hk := ?_) | refine b6 (hk := ?_) | refine b8 (hk := ?_) | refine b9 (hk := ?_) | refine b7 (hk := ?_) | refine p0 (hk := ?_) | refine g1 (hw := ?_) | refine g2 (hw := ?_) | refine g3 (hw := ?_) | refine g4 (hw := ?_) | (with_reducible intro hc) | refine d6 (ht := ?_) | refine d7 (hf := ?_) | refine u5 (hk := ?_) | refine u6 (hk := ?_) | refine u7 (hk := ?_) | refine u8 (hk := ?_) | refine d8 (ht := ?_) (hf := ?_) | refine d9 (ht := ?_) (hf := ?_))
    refine kX (he := k_impl_cloneInts nums _ hn) (hk := ?_)
    rintro c1 S2 ⟨J, hJ, hC, hle⟩
    have f0 : S2[S.length + 0]? = some (.cells false [[LS ls, .lst ss.rows]]) := by
      rw [hJ]; exact get_old (get_own rfl)
    have f1 : S2[S.length + 1]? = some (.cells false [[.nils, .nils, .nils]]) := by
      rw [hJ]; exact get_old (get_own rfl)
    have hl2 : S.length + 2 ≤ S2.length := by rw [hJ]; simp <;> omega
    have hold : ∀ j, j < S.length → S2[j]? = S[j]? := fun j hj => by rw [hJ, List.getElem?_append_left (by simp; omega), List.getElem?_append_left hj]
    have hle' : ∀ k n, c1 = .sl k n → S.length + 2 ≤ k := fun k n hc => by have := hle k n hc; simpa using this
    clear hle hJ
    rw [← List.append_nil S2]
    rcases hC with ⟨rfl, hz⟩ | ⟨q, rfl, hq⟩
    · repeat' (first | refine c0 ?_ | refine c1 ?_ | refine c2 ?_ | refine c3 ?_ | refine c4 ?_ | refine c5 ?_ | refine c6 (h := ?_) | refine c7 ?_ | refine d2 ?_ | refine c8 ?_ | refine c9 ?_ | refine d0 ?_ | refine d1 ?_ | refine d4 ?_ | refine a0 (hk := ?_) | refine b0 (hk := ?_) | refine b1 (hk := ?_) | refine b2 (hk := ?_) | refine b3 (hk := ?_) | refine b4 (hk := ?_) | refine p1 (hk := ?_) | refine g0' (hk := ?_) | refine a1 (hk := ?_) | refine a2 (hk := ?_) | refine u1 (hk := ?_) | refine u2 (hk := ?_) | refine u3 (hk := ?_) | refine u4 (hk := ?_) | refine a3 (ht := ?_) (hf := ?_) | refine a4 (ht := ?_) (hf := ?_) | refine a5 (hk := ?_) | refine b5 (hk := ?_) | refine b6 (hk := ?_) | refine b8 (hk := ?_) | refine b9 (hk := ?_) | refine b7 (hk := ?_) | refine p0 (hk := ?_) | refine g1 (hw := ?_) | refine g2 (hw := ?_) | refine g3 (hw := ?_) | refine g4 (hw := ?_) | (with_reducible intro hc) | refine d6 (ht := ?_) | refine d7 (hf := ?_) | refine u5 (hk := ?_) | refine u6 (hk := ?_) | refine u7 (hk := ?_) | refine u8 (hk := ?_) | refine d8 (ht := ?_) (hf := ?_) | refine d9 (ht := ?_) (hf := ?_))
      refine kX (he := k_impl_Run_do _ ss 3 ⟨nums, [], []⟩ .nils .nils .nils (S2.length + 0) _ (Nat.le_refl _) (by omega) p3 h3 (by simp only; omega) (by simp; omega) (by simp; omega) ⟨get_own rfl, ⟨.inl ⟨rfl, hz⟩, .inl ⟨rfl, rfl⟩, .inl ⟨rfl, rfl⟩, apa0, apa0, apa0⟩, by simp, by simp, by simp⟩) (hk := ?_)
      rintro v S3 ⟨rfl, c2, c3, hR, n2, n3, hle3, hF⟩
      have g0 : S3[S.length + 1]? = some (.cells false [[.nils, .nils, .nils]]) := by
        rw [hF _ (by simp; omega) (by omega) (by simp) (by simp) (by simp)]
        exact get_old f1
      have g1 := hR.box
      obtain ⟨S4, z1, z2, z3⟩ := hR.run.frz (n0 := 0) (fun _ _ _ => Nat.zero_le _) (fun _ _ _ => Nat.zero_le _) (fun _ _ _ => Nat.zero_le _)
      have w2 : ∀ k n, c2 = .sl k n → S2.length ≤ k := fun k n hc => by
        rcases n2 k n hc with ⟨m, hm⟩ | hm
        · cases hm
        · simp at hm; omega
      have w3 : ∀ k n, c3 = .sl k n → S2.length ≤ k := fun k n hc => by
        rcases n3 k n hc with ⟨m, hm⟩ | hm
        · cases hm
        · simp at hm; omega
      have g2 : S4[S.length + 1]? = some (.cells false [[.nils, .nils, .nils]]) := by
        rw [z3 _ (by simp) (fun n hc => by have := w2 _ n hc; omega) (fun n hc => by have := w3 _ n hc; omega), g0]
      rw [← List.append_nil S3]
      repeat' (first | refine c0 ?_ | refine c1 ?_ | refine c2 ?_ | refine c3 ?_ | refine c4 ?_ | refine c5 ?_ | refine c6 (h := ?_) | refine c7 ?_ | refine d2 ?_ | refine c8 ?_ | refine c9 ?_ | refine d0 ?_ | refine d1 ?_ | refine d4 ?_ | refine a0 (hk := ?_) | refine b0 (hk := ?_) | refine b1 (hk := ?_) | refine b2 (hk := ?_) | refine b3 (hk := ?_) | refine b4 (hk := ?_) | refine p1 (hk := ?_) | refine g0' (hk := ?_) | refine a1 (hk := ?_) | refine a2 (hk := ?_) | refine u1 (hk := ?_) | refine u2 (hk := ?_) | refine u3 (hk := ?_) | refine u4 (hk := ?_) | refine a3 (ht := ?_) (hf := ?_) | refine a4 (ht := ?_) (hf := ?_) | refine a5 (hk := ?_) | refine b5 (hk := ?_) | refine b6 (hk := ?_) | refine b8 (hk := ?_) | refine b9 (hk := ?_) | refine b7 (hk := ?_) | refine p0 (hk := ?_) | refine g1 (hw := ?_) | refine g2 (hw := ?_) | refine g3 (hw := ?_) | refine g4 (hw := ?_) | (with_reducible intro hc) | refine d6 (ht := ?_) | refine d7 (hf := ?_) | refine u5 (hk := ?_) | refine u6 (hk := ?_) | refine u7 (hk := ?_) | refine u8 (hk := ?_) | refine d8 (ht := ?_) (hf := ?_) | refine d9 (ht := ?_) (hf := ?_))
      refine kZ (ha := by rw [List.append_nil]; exact fmS z1 fm0) (he := k_impl_Run_clone (run ss ⟨nums, [], []⟩) S4 (by simp at hri; omega) (by simp at hri; omega) (by simp at hri; omega)) (hk := ?_)
      rw [← List.append_nil S4]
      repeat' (first | refine c0 ?_ | refine c1 ?_ | refine c2 ?_ | refine c3 ?_ | refine c4 ?_ | refine c5 ?_ | refine c6 (h := ?_) | refine c7 ?_ | refine d2 ?_ | refine c8 ?_ | refine c9 ?_ | refine d0 ?_ | refine d1 ?_ | refine d4 ?_ | refine a0 (hk := ?_) | refine b0 (hk := ?_) | refine b1 (hk := ?_) | refine b2 (hk := ?_) | refine b3 (hk := ?_) | refine b4 (hk := ?_) | refine p1 (hk := ?_) | refine g0' (hk := ?_) | refine a1 (hk := ?_) | refine a2 (hk := ?_) | refine u1 (hk := ?_) | refine u2 (hk := ?_) | refine u3 (hk := ?_) | refine u4 (hk := ?_) | refine a3 (ht := ?_) (hf := ?_) | refine a4 (ht := ?_) (hf := ?_) | refine a5 (hk := ?_) | refine b5 (hk := ?_) | refine b6 (hk := ?_) | refine b8 (hk := ?_) | refine b9 (hk := ?_) | refine b7 (hk := ?_) | refine p0 (hk := ?_) | refine g1 (hw := ?_) | refine g2 (hw := ?_) | refine g3 (hw := ?_) | refine g4 (hw := ?_) | (with_reducible intro hc) | refine d6 (ht := ?_) | refine d7 (hf := ?_) | refine u5 (hk := ?_) | refine u6 (hk := ?_) | refine u7 (hk := ?_) | refine u8 (hk := ?_) | refine d8 (ht := ?_) (hf := ?_) | refine d9 (ht := ?_) (hf := ?_))
      refine rRun (h3 := get_old (setE g2)) (hz := rfl) (hl := by simp at hle3 z2; simp; omega) (ho := fun j hj => ?_)
      rw [List.append_nil, List.getElem?_set_ne (by omega), z3 _ (by simp) (fun n hc => by have := w2 _ n hc; omega) (fun n hc => by have := w3 _ n hc; omega), hF j (by simp; omega) (by omega) (by simp) (by simp) (by simp), List.getElem?_append_left (by omega), hold j hj]
    · have hq2 := hle' _ _ rfl
      have hql : q < S2.length := (List.getElem?_eq_some_iff.1 hq).1
      repeat' (first | refine c0 ?_ | refine c1 ?_ | refine c2 ?_ | refine c3 ?_ | refine c4 ?_ | refine c5 ?_ | refine c6 (h := ?_) | refine c7 ?_ | refine d2 ?_ | refine c8 ?_ | refine c9 ?_ | refine d0 ?_ | refine d1 ?_ | refine d4 ?_ | refine a0 (hk := ?_) | refine b0 (hk := ?_) | refine b1 (hk := ?_) | refine b2 (hk := ?_) | refine b3 (hk := ?_) | refine b4 (hk := ?_) | refine p1 (hk := ?_) | refine g0' (hk := ?_) | refine a1 (hk := ?_) | refine a2 (hk := ?_) | refine u1 (hk := ?_) | refine u2 (hk := ?_) | refine u3 (hk := ?_) | refine u4 (hk := ?_) | refine a3 (ht := ?_) (hf := ?_) | refine a4 (ht := ?_) (hf := ?_) | refine a5 (hk := ?_) | refine b5 (hk := ?_) | refine b6 (hk := ?_) | refine b8 (hk := ?_) | refine b9 (hk := ?_) | refine b7 (hk := ?_) | refine p0 (hk := ?_) | refine g1 (hw := ?_) | refine g2 (hw := ?_) | refine g3 (hw := ?_) | refine g4 (hw := ?_) | (with_reducible intro hc) | refine d6 (ht := ?_) | refine d7 (hf := ?_) | refine u5 (hk := ?_) | refine u6 (hk := ?_) | refine u7 (hk := ?_) | refine u8 (hk := ?_) | refine d8 (ht := ?_) (hf := ?_) | refine d9 (ht := ?_) (hf := ?_))
      refine kX (he := k_impl_Run_do _ ss 3 ⟨nums, [], []⟩ (.sl q (nums.map irow).length) .nils .nils (S2.length + 0) _ (Nat.le_refl _) (by omega) p3 h3 (by simp only; omega) (by simp; omega) (by simp; omega) ⟨get_own rfl, ⟨.inr ⟨q, rfl, get_old hq⟩, .inl ⟨rfl, rfl⟩, .inl ⟨rfl, rfl⟩, apaN, apaN, apa0⟩, fun a b hc => by cases hc; omega, by simp, by simp⟩) (hk := ?_)
      rintro v S3 ⟨rfl, c2, c3, hR, n2, n3, hle3, hF⟩
      have g0 : S3[S.length + 1]? = some (.cells false [[.nils, .nils, .nils]]) := by
        rw [hF _ (by simp; omega) (by omega) (fun n hc => by cases hc; omega) (by simp) (by simp)]
        exact get_old f1
      have g1 := hR.box
      obtain ⟨S4, z1, z2, z3⟩ := hR.run.frz (n0 := 0) (fun _ _ _ => Nat.zero_le _) (fun _ _ _ => Nat.zero_le _) (fun _ _ _ => Nat.zero_le _)
      have w2 : ∀ k n, c2 = .sl k n → S2.length ≤ k := fun k n hc => by
        rcases n2 k n hc with ⟨m, hm⟩ | hm
        · cases hm
        · simp at hm; omega
      have w3 : ∀ k n, c3 = .sl k n → S2.length ≤ k := fun k n hc => by
        rcases n3 k n hc with ⟨m, hm⟩ | hm
        · cases hm
        · simp at hm; omega
      have g2 : S4[S.length + 1]? = some (.cells false [[.nils, .nils, .nils]]) := by
        rw [z3 _ (fun n hc => by cases hc; omega) (fun n hc => by have := w2 _ n hc; omega) (fun n hc => by have := w3 _ n hc; omega), g0]
      rw [← List.append_nil S3]
      repeat' (first | refine c0 ?_ | refine c1 ?_ | refine c2 ?_ | refine c3 ?_ | refine c4 ?_ | refine c5 ?_ | refine c6 (h := ?_) | refine c7 ?_ | refine d2 ?_ | refine c8 ?_ | refine c9 ?_ | refine d0 ?_ | refine d1 ?_ | refine d4 ?_ | refine a0 (hk := ?_) | refine b0 (hk := ?_) | refine b1 (hk := ?_) | refine b2 (hk := ?_) | refine b3 (hk := ?_) | refine b4 (hk := ?_) | refine p1 (hk := ?_) | refine g0' (hk := ?_) | refine a1 (hk := ?_) | refine a2 (hk := ?_) | refine u1 (hk := ?_) | refine u2 (hk := ?_) | refine u3 (hk := ?_) | refine u4 (hk := ?_) | refine a3 (ht := ?_) (hf := ?_) | refine a4 (ht := ?_) (hf := ?_) | refine a5 (hk := ?_) | refine b5 (hk := ?_) | refine b6 (hk := ?_) | refine b8 (hk := ?_) | refine b9 (hk := ?_) | refine b7 (hk := ?_) | refine p0 (hk := ?_) | refine g1 (hw := ?_) | refine g2 (hw := ?_) | refine g3 (hw := ?_) | refine g4 (hw := ?_) | (with_reducible intro hc) | refine d6 (ht := ?_) | refine d7 (hf := ?_) | refine u5 (hk := ?_) | refine u6 (hk := ?_) | refine u7 (hk := ?_) | refine u8 (hk := ?_) | refine d8 (ht := ?_) (hf := ?_) | refine d9 (ht := ?_) (hf := ?_))
      refine kZ (ha := by rw [List.append_nil]; exact fmS z1 fm0) (he := k_impl_Run_clone (run ss ⟨nums, [], []⟩) S4 (by simp at hri; omega) (by simp at hri; omega) (by simp at hri; omega)) (hk := ?_)
      rw [← List.append_nil S4]
      repeat' (first | refine c0 ?_ | refine c1 ?_ | refine c2 ?_ | refine c3 ?_ | refine c4 ?_ | refine c5 ?_ | refine c6 (h := ?_) | refine c7 ?_ | refine d2 ?_ | refine c8 ?_ | refine c9 ?_ | refine d0 ?_ | refine d1 ?_ | refine d4 ?_ | refine a0 (hk := ?_) | refine b0 (hk := ?_) | refine b1 (hk := ?_) | refine b2 (hk := ?_) | refine b3 (hk := ?_) | refine b4 (hk := ?_) | refine p1 (hk := ?_) | refine g0' (hk := ?_) | refine a1 (hk := ?_) | refine a2 (hk := ?_) | refine u1 (hk := ?_) | refine u2 (hk := ?_) | refine u3 (hk := ?_) | refine u4 (hk := ?_) | refine a3 (ht := ?_) (hf := ?_) | refine a4 (ht := ?_) (hf := ?_) | refine a5 (hk := ?_) | refine b5 (hk := ?_) | refine b6 (hk := ?_) | refine b8 (hk := ?_) | refine b9 (hk := ?_) | refine b7 (hk := ?_) | refine p0 (hk := ?_) | refine g1 (hw := ?_) | refine g2 (hw := ?_) | refine g3 (hw := ?_) | refine g4 (hw := ?_) | (with_reducible intro hc) | refine d6 (ht := ?_) | refine d7 (hf := ?_) | refine u5 (hk := ?_) | refine u6 (hk := ?_) | refine u7 (hk := ?_) | refine u8 (hk := ?_) | refine d8 (ht := ?_) (hf := ?_) | refine d9 (ht := ?_) (hf := ?_))
      refine rRun (h3 := get_old (setE g2)) (hz := rfl) (hl := by simp at hle3 z2; simp; omega) (ho := fun j hj => ?_)
      rw [List.append_nil, List.getElem?_set_ne (by omega), z3 _ (fun n hc => by cases hc; omega) (fun n hc => by have := w2 _ n hc; omega) (fun n hc => by have := w3 _ n hc; omega), hF j (by simp; omega) (by omega) (fun n hc => by cases hc; omega) (by simp) (by simp), List.getElem?_append_left (by omega), hold j hj]
end Go.Proofs.X
end
section
namespace Go.Proofs.X
open Go Go.Proofs.XVai Go.Proofs Go.Proofs.XN
set_option linter.unusedVariables false
set_option linter.unusedSimpArgs false
set_option maxHeartbeats 4000000
theorem k_spec_l12Same (a b : List Int) (vars : List Bool) (S : St) (ha : vars.length ≤ a.length) (hb : vars.length ≤ b.length) (hl : vars.length ≤ 1048576) : Ev Y spec_l12Same [L a, L b, BL vars] S (.bool (sameOn a b vars)) S := by
  refine E_start (h := ?_)
  repeat' (first | refine c0 ?_ | refine c1 ?_ | refine c2 ?_ | refine c3 ?_ | refine c4 ?_ | refine c5 ?_ | refine c6 (h := ?_) | refine c7 ?_ | refine d2 ?_ | refine c8 ?_ | refine c9 ?_ | refine d0 ?_ | refine d1 ?_ | refine d4 ?_ | refine a0 (hk := ?_) | refine b0 (hk := ?_) | refine b1 (hk := ?_) | refine b2 (hk := ?_) | refine b3 (hk := ?_) | refine b4 (hk := ?_) | refine p1 (hk := ?_) | refine g0' (hk := ?_) | refine a1 (hk := ?_) | refine a2 (hk := ?_) | refine u1 (hk := ?_) | refine u2 (hk := ?_) | refine u3 (hk := ?_) | refine u4 (hk := ?_) | refine a3 (ht := ?_) (hf := ?_) | refine a4 (ht := ?_) (hf := ?_) | refine a5 (hk := ?_) | refine b5 (hk := ?_) | refine b6 (hk := ?_) | refine b8 (hk := ?_) | refine b9 (hk := ?_) | refine b7 (hk := ?_) | refine p0 (hk := ?_) | refine g1 (hw := ?_) | refine g2 (hw := ?_) | refine g3 (hw := ?_) | refine g4 (hw := ?_) | (with_reducible intro hc) | refine d6 (ht := ?_) | refine d7 (hf := ?_) | refine u5 (hk := ?_) | refine u6 (hk := ?_) | refine u7 (hk := ?_) | refine u8 (hk := ?_) | refine d8 (ht := ?_) (hf := ?_) | refine d9 (ht := ?_) (hf := ?_))
  refine C_list vars (fun pre r T' S' => ∃ (T0 : Tm) (S1 : St), sameOn a b vars = sameOn (a.drop pre.length) (b.drop pre.length) r ∧ Ext S S1 ∧ T' = putL T0 [(0, L a), (1, L b), (2, BL vars), (7, I pre.length)] ∧ S' = S1 ++ [])
    ⟨_, _, rfl, ex0, at_mk ⟨rfl, rfl, rfl, rfl, trivial⟩, (List.append_nil _).symm⟩ ?_ ?_
  · rintro pre v r T' S' hx ⟨T0, S1, hq, hE, rfl, rfl⟩
    have hg := mid hx
    have hlt := mid_lt hx
    have ha1 : a[pre.length]? = some (a[pre.length]'(by omega)) := by simp
    have hb1 : b[pre.length]? = some (b[pre.length]'(by omega)) := by simp
    rw [List.drop_eq_getElem_cons (show pre.length < a.length by omega), List.drop_eq_getElem_cons (show pre.length < b.length by omega)] at hq
    simp only [sameOn, List.headD_cons, List.tail_cons] at hq
    generalize a[pre.length]'(by omega) = x at *
    generalize b[pre.length]'(by omega) = y at *
    have hc0 : (pre.length : Int) < ((vars.map fun x => [HV.bool x]).length : Int) := by simp; omega
    cases v with
    | false =>
      repeat' (first | refine c0 ?_ | refine c1 ?_ | refine c2 ?_ | refine c3 ?_ | refine c4 ?_ | refine c5 ?_ | refine c6 (h := ?_) | refine c7 ?_ | refine d2 ?_ | refine c8 ?_ | refine c9 ?_ | refine d0 ?_ | refine d1 ?_ | refine d4 ?_ | refine d3' (h := ?_) | refine d4' ?_ | refine a0 (hk := ?_) | refine b0 (hk := ?_) | refine b1 (hk := ?_) | refine b2 (hk := ?_) | refine b3 (hk := ?_) | refine b4 (hk := ?_) | refine p1 (hk := ?_) | refine g0' (hk := ?_) | refine a1 (hk := ?_) | refine a2 (hk := ?_) | refine u1 (hk := ?_) | refine u2 (hk := ?_) | refine u3 (hk := ?_) | refine u4 (hk := ?_) | refine a3 (ht := ?_) (hf := ?_) | refine a4 (ht := ?_) (hf := ?_) | refine a5 (hk := ?_) | refine b5 (hk := ?_) | refine b6 (hk := ?_) | refine b8 (hk := ?_) | refine b9 (hk := ?_) | refine b7 (hk := ?_) | refine p0 (hk := ?_) | refine g1 (hw := ?_) | refine g2 (hw := ?_) | refine g3 (hw := ?_) | refine g4 (hw := ?_) | refine e0' (hk := ?_) | refine b0' (hk := ?_) | refine b1' (hk := ?_) | refine p1' (hk := ?_) | refine e1' (hk := ?_) | refine e2' (hk := ?_) | refine u1' (hk := ?_) | refine u2' (hk := ?_) | refine u3' (hk := ?_) | refine u4' (hk := ?_) | refine e3' (ht := ?_) (hf := ?_) | refine e4' (ht := ?_) (hf := ?_) | refine b4' (hk := ?_) | refine b7b (hk := ?_) | refine e5' (hk := ?_) | refine f5' (hk := ?_) | refine f6' (hk := ?_) | refine f8' (hk := ?_) | refine f9' (hk := ?_) | refine b7' (hk := ?_) | refine p0' (hk := ?_) | refine h1'' (hw := ?_) | refine h2'' (hw := ?_) | refine h3'' (hw := ?_) | refine h4'' (hw := ?_) | (with_reducible intro hc) | refine d6 (ht := ?_) | refine d7 (hf := ?_) | refine u5 (hk := ?_) | refine u6 (hk := ?_) | refine u7 (hk := ?_) | refine u8 (hk := ?_) | refine d8 (ht := ?_) (hf := ?_) | refine d9 (ht := ?_) (hf := ?_))
      refine ⟨_, _, ?_, ex1 hE, at_mk ⟨rfl, rfl, rfl, inc (by omega), trivial⟩, (List.append_nil _).symm⟩
      rw [hq]; simp
    | true =>
      repeat' (first | refine c0 ?_ | refine c1 ?_ | refine c2 ?_ | refine c3 ?_ | refine c4 ?_ | refine c5 ?_ | refine c6 (h := ?_) | refine c7 ?_ | refine d2 ?_ | refine c8 ?_ | refine c9 ?_ | refine d0 ?_ | refine d1 ?_ | refine d4 ?_ | refine d3' (h := ?_) | refine d4' ?_ | refine a0 (hk := ?_) | refine b0 (hk := ?_) | refine b1 (hk := ?_) | refine b2 (hk := ?_) | refine b3 (hk := ?_) | refine b4 (hk := ?_) | refine p1 (hk := ?_) | refine g0' (hk := ?_) | refine a1 (hk := ?_) | refine a2 (hk := ?_) | refine u1 (hk := ?_) | refine u2 (hk := ?_) | refine u3 (hk := ?_) | refine u4 (hk := ?_) | refine a3 (ht := ?_) (hf := ?_) | refine a4 (ht := ?_) (hf := ?_) | refine a5 (hk := ?_) | refine b5 (hk := ?_) | refine b6 (hk := ?_) | refine b8 (hk := ?_) | refine b9 (hk := ?_) | refine b7 (hk := ?_) | refine p0 (hk := ?_) | refine g1 (hw := ?_) | refine g2 (hw := ?_) | refine g3 (hw := ?_) | refine g4 (hw := ?_) | refine e0' (hk := ?_) | refine b0' (hk := ?_) | refine b1' (hk := ?_) | refine p1' (hk := ?_) | refine e1' (hk := ?_) | refine e2' (hk := ?_) | refine u1' (hk := ?_) | refine u2' (hk := ?_) | refine u3' (hk := ?_) | refine u4' (hk := ?_) | refine e3' (ht := ?_) (hf := ?_) | refine e4' (ht := ?_) (hf := ?_) | refine b4' (hk := ?_) | refine b7b (hk := ?_) | refine e5' (hk := ?_) | refine f5' (hk := ?_) | refine f6' (hk := ?_) | refine f8' (hk := ?_) | refine f9' (hk := ?_) | refine b7' (hk := ?_) | refine p0' (hk := ?_) | refine h1'' (hw := ?_) | refine h2'' (hw := ?_) | refine h3'' (hw := ?_) | refine h4'' (hw := ?_) | (with_reducible intro hc) | refine d6 (ht := ?_) | refine d7 (hf := ?_) | refine u5 (hk := ?_) | refine u6 (hk := ?_) | refine u7 (hk := ?_) | refine u8 (hk := ?_) | refine d8 (ht := ?_) (hf := ?_) | refine d9 (ht := ?_) (hf := ?_))
      · refine rBx hE (hv := ?_)
        rw [hq]; simp at hc; simp [hc]
      · refine ⟨_, _, ?_, ex1 hE, at_mk ⟨rfl, rfl, rfl, inc (by omega), trivial⟩, (List.append_nil _).symm⟩
        rw [hq]; simp at hc; simp [hc]
  · rintro T' S' ⟨T0, S1, hq, hE, rfl, rfl⟩
    repeat' (first | refine c0 ?_ | refine c1 ?_ | refine c2 ?_ | refine c3 ?_ | refine c4 ?_ | refine c5 ?_ | refine c6 (h := ?_) | refine c7 ?_ | refine d2 ?_ | refine c8 ?_ | refine c9 ?_ | refine d0 ?_ | refine d1 ?_ | refine d4 ?_ | refine d3' (h := ?_) | refine d4' ?_ | refine a0 (hk := ?_) | refine b0 (hk := ?_) | refine b1 (hk := ?_) | refine b2 (hk := ?_) | refine b3 (hk := ?_) | refine b4 (hk := ?_) | refine p1 (hk := ?_) | refine g0' (hk := ?_) | refine a1 (hk := ?_) | refine a2 (hk := ?_) | refine u1 (hk := ?_) | refine u2 (hk := ?_) | refine u3 (hk := ?_) | refine u4 (hk := ?_) | refine a3 (ht := ?_) (hf := ?_) | refine a4 (ht := ?_) (hf := ?_) | refine a5 (hk := ?_) | refine b5 (hk := ?_) | refine b6 (hk := ?_) | refine b8 (hk := ?_) | refine b9 (hk := ?_) | refine b7 (hk := ?_) | refine p0 (hk := ?_) | refine g1 (hw := ?_) | refine g2 (hw := ?_) | refine g3 (hw := ?_) | refine g4 (hw := ?_) | refine e0' (hk := ?_) | refine b0' (hk := ?_) | refine b1' (hk := ?_) | refine p1' (hk := ?_) | refine e1' (hk := ?_) | refine e2' (hk := ?_) | refine u1' (hk := ?_) | refine u2' (hk := ?_) | refine u3' (hk := ?_) | refine u4' (hk := ?_) | refine e3' (ht := ?_) (hf := ?_) | refine e4' (ht := ?_) (hf := ?_) | refine b4' (hk := ?_) | refine b7b (hk := ?_) | refine e5' (hk := ?_) | refine f5' (hk := ?_) | refine f6' (hk := ?_) | refine f8' (hk := ?_) | refine f9' (hk := ?_) | refine b7' (hk := ?_) | refine p0' (hk := ?_) | refine h1'' (hw := ?_) | refine h2'' (hw := ?_) | refine h3'' (hw := ?_) | refine h4'' (hw := ?_) | (with_reducible intro hc) | refine d6 (ht := ?_) | refine d7 (hf := ?_) | refine u5 (hk := ?_) | refine u6 (hk := ?_) | refine u7 (hk := ?_) | refine u8 (hk := ?_) | refine d8 (ht := ?_) (hf := ?_) | refine d9 (ht := ?_) (hf := ?_))
    · simp at hc
    · exact rBx hE (hv := by rw [hq]; rfl)
theorem k_spec_TypeKnows (ls : List Lab) (ss : Stps) (h : Int) (S : St) (hs : ss.sz ≤ 1048576) (hl : ls.length ≤ 1048576) : Ev Y spec_TypeKnows [PR ls ss, I h] S (BL (if progOk ls ss then knowsOf ls h else [])) S := by
  cases hok : progOk ls ss with
  | false =>
    refine E_start (h := ?_)
    repeat' (first | refine c0 ?_ | refine c1 ?_ | refine c2 ?_ | refine c3 ?_ | refine c4 ?_ | refine c5 ?_ | refine c6 (h := ?_) | refine c7 ?_ | refine d2 ?_ | refine c8 ?_ | refine c9 ?_ | refine d0 ?_ | refine d1 ?_ | refine d4 ?_ | refine a0 (hk := ?_) | refine b0 (hk := ?_) | refine b1 (hk := ?_) | refine b2 (hk := ?_) | refine b3 (hk := ?_) | refine b4 (hk := ?_) | refine p1 (hk := ?_) | refine g0' (hk := ?_) | refine a1 (hk := ?_) | refine a2 (hk := ?_) | refine u1 (hk := ?_) | refine u2 (hk := ?_) | refine u3 (hk := ?_) | refine u4 (hk := ?_) | refine a3 (ht := ?_) (hf := ?_) | refine a4 (ht := ?_) (hf := ?_) | refine a5 (hk := ?_) | refine b5 (hk := ?_) | refine b6 (hk := ?_) | refine b8 (hk := ?_) | refine b9 (hk := ?_) | refine b7 (hk := ?_) | refine p0 (hk := ?_) | refine g1 (hw := ?_) | refine g2 (hw := ?_) | refine g3 (hw := ?_) | refine g4 (hw := ?_) | (with_reducible intro hc) | refine d6 (ht := ?_) | refine d7 (hf := ?_) | refine u5 (hk := ?_) | refine u6 (hk := ?_) | refine u7 (hk := ?_) | refine u8 (hk := ?_) | refine d8 (ht := ?_) (hf := ?_) | refine d9 (ht := ?_) (hf := ?_))
    cases ls with
    | nil =>
      refine d5 ?_
      repeat' (first | refine c0 ?_ | refine c1 ?_ | refine c2 ?_ | refine c3 ?_ | refine c4 ?_ | refine c5 ?_ | refine c6 (h := ?_) | refine c7 ?_ | refine d2 ?_ | refine c8 ?_ | refine c9 ?_ | refine d0 ?_ | refine d1 ?_ | refine d4 ?_ | refine a0 (hk := ?_) | refine b0 (hk := ?_) | refine b1 (hk := ?_) | refine b2 (hk := ?_) | refine b3 (hk := ?_) | refine b4 (hk := ?_) | refine p1 (hk := ?_) | refine g0' (hk := ?_) | refine a1 (hk := ?_) | refine a2 (hk := ?_) | refine u1 (hk := ?_) | refine u2 (hk := ?_) | refine u3 (hk := ?_) | refine u4 (hk := ?_) | refine a3 (ht := ?_) (hf := ?_) | refine a4 (ht := ?_) (hf := ?_) | refine a5 (hk := ?_) | refine b5 (hk := ?_) | refine b6 (hk := ?_) | refine b8 (hk := ?_) | refine b9 (hk := ?_) | refine b7 (hk := ?_) | refine p0 (hk := ?_) | refine g1 (hw := ?_) | refine g2 (hw := ?_) | refine g3 (hw := ?_) | refine g4 (hw := ?_) | (with_reducible intro hc) | refine d6 (ht := ?_) | refine d7 (hf := ?_) | refine u5 (hk := ?_) | refine u6 (hk := ?_) | refine u7 (hk := ?_) | refine u8 (hk := ?_) | refine d8 (ht := ?_) (hf := ?_) | refine d9 (ht := ?_) (hf := ?_))
      exact rL (hp := rfl) (hv := rfl)
    | cons l0 lt =>
      have hc0 : (0 : Int) < (((l0 :: lt).map lrow).length : Int) := by rw [List.length_map, List.length_cons]; omega
      refine d5 ?_
      repeat' (first | refine c0 ?_ | refine c1 ?_ | refine c2 ?_ | refine c3 ?_ | refine c4 ?_ | refine c5 ?_ | refine c6 (h := ?_) | refine c7 ?_ | refine d2 ?_ | refine c8 ?_ | refine c9 ?_ | refine d0 ?_ | refine d1 ?_ | refine d4 ?_ | refine a0 (hk := ?_) | refine k0 (he := (by first | exact hok ▸ k_spec_ProgOk (l0 :: lt) ss _ hs hl)) (hk := ?_) | refine k1 (he := (by first | exact hok ▸ k_spec_ProgOk (l0 :: lt) ss _ hs hl)) (hk := ?_) | refine b0 (hk := ?_) | refine b1 (hk := ?_) | refine b2 (hk := ?_) | refine b3 (hk := ?_) | refine b4 (hk := ?_) | refine p1 (hk := ?_) | refine g0' (hk := ?_) | refine a1 (hk := ?_) | refine a2 (hk := ?_) | refine u1 (hk := ?_) | refine u2 (hk := ?_) | refine u3 (hk := ?_) | refine u4 (hk := ?_) | refine a3 (ht := ?_) (hf := ?_) | refine a4 (ht := ?_) (hf := ?_) | refine a5 (hk := ?_) | refine b5 (hk := ?_) | refine b6 (hk := ?_) | refine b8 (hk := ?_) | refine b9 (hk := ?_) | refine b7 (hk := ?_) | refine p0 (hk := ?_) | refine g1 (hw := ?_) | refine g2 (hw := ?_) | refine g3 (hw := ?_) | refine g4 (hw := ?_) | (with_reducible intro hc) | refine d6 (ht := ?_) | refine d7 (hf := ?_) | refine u5 (hk := ?_) | refine u6 (hk := ?_) | refine u7 (hk := ?_) | refine u8 (hk := ?_) | refine d8 (ht := ?_) (hf := ?_) | refine d9 (ht := ?_) (hf := ?_))
      exact rL (hp := rfl) (hv := rfl)
  | true =>
    refine E_start (h := ?_)
    repeat' (first | refine c0 ?_ | refine c1 ?_ | refine c2 ?_ | refine c3 ?_ | refine c4 ?_ | refine c5 ?_ | refine c6 (h := ?_) | refine c7 ?_ | refine d2 ?_ | refine c8 ?_ | refine c9 ?_ | refine d0 ?_ | refine d1 ?_ | refine d4 ?_ | refine a0 (hk := ?_) | refine b0 (hk := ?_) | refine b1 (hk := ?_) | refine b2 (hk := ?_) | refine b3 (hk := ?_) | refine b4 (hk := ?_) | refine p1 (hk := ?_) | refine g0' (hk := ?_) | refine a1 (hk := ?_) | refine a2 (hk := ?_) | refine u1 (hk := ?_) | refine u2 (hk := ?_) | refine u3 (hk := ?_) | refine u4 (hk := ?_) | refine a3 (ht := ?_) (hf := ?_) | refine a4 (ht := ?_) (hf := ?_) | refine a5 (hk := ?_) | refine b5 (hk := ?_) | refine b6 (hk := ?_) | refine b8 (hk := ?_) | refine b9 (hk := ?_) | refine b7 (hk := ?_) | refine p0 (hk := ?_) | refine g1 (hw := ?_) | refine g2 (hw := ?_) | refine g3 (hw := ?_) | refine g4 (hw := ?_) | (with_reducible intro hc) | refine d6 (ht := ?_) | refine d7 (hf := ?_) | refine u5 (hk := ?_) | refine u6 (hk := ?_) | refine u7 (hk := ?_) | refine u8 (hk := ?_) | refine d8 (ht := ?_) (hf := ?_) | refine d9 (ht := ?_) (hf := ?_))
    refine C_list ls (fun pre r T' S' => ∃ (T0 : Tm) (S1 : St), Ext S S1 ∧ S1[S.length + 0]? = some (.cells false [[LS ls, .lst ss.rows]]) ∧ S1[S.length + 2]? = some (.cells true ((knowsOf pre h).map fun x => [HV.bool x])) ∧
        T' = putL T0 [(1, I h), (2, .ptr (S.length + 0) 1 0 0), (5, .sl (S.length + 2) pre.length), (6, I pre.length)] ∧ S' = S1 ++ [])
      ⟨_, _, ex0, get_own rfl, get_own rfl, at_mk ⟨rfl, rfl, rfl, rfl, trivial⟩, (List.append_nil _).symm⟩ ?_ ?_
    · rintro pre x r T' S' hx ⟨T0, S1, hE, f0, f2, rfl, rfl⟩
      have hg := mid hx
      have hlt := mid_lt hx
      have hc0 : (pre.length : Int) < ((ls.map lrow).length : Int) := by simp; omega
      have e1 := brow1 (knowsOf pre h)
      have e2 : ((knowsOf pre h).map fun x => [HV.bool x]).length = pre.length := by simp [knowsOf]
      have n0 : S.length + 0 ≠ S.length + 2 := by omega
      repeat' (first | refine c0 ?_ | refine c1 ?_ | refine c2 ?_ | refine c3 ?_ | refine c4 ?_ | refine c5 ?_ | refine c6 (h := ?_) | refine c7 ?_ | refine d2 ?_ | refine c8 ?_ | refine c9 ?_ | refine d0 ?_ | refine d1 ?_ | refine d4 ?_ | refine a0 (hk := ?_) | refine k0 (he := (by first | exact hok ▸ k_spec_ProgOk ls ss _ hs hl | exact k_spec_l1Has _ _ _)) (hk := ?_) | refine k1 (he := (by first | exact hok ▸ k_spec_ProgOk ls ss _ hs hl | exact k_spec_l1Has _ _ _)) (hk := ?_) | refine b0 (hk := ?_) | refine b1 (hk := ?_) | refine b2 (hk := ?_) | refine b3 (hk := ?_) | refine b4 (hk := ?_) | refine p1 (hk := ?_) | refine g0' (hk := ?_) | refine a1 (hk := ?_) | refine a2 (hk := ?_) | refine u1 (hk := ?_) | refine u2 (hk := ?_) | refine u3 (hk := ?_) | refine u4 (hk := ?_) | refine a3 (ht := ?_) (hf := ?_) | refine a4 (ht := ?_) (hf := ?_) | refine a5 (hk := ?_) | refine b5 (hk := ?_) | refine b6 (hk := ?_) | refine b8 (hk := ?_) | refine b9 (hk := ?_) | refine b7 (hk := ?_) | refine p0 (hk := ?_) | refine g1 (hw := ?_) | refine g2 (hw := ?_) | refine g3 (hw := ?_) | refine g4 (hw := ?_) | (with_reducible intro hc) | refine d6 (ht := ?_) | refine d7 (hf := ?_) | refine u5 (hk := ?_) | refine u6 (hk := ?_) | refine u7 (hk := ?_) | refine u8 (hk := ?_) | refine d8 (ht := ?_) (hf := ?_) | refine d9 (ht := ?_) (hf := ?_))
      refine ⟨_, _, ex1 (ex2 hE (Nat.le_add_right _ _)), get_setN n0 f0, ?_, at_mk ⟨rfl, rfl, ?_, inc (by omega), trivial⟩, (List.append_nil _).symm⟩
      · rw [get_set f2, show knowsOf (pre ++ [x]) h = knowsOf pre h ++ [hasG x.k h] by simp [knowsOf], List.map_append]; rfl
      · show HV.sl _ _ = _; simp
    · rintro T' S' ⟨T0, S1, hE, f0, f2, rfl, rfl⟩
      have hc0 : ¬ ((ls.length : Int) < ((ls.map lrow).length : Int)) := by simp
      repeat' (first | refine c0 ?_ | refine c1 ?_ | refine c2 ?_ | refine c3 ?_ | refine c4 ?_ | refine c5 ?_ | refine c6 (h := ?_) | refine c7 ?_ | refine d2 ?_ | refine c8 ?_ | refine c9 ?_ | refine d0 ?_ | refine d1 ?_ | refine d4 ?_ | refine a0 (hk := ?_) | refine k0 (he := (by first | exact hok ▸ k_spec_ProgOk ls ss _ hs hl)) (hk := ?_) | refine k1 (he := (by first | exact hok ▸ k_spec_ProgOk ls ss _ hs hl)) (hk := ?_) | refine b0 (hk := ?_) | refine b1 (hk := ?_) | refine b2 (hk := ?_) | refine b3 (hk := ?_) | refine b4 (hk := ?_) | refine p1 (hk := ?_) | refine g0' (hk := ?_) | refine a1 (hk := ?_) | refine a2 (hk := ?_) | refine u1 (hk := ?_) | refine u2 (hk := ?_) | refine u3 (hk := ?_) | refine u4 (hk := ?_) | refine a3 (ht := ?_) (hf := ?_) | refine a4 (ht := ?_) (hf := ?_) | refine a5 (hk := ?_) | refine b5 (hk := ?_) | refine b6 (hk := ?_) | refine b8 (hk := ?_) | refine b9 (hk := ?_) | refine b7 (hk := ?_) | refine p0 (hk := ?_) | refine g1 (hw := ?_) | refine g2 (hw := ?_) | refine g3 (hw := ?_) | refine g4 (hw := ?_) | (with_reducible intro hc) | refine d6 (ht := ?_) | refine d7 (hf := ?_) | refine u5 (hk := ?_) | refine u6 (hk := ?_) | refine u7 (hk := ?_) | refine u8 (hk := ?_) | refine d8 (ht := ?_) (hf := ?_) | refine d9 (ht := ?_) (hf := ?_))
      exact rLx hE (hn := by simp [knowsOf]) (hp := brow_pure _) (hv := rfl)
end Go.Proofs.X
end
section
namespace Go.Proofs.X
open Go Go.Proofs.XVai Go.Proofs Go.Proofs.XN
set_option linter.unusedVariables false
set_option linter.unusedSimpArgs false
set_option maxHeartbeats 4000000
theorem pairs_add (a b : Nat) : ∃ r, pairs (a + b) = pairs a ++ r := by
  rw [pairs, List.range_add, List.flatMap_append]
  exact ⟨_, rfl⟩
theorem find_at {D : Nat × Nat → Bool} {n k i : Nat} (hk : k < i) (hi : i < n) (h1 : ∀ i', i' < i → ∀ k', k' < i' → D (k', i') = false) (h2 : ∀ k', k' < k → D (k', i) = false) (h3 : D (k, i) = true) : (pairs n).find? D = some (k, i) := by
  obtain ⟨m, rfl⟩ : ∃ m, n = i + 1 + m := ⟨n - (i + 1), by omega⟩
  obtain ⟨r, hr⟩ := pairs_add (i + 1) m
  have e1 : pairs (i + 1) = pairs i ++ (List.range i).map fun k => (k, i) := by simp [pairs, List.range_succ]
  obtain ⟨j, rfl⟩ : ∃ j, i = k + 1 + j := ⟨i - (k + 1), by omega⟩
  have e2 : (List.range (k + 1 + j)).map (fun q => (q, k + 1 + j)) = (List.range k).map (fun q => (q, k + 1 + j)) ++ (k, k + 1 + j) :: ((List.range j).map (k + 1 + ·)).map fun q => (q, k + 1 + j) := by
    rw [List.range_add, List.range_succ, List.map_append, List.map_append]; simp
  rw [List.find?_eq_some_iff_append]
  refine ⟨h3, pairs (k + 1 + j) ++ (List.range k).map (fun q => (q, k + 1 + j)), ((List.range j).map (k + 1 + ·)).map (fun q => (q, k + 1 + j)) ++ r, ?_, ?_⟩
  · rw [hr, e1, e2]; simp
  · rintro ⟨a, b⟩ ha
    rcases List.mem_append.1 ha with ha | ha
    · rw [pairs_mem] at ha
      simp [h1 b ha.2 a ha.1]
    · simp only [List.mem_map, List.mem_range, Prod.mk.injEq] at ha
      obtain ⟨q, hq, rfl, rfl⟩ := ha
      simp [h2 q hq]
theorem find_no {D : Nat × Nat → Bool} {n : Nat} (h1 : ∀ i', i' < n → ∀ k', k' < i' → D (k', i') = false) : (pairs n).find? D = none := by
  rw [List.find?_eq_none]
  rintro ⟨a, b⟩ ha
  rw [pairs_mem] at ha
  simp [h1 b ha.2 a ha.1]
theorem shl4 {n : Nat} (h : n ≤ 4) : IntKind.i64.wrap (1 * 2 ^ min (Int.toNat (n : Int)) IntKind.i64.bits) = ((2 ^ n : Nat) : Int) := by
  have : n = 0 ∨ n = 1 ∨ n = 2 ∨ n = 3 ∨ n = 4 := by omega
  rcases this with rfl | rfl | rfl | rfl | rfl <;> decide
theorem incN {i : Nat} (h : i < 9223372036854775807) : HV.int .i64 (IntKind.i64.wrap ((i : Int) + 1)) = I ((i + 1 : Nat)) := by
  rw [i64_id (by omega) (by omega)]; simp
theorem pow4 {n : Nat} (h : n ≤ 4) : 2 ^ n ≤ 16 := by
  have : n = 0 ∨ n = 1 ∨ n = 2 ∨ n = 3 ∨ n = 4 := by omega
  rcases this with rfl | rfl | rfl | rfl | rfl <;> decide
/-- Two rows that are the same in some variables, but of which something else comes. -/
def foundAt (ls : List Lab) (ss : Stps) (vars : List Bool) (h : Int) (told : Bool) (p : Nat × Nat) : Bool :=
  let a := row2 p.1 ls.length; let b := row2 p.2 ls.length
  sameOn a b vars && (if told then !(runTo (runOf ls ss a).ss h == runTo (runOf ls ss b).ss h) else !(runSets (runOf ls ss a).ws vars == runSets (runOf ls ss b).ws vars))
def FND (n : Nat) : Option (Nat × Nat) → HV
  | some (k, i) => .tup [L (row2 k n), L (row2 i n), .bool true]
  | none => .tup [L [], L [], .bool false]
/-- What comes of a row of bits is small. -/
theorem runOf_sz {ls : List Lab} {ss : Stps} (hok : progOk ls ss = true) (a : List Int) : (runOf ls ss a).ws.length ≤ 8 ∧ (runOf ls ss a).ss.length ≤ 8 := by
  obtain ⟨p1, p2, p3, p4⟩ := progOk_in hok
  unfold runOf
  split
  · rename_i h
    obtain ⟨_, h2, h3⟩ := numsOk_in h
    have := runs_in ss 3 ⟨a, [], []⟩ (by rw [h2]; exact p3) h3
    simp only [List.length_nil] at this
    omega
  · simp
theorem runTo_len (a : List (Int × Int)) (h : Int) : (runTo a h).length ≤ a.length := by
  rw [runTo, List.length_map]; exact List.length_filter_le _ _
theorem runSets_len (a : List (Int × Int)) (vs : List Bool) : (runSets a vs).length ≤ a.length := List.length_filter_le _ _
theorem k_spec_l12Find (ls : List Lab) (ss : Stps) (vars : List Bool) (h : Int) (told : Bool) (S : St) (hok : progOk ls ss = true) (hv : vars.length = ls.length) : Ev Y spec_l12Find [PR ls ss, BL vars, I h, .bool told] S (FND ls.length ((pairs (2 ^ ls.length)).find? (foundAt ls ss vars h told))) S := by
  obtain ⟨p1, p2, p3, p4⟩ := progOk_in hok
  have hsh := shl4 p1
  have hp4 := pow4 p1
  have hrs := fun a => runOf_sz hok a
  have hrl := fun m => row2_len m ls.length
  refine E_start (h := ?_)
  repeat' (first | refine c0 ?_ | refine c1 ?_ | refine c2 ?_ | refine c3 ?_ | refine c4 ?_ | refine c5 ?_ | refine c6 (h := ?_) | refine c7 ?_ | refine d2 ?_ | refine c8 ?_ | refine c9 ?_ | refine d0 ?_ | refine d1 ?_ | refine d4 ?_ | refine a0 (hk := ?_) | refine b0 (hk := ?_) | refine b1 (hk := ?_) | refine b2 (hk := ?_) | refine b3 (hk := ?_) | refine b4 (hk := ?_) | refine p1 (hk := ?_) | refine g0' (hk := ?_) | refine a1 (hk := ?_) | refine a2 (hk := ?_) | refine u1 (hk := ?_) | refine u2 (hk := ?_) | refine u3 (hk := ?_) | refine u4 (hk := ?_) | refine a3 (ht := ?_) (hf := ?_) | refine a4 (ht := ?_) (hf := ?_) | refine a5 (hk := ?_) | refine b5 (hk := ?_) | refine b6 (hk := ?_) | refine b8 (hk := ?_) | refine b9 (hk := ?_) | refine b7 (hk := ?_) | refine p0 (hk := ?_) | refine g1 (hw := ?_) | refine g2 (hw := ?_) | refine g3 (hw := ?_) | refine g4 (hw := ?_) | (with_reducible intro hc) | refine d6 (ht := ?_) | refine d7 (hf := ?_) | refine u5 (hk := ?_) | refine u6 (hk := ?_) | refine u7 (hk := ?_) | refine u8 (hk := ?_) | refine d8 (ht := ?_) (hf := ?_) | refine d9 (ht := ?_) (hf := ?_))
  refine C_loop (fun m T' S' => ∃ (T0 : Tm) (S1 : St) (i : Nat), i + m = 2 ^ ls.length ∧ (∀ i', i' < i → ∀ k', k' < i' → foundAt ls ss vars h told (k', i') = false) ∧ Ext S S1 ∧ S1[S.length + 0]? = some (.cells false [[LS ls, .lst ss.rows]]) ∧
      T' = putL T0 [(1, BL vars), (2, I h), (3, .bool told), (4, .ptr (S.length + 0) 1 0 0), (11, I ls.length), (12, I i)] ∧ S' = S1 ++ []) (2 ^ ls.length)
    ⟨_, _, 0, by omega, by omega, ex0, get_own rfl, at_mk ⟨rfl, rfl, rfl, rfl, by show HV.int _ _ = _; simp, rfl, trivial⟩, (List.append_nil _).symm⟩ ?_
  rintro m T' S' ⟨T0, S1, i, hm, hno, hE, f0, rfl, rfl⟩
  cases m with
  | zero =>
    have hc0 : ¬ ((i : Int) < IntKind.i64.wrap (1 * 2 ^ min (Int.toNat (ls.length : Int)) IntKind.i64.bits)) := by rw [hsh]; omega
    repeat' (first | refine c0 ?_ | refine c1 ?_ | refine c2 ?_ | refine c3 ?_ | refine c4 ?_ | refine c5 ?_ | refine c6 (h := ?_) | refine c7 ?_ | refine d2 ?_ | refine c8 ?_ | refine c9 ?_ | refine d0 ?_ | refine d1 ?_ | refine d4 ?_ | refine a0 (hk := ?_) | refine b0 (hk := ?_) | refine b1 (hk := ?_) | refine b2 (hk := ?_) | refine b3 (hk := ?_) | refine b4 (hk := ?_) | refine p1 (hk := ?_) | refine g0' (hk := ?_) | refine a1 (hk := ?_) | refine a2 (hk := ?_) | refine u1 (hk := ?_) | refine u2 (hk := ?_) | refine u3 (hk := ?_) | refine u4 (hk := ?_) | refine a3 (ht := ?_) (hf := ?_) | refine a4 (ht := ?_) (hf := ?_) | refine a5 (hk := ?_) | refine b5 (hk := ?_) | refine b6 (hk := ?_) | refine b8 (hk := ?_) | refine b9 (hk := ?_) | refine b7 (hk := ?_) | refine p0 (hk := ?_) | refine g1 (hw := ?_) | refine g2 (hw := ?_) | refine g3 (hw := ?_) | refine g4 (hw := ?_) | (with_reducible intro hc) | refine d6 (ht := ?_) | refine d7 (hf := ?_) | refine u5 (hk := ?_) | refine u6 (hk := ?_) | refine u7 (hk := ?_) | refine u8 (hk := ?_) | refine d8 (ht := ?_) (hf := ?_) | refine d9 (ht := ?_) (hf := ?_))
    refine rG (vs := [.sl (S1.length + 0) 0, .sl (S1.length + 1) 0, .bool false]) (v := .tup [.lst [], .lst [], .bool false]) (hz := frzR_tup (fmS (fzV_sl rfl (by have := hE.le; omega) (get_own rfl) rfl rfl) (fmS (fzV_sl rfl (by have := hE.le; omega) (get_own rfl) rfl rfl) (fmS rfl fm0)))) (hl := by have := hE.le; simp; omega) (ho := fun j hj => by rw [List.getElem?_append_left (by have := hE.le; omega), hE.old hj]) (hv := ?_)
    rw [find_no (by have : i = 2 ^ ls.length := by omega
                    rw [← this]; exact hno)]
    rfl
  | succ m =>
    have hc0 : (i : Int) < IntKind.i64.wrap (1 * 2 ^ min (Int.toNat (ls.length : Int)) IntKind.i64.bits) := by rw [hsh]; omega
    repeat' (first | refine c0 ?_ | refine c1 ?_ | refine c2 ?_ | refine c3 ?_ | refine c4 ?_ | refine c5 ?_ | refine c6 (h := ?_) | refine c7 ?_ | refine d2 ?_ | refine c8 ?_ | refine c9 ?_ | refine d0 ?_ | refine d1 ?_ | refine d4 ?_ | refine a0 (hk := ?_) | refine b0 (hk := ?_) | refine b1 (hk := ?_) | refine b2 (hk := ?_) | refine b3 (hk := ?_) | refine b4 (hk := ?_) | refine p1 (hk := ?_) | refine g0' (hk := ?_) | refine a1 (hk := ?_) | refine a2 (hk := ?_) | refine u1 (hk := ?_) | refine u2 (hk := ?_) | refine u3 (hk := ?_) | refine u4 (hk := ?_) | refine a3 (ht := ?_) (hf := ?_) | refine a4 (ht := ?_) (hf := ?_) | refine a5 (hk := ?_) | refine b5 (hk := ?_) | refine b6 (hk := ?_) | refine b8 (hk := ?_) | refine b9 (hk := ?_) | refine b7 (hk := ?_) | refine p0 (hk := ?_) | refine g1 (hw := ?_) | refine g2 (hw := ?_) | refine g3 (hw := ?_) | refine g4 (hw := ?_) | (with_reducible intro hc) | refine d6 (ht := ?_) | refine d7 (hf := ?_) | refine u5 (hk := ?_) | refine u6 (hk := ?_) | refine u7 (hk := ?_) | refine u8 (hk := ?_) | refine d8 (ht := ?_) (hf := ?_) | refine d9 (ht := ?_) (hf := ?_))
    refine C_loop (fun m' T' S' => ∃ (T0 : Tm) (S1 : St) (k : Nat), k + m' = i ∧ (∀ k', k' < k → foundAt ls ss vars h told (k', i) = false) ∧ Ext S S1 ∧ S1[S.length + 0]? = some (.cells false [[LS ls, .lst ss.rows]]) ∧
        T' = putL T0 [(1, BL vars), (2, I h), (3, .bool told), (4, .ptr (S.length + 0) 1 0 0), (11, I ls.length), (12, I i), (13, I k)] ∧ S' = S1 ++ []) i
      ⟨_, _, 0, by omega, by omega, ex1 hE, get_old f0, at_mk ⟨rfl, rfl, rfl, rfl, rfl, rfl, rfl, trivial⟩, (List.append_nil _).symm⟩ ?_
    clear hE f0 S1 T0
    rintro m' T' S' ⟨T0, S1, k, hm', hno', hE, f0, rfl, rfl⟩
    cases m' with
    | zero =>
      have hc1 : ¬ ((k : Int) < (i : Int)) := by omega
      repeat' (first | refine c0 ?_ | refine c1 ?_ | refine c2 ?_ | refine c3 ?_ | refine c4 ?_ | refine c5 ?_ | refine c6 (h := ?_) | refine c7 ?_ | refine d2 ?_ | refine c8 ?_ | refine c9 ?_ | refine d0 ?_ | refine d1 ?_ | refine d4 ?_ | refine a0 (hk := ?_) | refine b0 (hk := ?_) | refine b1 (hk := ?_) | refine b2 (hk := ?_) | refine b3 (hk := ?_) | refine b4 (hk := ?_) | refine p1 (hk := ?_) | refine g0' (hk := ?_) | refine a1 (hk := ?_) | refine a2 (hk := ?_) | refine u1 (hk := ?_) | refine u2 (hk := ?_) | refine u3 (hk := ?_) | refine u4 (hk := ?_) | refine a3 (ht := ?_) (hf := ?_) | refine a4 (ht := ?_) (hf := ?_) | refine a5 (hk := ?_) | refine b5 (hk := ?_) | refine b6 (hk := ?_) | refine b8 (hk := ?_) | refine b9 (hk := ?_) | refine b7 (hk := ?_) | refine p0 (hk := ?_) | refine g1 (hw := ?_) | refine g2 (hw := ?_) | refine g3 (hw := ?_) | refine g4 (hw := ?_) | (with_reducible intro hc) | refine d6 (ht := ?_) | refine d7 (hf := ?_) | refine u5 (hk := ?_) | refine u6 (hk := ?_) | refine u7 (hk := ?_) | refine u8 (hk := ?_) | refine d8 (ht := ?_) (hf := ?_) | refine d9 (ht := ?_) (hf := ?_))
      refine ⟨m, by omega, _, _, i + 1, by omega, fun i' hi' => ?_, ex1 hE, get_old f0, at_mk ⟨rfl, rfl, rfl, rfl, rfl, incN (by omega), trivial⟩, (List.append_nil _).symm⟩
      by_cases he : i' = i
      · subst he
        have : k = i' := by omega
        subst this
        exact hno'
      · exact hno i' (by omega)
    | succ m' =>
      have hc1 : (k : Int) < (i : Int) := by omega
      have r1 := fun S => k_spec_RunOf ls ss (row2 k ls.length) S (by omega) (by omega) (by rw [hrl]; omega)
      have r2 := fun S => k_spec_RunOf ls ss (row2 i ls.length) S (by omega) (by omega) (by rw [hrl]; omega)
      have hk1 := hrs (row2 k ls.length)
      have hk2 := hrs (row2 i ls.length)
      have hD : foundAt ls ss vars h told (k, i) = (sameOn (row2 k ls.length) (row2 i ls.length) vars && (if told then !(runTo (runOf ls ss (row2 k ls.length)).ss h == runTo (runOf ls ss (row2 i ls.length)).ss h) else !(runSets (runOf ls ss (row2 k ls.length)).ws vars == runSets (runOf ls ss (row2 i ls.length)).ws vars))) := rfl
      have go : foundAt ls ss vars h told (k, i) = false → ∀ k', k' < k + 1 → foundAt ls ss vars h told (k', i) = false := fun hf k' hk' => by
        by_cases he : k' = k
        · subst he; exact hf
        · exact hno' k' (by omega)
      cases told with
      | true =>
        repeat' (first | refine c0 ?_ | refine c1 ?_ | refine c2 ?_ | refine c3 ?_ | refine c4 ?_ | refine c5 ?_ | refine c6 (h := ?_) | refine c7 ?_ | refine d2 ?_ | refine c8 ?_ | refine c9 ?_ | refine d0 ?_ | refine d1 ?_ | refine d4 ?_ | refine d3' (h := ?_) | refine d4' ?_ | refine a0 (hk := ?_) | refine k0 (he := (by first | exact k_spec_l12Row _ _ _ (by omega) (by omega) | exact k_spec_l12Same _ _ _ _ (by rw [hrl]; omega) (by rw [hrl]; omega) (by omega) | exact r1 _ | exact r2 _ | exact k_spec_RunTo _ _ _ _ _ (by omega) | exact k_spec_l12Ints _ _ _ (by have := runTo_len (runOf ls ss (row2 k ls.length)).ss h; omega) (by have := runTo_len (runOf ls ss (row2 i ls.length)).ss h; omega))) (hk := ?_) | refine k1 (he := (by first | exact k_spec_l12Row _ _ _ (by omega) (by omega) | exact k_spec_l12Same _ _ _ _ (by rw [hrl]; omega) (by rw [hrl]; omega) (by omega) | exact r1 _ | exact r2 _ | exact k_spec_RunTo _ _ _ _ _ (by omega) | exact k_spec_l12Ints _ _ _ (by have := runTo_len (runOf ls ss (row2 k ls.length)).ss h; omega) (by have := runTo_len (runOf ls ss (row2 i ls.length)).ss h; omega))) (hk := ?_) | refine k0' (he := (by first | exact k_spec_l12Row _ _ _ (by omega) (by omega) | exact k_spec_l12Same _ _ _ _ (by rw [hrl]; omega) (by rw [hrl]; omega) (by omega) | exact r1 _ | exact r2 _ | exact k_spec_RunTo _ _ _ _ _ (by omega) | exact k_spec_l12Ints _ _ _ (by have := runTo_len (runOf ls ss (row2 k ls.length)).ss h; omega) (by have := runTo_len (runOf ls ss (row2 i ls.length)).ss h; omega))) (hk := ?_) | refine k2' (he := (by first | exact k_spec_l12Row _ _ _ (by omega) (by omega) | exact k_spec_l12Same _ _ _ _ (by rw [hrl]; omega) (by rw [hrl]; omega) (by omega) | exact r1 _ | exact r2 _ | exact k_spec_RunTo _ _ _ _ _ (by omega) | exact k_spec_l12Ints _ _ _ (by have := runTo_len (runOf ls ss (row2 k ls.length)).ss h; omega) (by have := runTo_len (runOf ls ss (row2 i ls.length)).ss h; omega))) (hk := ?_) | refine k3' (he := (by first | exact k_spec_l12Row _ _ _ (by omega) (by omega) | exact k_spec_l12Same _ _ _ _ (by rw [hrl]; omega) (by rw [hrl]; omega) (by omega) | exact r1 _ | exact r2 _ | exact k_spec_RunTo _ _ _ _ _ (by omega) | exact k_spec_l12Ints _ _ _ (by have := runTo_len (runOf ls ss (row2 k ls.length)).ss h; omega) (by have := runTo_len (runOf ls ss (row2 i ls.length)).ss h; omega))) (hk := ?_) | refine k1' (he := (by first | exact k_spec_l12Row _ _ _ (by omega) (by omega) | exact k_spec_l12Same _ _ _ _ (by rw [hrl]; omega) (by rw [hrl]; omega) (by omega) | exact r1 _ | exact r2 _ | exact k_spec_RunTo _ _ _ _ _ (by omega) | exact k_spec_l12Ints _ _ _ (by have := runTo_len (runOf ls ss (row2 k ls.length)).ss h; omega) (by have := runTo_len (runOf ls ss (row2 i ls.length)).ss h; omega))) (hk := ?_) | refine b0 (hk := ?_) | refine b1 (hk := ?_) | refine b2 (hk := ?_) | refine b3 (hk := ?_) | refine b4 (hk := ?_) | refine p1 (hk := ?_) | refine g0' (hk := ?_) | refine a1 (hk := ?_) | refine a2 (hk := ?_) | refine u1 (hk := ?_) | refine u2 (hk := ?_) | refine u3 (hk := ?_) | refine u4 (hk := ?_) | refine a3 (ht := ?_) (hf := ?_) | refine a4 (ht := ?_) (hf := ?_) | refine a5 (hk := ?_) | refine b5 (hk := ?_) | refine b6 (hk := ?_) | refine b8 (hk := ?_) | refine b9 (hk := ?_) | refine b7 (hk := ?_) | refine p0 (hk := ?_) | refine g1 (hw := ?_) | refine g2 (hw := ?_) | refine g3 (hw := ?_) | refine g4 (hw := ?_) | refine e0' (hk := ?_) | refine b0' (hk := ?_) | refine b1' (hk := ?_) | refine p1' (hk := ?_) | refine e1' (hk := ?_) | refine e2' (hk := ?_) | refine u1' (hk := ?_) | refine u2' (hk := ?_) | refine u3' (hk := ?_) | refine u4' (hk := ?_) | refine e3' (ht := ?_) (hf := ?_) | refine e4' (ht := ?_) (hf := ?_) | refine b4' (hk := ?_) | refine b7b (hk := ?_) | refine e5' (hk := ?_) | refine f5' (hk := ?_) | refine f6' (hk := ?_) | refine f8' (hk := ?_) | refine f9' (hk := ?_) | refine b7' (hk := ?_) | refine p0' (hk := ?_) | refine h1'' (hw := ?_) | refine h2'' (hw := ?_) | refine h3'' (hw := ?_) | refine h4'' (hw := ?_) | (with_reducible intro hc) | refine d6 (ht := ?_) | refine d7 (hf := ?_) | refine u5 (hk := ?_) | refine u6 (hk := ?_) | refine u7 (hk := ?_) | refine u8 (hk := ?_) | refine d8 (ht := ?_) (hf := ?_) | refine d9 (ht := ?_) (hf := ?_))
        · refine ⟨m', by omega, _, _, k + 1, by omega, go (by simp at hc; rw [hD, hc]; rfl), ex1 hE, get_old f0, at_mk ⟨rfl, rfl, rfl, rfl, rfl, rfl, incN (by omega), trivial⟩, (List.append_nil _).symm⟩
        · rename_i hs
          refine rVx hE (vs := [L (row2 k ls.length), L (row2 i ls.length), .bool true]) (v := .tup [L (row2 k ls.length), L (row2 i ls.length), .bool true]) (hv := ?_)
          rw [find_at (k := k) (i := i) (by omega) (by omega) hno hno' (by rw [hD]; clear hD go r1 r2; simp_all)]
          rfl
        · rename_i hs
          refine ⟨m', by omega, _, _, k + 1, by omega, go (by rw [hD]; clear hD go r1 r2; simp_all), ex1 hE, get_old f0, at_mk ⟨rfl, rfl, rfl, rfl, rfl, rfl, incN (by omega), trivial⟩, (List.append_nil _).symm⟩
      | false =>
        repeat' (first | refine c0 ?_ | refine c1 ?_ | refine c2 ?_ | refine c3 ?_ | refine c4 ?_ | refine c5 ?_ | refine c6 (h := ?_) | refine c7 ?_ | refine d2 ?_ | refine c8 ?_ | refine c9 ?_ | refine d0 ?_ | refine d1 ?_ | refine d4 ?_ | refine d3' (h := ?_) | refine d4' ?_ | refine a0 (hk := ?_) | refine k0 (he := (by first | exact k_spec_l12Row _ _ _ (by omega) (by omega) | exact k_spec_l12Same _ _ _ _ (by rw [hrl]; omega) (by rw [hrl]; omega) (by omega) | exact r1 _ | exact r2 _ | exact k_spec_RunSets _ _ _ _ _ (by omega) (by omega) | exact k_spec_l12Writes _ _ _ (by have := runSets_len (runOf ls ss (row2 k ls.length)).ws vars; omega) (by have := runSets_len (runOf ls ss (row2 i ls.length)).ws vars; omega))) (hk := ?_) | refine k1 (he := (by first | exact k_spec_l12Row _ _ _ (by omega) (by omega) | exact k_spec_l12Same _ _ _ _ (by rw [hrl]; omega) (by rw [hrl]; omega) (by omega) | exact r1 _ | exact r2 _ | exact k_spec_RunSets _ _ _ _ _ (by omega) (by omega) | exact k_spec_l12Writes _ _ _ (by have := runSets_len (runOf ls ss (row2 k ls.length)).ws vars; omega) (by have := runSets_len (runOf ls ss (row2 i ls.length)).ws vars; omega))) (hk := ?_) | refine k0' (he := (by first | exact k_spec_l12Row _ _ _ (by omega) (by omega) | exact k_spec_l12Same _ _ _ _ (by rw [hrl]; omega) (by rw [hrl]; omega) (by omega) | exact r1 _ | exact r2 _ | exact k_spec_RunSets _ _ _ _ _ (by omega) (by omega) | exact k_spec_l12Writes _ _ _ (by have := runSets_len (runOf ls ss (row2 k ls.length)).ws vars; omega) (by have := runSets_len (runOf ls ss (row2 i ls.length)).ws vars; omega))) (hk := ?_) | refine k2' (he := (by first | exact k_spec_l12Row _ _ _ (by omega) (by omega) | exact k_spec_l12Same _ _ _ _ (by rw [hrl]; omega) (by rw [hrl]; omega) (by omega) | exact r1 _ | exact r2 _ | exact k_spec_RunSets _ _ _ _ _ (by omega) (by omega) | exact k_spec_l12Writes _ _ _ (by have := runSets_len (runOf ls ss (row2 k ls.length)).ws vars; omega) (by have := runSets_len (runOf ls ss (row2 i ls.length)).ws vars; omega))) (hk := ?_) | refine k3' (he := (by first | exact k_spec_l12Row _ _ _ (by omega) (by omega) | exact k_spec_l12Same _ _ _ _ (by rw [hrl]; omega) (by rw [hrl]; omega) (by omega) | exact r1 _ | exact r2 _ | exact k_spec_RunSets _ _ _ _ _ (by omega) (by omega) | exact k_spec_l12Writes _ _ _ (by have := runSets_len (runOf ls ss (row2 k ls.length)).ws vars; omega) (by have := runSets_len (runOf ls ss (row2 i ls.length)).ws vars; omega))) (hk := ?_) | refine k1' (he := (by first | exact k_spec_l12Row _ _ _ (by omega) (by omega) | exact k_spec_l12Same _ _ _ _ (by rw [hrl]; omega) (by rw [hrl]; omega) (by omega) | exact r1 _ | exact r2 _ | exact k_spec_RunSets _ _ _ _ _ (by omega) (by omega) | exact k_spec_l12Writes _ _ _ (by have := runSets_len (runOf ls ss (row2 k ls.length)).ws vars; omega) (by have := runSets_len (runOf ls ss (row2 i ls.length)).ws vars; omega))) (hk := ?_) | refine b0 (hk := ?_) | refine b1 (hk := ?_) | refine b2 (hk := ?_) | refine b3 (hk := ?_) | refine b4 (hk := ?_) | refine p1 (hk := ?_) | refine g0' (hk := ?_) | refine a1 (hk := ?_) | refine a2 (hk := ?_) | refine u1 (hk := ?_) | refine u2 (hk := ?_) | refine u3 (hk := ?_) | refine u4 (hk := ?_) | refine a3 (ht := ?_) (hf := ?_) | refine a4 (ht := ?_) (hf := ?_) | refine a5 (hk := ?_) | refine b5 (hk := ?_) | refine b6 (hk := ?_) | refine b8 (hk := ?_) | refine b9 (hk := ?_) | refine b7 (hk := ?_) | refine p0 (hk := ?_) | refine g1 (hw := ?_) | refine g2 (hw := ?_) | refine g3 (hw := ?_) | refine g4 (hw := ?_) | refine e0' (hk := ?_) | refine b0' (hk := ?_) | refine b1' (hk := ?_) | refine p1' (hk := ?_) | refine e1' (hk := ?_) | refine e2' (hk := ?_) | refine u1' (hk := ?_) | refine u2' (hk := ?_) | refine u3' (hk := ?_) | refine u4' (hk := ?_) | refine e3' (ht := ?_) (hf := ?_) | refine e4' (ht := ?_) (hf := ?_) | refine b4' (hk := ?_) | refine b7b (hk := ?_) | refine e5' (hk := ?_) | refine f5' (hk := ?_) | refine f6' (hk := ?_) | refine f8' (hk := ?_) | refine f9' (hk := ?_) | refine b7' (hk := ?_) | refine p0' (hk := ?_) | refine h1'' (hw := ?_) | refine h2'' (hw := ?_) | refine h3'' (hw := ?_) | refine h4'' (hw := ?_) | (with_reducible intro hc) | refine d6 (ht := ?_) | refine d7 (hf := ?_) | refine u5 (hk := ?_) | refine u6 (hk := ?_) | refine u7 (hk := ?_) | refine u8 (hk := ?_) | refine d8 (ht := ?_) (hf := ?_) | refine d9 (ht := ?_) (hf := ?_))
        · refine ⟨m', by omega, _, _, k + 1, by omega, go (by simp at hc; rw [hD, hc]; rfl), ex1 hE, get_old f0, at_mk ⟨rfl, rfl, rfl, rfl, rfl, rfl, incN (by omega), trivial⟩, (List.append_nil _).symm⟩
        · rename_i hs
          refine rVx hE (vs := [L (row2 k ls.length), L (row2 i ls.length), .bool true]) (v := .tup [L (row2 k ls.length), L (row2 i ls.length), .bool true]) (hv := ?_)
          rw [find_at (k := k) (i := i) (by omega) (by omega) hno hno' (by rw [hD]; clear hD go r1 r2; simp_all)]
          rfl
        · rename_i hs
          refine ⟨m', by omega, _, _, k + 1, by omega, go (by rw [hD]; clear hD go r1 r2; simp_all), ex1 hE, get_old f0, at_mk ⟨rfl, rfl, rfl, rfl, rfl, rfl, incN (by omega), trivial⟩, (List.append_nil _).symm⟩
end Go.Proofs.X
end
section
namespace Go.Proofs.X
open Go Go.Proofs.XVai Go.Proofs Go.Proofs.XN
set_option linter.unusedVariables false
set_option linter.unusedSimpArgs false
set_option maxHeartbeats 4000000
theorem k_spec_TypeKnows' {ls : List Lab} {ss : Stps} (h : Int) (S : St) (hok : progOk ls ss = true) : Ev Y spec_TypeKnows [PR ls ss, I h] S (BL (knowsOf ls h)) S := by
  obtain ⟨p1, p2, p3, p4⟩ := progOk_in hok
  have := k_spec_TypeKnows ls ss h S (by omega) (by omega)
  rwa [hok] at this
theorem k_spec_LeakOf (ls : List Lab) (ss : Stps) (h : Int) (S : St) (hs : ss.sz ≤ 1048576) (hl : ls.length ≤ 1048576) : Ev Y spec_LeakOf [PR ls ss, I h] S (FND ls.length (leakOf ls ss h)) S := by
  by_cases hg : progOk ls ss = true ∧ inB h 0 2 = true
  · obtain ⟨hok, hin⟩ := hg
    have hno : (!progOk ls ss) = false := by rw [hok]; rfl
    have hni : (!inB h 0 2) = false := by rw [hin]; rfl
    have hq : leakOf ls ss h = (pairs (2 ^ ls.length)).find? (foundAt ls ss (knowsOf ls h) h true) := by simp only [leakOf, hok, hin, Bool.and_self, if_true]; rfl
    have fd := fun S => k_spec_l12Find ls ss (knowsOf ls h) h true S hok (by simp [knowsOf])
    rw [← hq] at fd
    cases hr : leakOf ls ss h with
    | none =>
      rw [hr] at fd
      refine E_start (h := ?_)
      repeat' (first | refine c0 ?_ | refine c1 ?_ | refine c2 ?_ | refine c3 ?_ | refine c4 ?_ | refine c5 ?_ | refine c6 (h := ?_) | refine c7 ?_ | refine d2 ?_ | refine c8 ?_ | refine c9 ?_ | refine d0 ?_ | refine d1 ?_ | refine d4 ?_ | refine d3' (h := ?_) | refine d4' ?_ | refine a0 (hk := ?_) | refine k0 (he := (by first | exact k_spec_ProgOk _ _ _ hs hl | exact k_spec_l6In _ _ _ _ | exact k_spec_TypeKnows' _ _ hok | exact fd _)) (hk := ?_) | refine k1 (he := (by first | exact k_spec_ProgOk _ _ _ hs hl | exact k_spec_l6In _ _ _ _ | exact k_spec_TypeKnows' _ _ hok | exact fd _)) (hk := ?_) | refine k0' (he := (by first | exact k_spec_ProgOk _ _ _ hs hl | exact k_spec_l6In _ _ _ _ | exact k_spec_TypeKnows' _ _ hok | exact fd _)) (hk := ?_) | refine k2' (he := (by first | exact k_spec_ProgOk _ _ _ hs hl | exact k_spec_l6In _ _ _ _ | exact k_spec_TypeKnows' _ _ hok | exact fd _)) (hk := ?_) | refine k3' (he := (by first | exact k_spec_ProgOk _ _ _ hs hl | exact k_spec_l6In _ _ _ _ | exact k_spec_TypeKnows' _ _ hok | exact fd _)) (hk := ?_) | refine k1' (he := (by first | exact k_spec_ProgOk _ _ _ hs hl | exact k_spec_l6In _ _ _ _ | exact k_spec_TypeKnows' _ _ hok | exact fd _)) (hk := ?_) | refine b0 (hk := ?_) | refine b1 (hk := ?_) | refine b2 (hk := ?_) | refine b3 (hk := ?_) | refine b4 (hk := ?_) | refine p1 (hk := ?_) | refine g0' (hk := ?_) | refine a1 (hk := ?_) | refine a2 (hk := ?_) | refine u1 (hk := ?_) | refine u2 (hk := ?_) | refine u3 (hk := ?_) | refine u4 (hk := ?_) | refine a3 (ht := ?_) (hf := ?_) | refine a4 (ht := ?_) (hf := ?_) | refine a5 (hk := ?_) | refine b5 (hk := ?_) | refine b6 (hk := ?_) | refine b8 (hk := ?_) | refine b9 (hk := ?_) | refine b7 (hk := ?_) | refine p0 (hk := ?_) | refine g1 (hw := ?_) | refine g2 (hw := ?_) | refine g3 (hw := ?_) | refine g4 (hw := ?_) | refine e0' (hk := ?_) | refine b0' (hk := ?_) | refine b1' (hk := ?_) | refine p1' (hk := ?_) | refine e1' (hk := ?_) | refine e2' (hk := ?_) | refine u1' (hk := ?_) | refine u2' (hk := ?_) | refine u3' (hk := ?_) | refine u4' (hk := ?_) | refine e3' (ht := ?_) (hf := ?_) | refine e4' (ht := ?_) (hf := ?_) | refine b4' (hk := ?_) | refine b7b (hk := ?_) | refine e5' (hk := ?_) | refine f5' (hk := ?_) | refine f6' (hk := ?_) | refine f8' (hk := ?_) | refine f9' (hk := ?_) | refine b7' (hk := ?_) | refine p0' (hk := ?_) | refine h1'' (hw := ?_) | refine h2'' (hw := ?_) | refine h3'' (hw := ?_) | refine h4'' (hw := ?_) | (with_reducible intro hc) | refine d6 (ht := ?_) | refine d7 (hf := ?_) | refine u5 (hk := ?_) | refine u6 (hk := ?_) | refine u7 (hk := ?_) | refine u8 (hk := ?_) | refine d8 (ht := ?_) (hf := ?_) | refine d9 (ht := ?_) (hf := ?_))
      exact rV (vs := [L [], L [], .bool false]) (v := .tup [L [], L [], .bool false])
    | some p =>
      obtain ⟨k, i⟩ := p
      rw [hr] at fd
      refine E_start (h := ?_)
      repeat' (first | refine c0 ?_ | refine c1 ?_ | refine c2 ?_ | refine c3 ?_ | refine c4 ?_ | refine c5 ?_ | refine c6 (h := ?_) | refine c7 ?_ | refine d2 ?_ | refine c8 ?_ | refine c9 ?_ | refine d0 ?_ | refine d1 ?_ | refine d4 ?_ | refine d3' (h := ?_) | refine d4' ?_ | refine a0 (hk := ?_) | refine k0 (he := (by first | exact k_spec_ProgOk _ _ _ hs hl | exact k_spec_l6In _ _ _ _ | exact k_spec_TypeKnows' _ _ hok | exact fd _)) (hk := ?_) | refine k1 (he := (by first | exact k_spec_ProgOk _ _ _ hs hl | exact k_spec_l6In _ _ _ _ | exact k_spec_TypeKnows' _ _ hok | exact fd _)) (hk := ?_) | refine k0' (he := (by first | exact k_spec_ProgOk _ _ _ hs hl | exact k_spec_l6In _ _ _ _ | exact k_spec_TypeKnows' _ _ hok | exact fd _)) (hk := ?_) | refine k2' (he := (by first | exact k_spec_ProgOk _ _ _ hs hl | exact k_spec_l6In _ _ _ _ | exact k_spec_TypeKnows' _ _ hok | exact fd _)) (hk := ?_) | refine k3' (he := (by first | exact k_spec_ProgOk _ _ _ hs hl | exact k_spec_l6In _ _ _ _ | exact k_spec_TypeKnows' _ _ hok | exact fd _)) (hk := ?_) | refine k1' (he := (by first | exact k_spec_ProgOk _ _ _ hs hl | exact k_spec_l6In _ _ _ _ | exact k_spec_TypeKnows' _ _ hok | exact fd _)) (hk := ?_) | refine b0 (hk := ?_) | refine b1 (hk := ?_) | refine b2 (hk := ?_) | refine b3 (hk := ?_) | refine b4 (hk := ?_) | refine p1 (hk := ?_) | refine g0' (hk := ?_) | refine a1 (hk := ?_) | refine a2 (hk := ?_) | refine u1 (hk := ?_) | refine u2 (hk := ?_) | refine u3 (hk := ?_) | refine u4 (hk := ?_) | refine a3 (ht := ?_) (hf := ?_) | refine a4 (ht := ?_) (hf := ?_) | refine a5 (hk := ?_) | refine b5 (hk := ?_) | refine b6 (hk := ?_) | refine b8 (hk := ?_) | refine b9 (hk := ?_) | refine b7 (hk := ?_) | refine p0 (hk := ?_) | refine g1 (hw := ?_) | refine g2 (hw := ?_) | refine g3 (hw := ?_) | refine g4 (hw := ?_) | refine e0' (hk := ?_) | refine b0' (hk := ?_) | refine b1' (hk := ?_) | refine p1' (hk := ?_) | refine e1' (hk := ?_) | refine e2' (hk := ?_) | refine u1' (hk := ?_) | refine u2' (hk := ?_) | refine u3' (hk := ?_) | refine u4' (hk := ?_) | refine e3' (ht := ?_) (hf := ?_) | refine e4' (ht := ?_) (hf := ?_) | refine b4' (hk := ?_) | refine b7b (hk := ?_) | refine e5' (hk := ?_) | refine f5' (hk := ?_) | refine f6' (hk := ?_) | refine f8' (hk := ?_) | refine f9' (hk := ?_) | refine b7' (hk := ?_) | refine p0' (hk := ?_) | refine h1'' (hw := ?_) | refine h2'' (hw := ?_) | refine h3'' (hw := ?_) | refine h4'' (hw := ?_) | (with_reducible intro hc) | refine d6 (ht := ?_) | refine d7 (hf := ?_) | refine u5 (hk := ?_) | refine u6 (hk := ?_) | refine u7 (hk := ?_) | refine u8 (hk := ?_) | refine d8 (ht := ?_) (hf := ?_) | refine d9 (ht := ?_) (hf := ?_))
      exact rV (vs := [L (row2 k ls.length), L (row2 i ls.length), .bool true]) (v := .tup [L (row2 k ls.length), L (row2 i ls.length), .bool true])
  · have hq : leakOf ls ss h = none := by
      unfold leakOf
      rw [if_neg (by simpa using hg)]
    rw [hq]
    refine E_start (h := ?_)
    by_cases hok : progOk ls ss = true
    · have hno : (!progOk ls ss) = false := by rw [hok]; rfl
      have hni : (!inB h 0 2) = true := by simpa [hok] using hg
      repeat' (first | refine c0 ?_ | refine c1 ?_ | refine c2 ?_ | refine c3 ?_ | refine c4 ?_ | refine c5 ?_ | refine c6 (h := ?_) | refine c7 ?_ | refine d2 ?_ | refine c8 ?_ | refine c9 ?_ | refine d0 ?_ | refine d1 ?_ | refine d4 ?_ | refine a0 (hk := ?_) | refine k0 (he := (by first | exact k_spec_ProgOk _ _ _ hs hl | exact k_spec_l6In _ _ _ _)) (hk := ?_) | refine k1 (he := (by first | exact k_spec_ProgOk _ _ _ hs hl | exact k_spec_l6In _ _ _ _)) (hk := ?_) | refine b0 (hk := ?_) | refine b1 (hk := ?_) | refine b2 (hk := ?_) | refine b3 (hk := ?_) | refine b4 (hk := ?_) | refine p1 (hk := ?_) | refine g0' (hk := ?_) | refine a1 (hk := ?_) | refine a2 (hk := ?_) | refine u1 (hk := ?_) | refine u2 (hk := ?_) | refine u3 (hk := ?_) | refine u4 (hk := ?_) | refine a3 (ht := ?_) (hf := ?_) | refine a4 (ht := ?_) (hf := ?_) | refine a5 (hk := ?_) | refine b5 (hk := ?_) | refine b6 (hk := ?_) | refine b8 (hk := ?_) | refine b9 (hk := ?_) | refine b7 (hk := ?_) | refine p0 (hk := ?_) | refine g1 (hw := ?_) | refine g2 (hw := ?_) | refine g3 (hw := ?_) | refine g4 (hw := ?_) | (with_reducible intro hc) | refine d6 (ht := ?_) | refine d7 (hf := ?_) | refine u5 (hk := ?_) | refine u6 (hk := ?_) | refine u7 (hk := ?_) | refine u8 (hk := ?_) | refine d8 (ht := ?_) (hf := ?_) | refine d9 (ht := ?_) (hf := ?_))
      all_goals exact rG (vs := [.sl (S.length + 3) 0, .sl (S.length + 4) 0, .bool false]) (v := .tup [.lst [], .lst [], .bool false]) (hz := frzR_tup (fmS (fzV_sl rfl (by omega) (get_own rfl) rfl rfl) (fmS (fzV_sl rfl (by omega) (get_own rfl) rfl rfl) (fmS rfl fm0)))) (hl := by simp) (ho := fun j hj => by rw [List.getElem?_append_left hj])
    · have hno : (!progOk ls ss) = true := by simpa using hok
      repeat' (first | refine c0 ?_ | refine c1 ?_ | refine c2 ?_ | refine c3 ?_ | refine c4 ?_ | refine c5 ?_ | refine c6 (h := ?_) | refine c7 ?_ | refine d2 ?_ | refine c8 ?_ | refine c9 ?_ | refine d0 ?_ | refine d1 ?_ | refine d4 ?_ | refine a0 (hk := ?_) | refine k0 (he := (by first | exact k_spec_ProgOk _ _ _ hs hl | exact k_spec_l6In _ _ _ _)) (hk := ?_) | refine k1 (he := (by first | exact k_spec_ProgOk _ _ _ hs hl | exact k_spec_l6In _ _ _ _)) (hk := ?_) | refine b0 (hk := ?_) | refine b1 (hk := ?_) | refine b2 (hk := ?_) | refine b3 (hk := ?_) | refine b4 (hk := ?_) | refine p1 (hk := ?_) | refine g0' (hk := ?_) | refine a1 (hk := ?_) | refine a2 (hk := ?_) | refine u1 (hk := ?_) | refine u2 (hk := ?_) | refine u3 (hk := ?_) | refine u4 (hk := ?_) | refine a3 (ht := ?_) (hf := ?_) | refine a4 (ht := ?_) (hf := ?_) | refine a5 (hk := ?_) | refine b5 (hk := ?_) | refine b6 (hk := ?_) | refine b8 (hk := ?_) | refine b9 (hk := ?_) | refine b7 (hk := ?_) | refine p0 (hk := ?_) | refine g1 (hw := ?_) | refine g2 (hw := ?_) | refine g3 (hw := ?_) | refine g4 (hw := ?_) | (with_reducible intro hc) | refine d6 (ht := ?_) | refine d7 (hf := ?_) | refine u5 (hk := ?_) | refine u6 (hk := ?_) | refine u7 (hk := ?_) | refine u8 (hk := ?_) | refine d8 (ht := ?_) (hf := ?_) | refine d9 (ht := ?_) (hf := ?_))
      all_goals exact rG (vs := [.sl (S.length + 3) 0, .sl (S.length + 4) 0, .bool false]) (v := .tup [.lst [], .lst [], .bool false]) (hz := frzR_tup (fmS (fzV_sl rfl (by omega) (get_own rfl) rfl rfl) (fmS (fzV_sl rfl (by omega) (get_own rfl) rfl rfl) (fmS rfl fm0)))) (hl := by simp) (ho := fun j hj => by rw [List.getElem?_append_left hj])
end Go.Proofs.X
end
section
namespace Go.Proofs.X
open Go Go.Proofs.XVai Go.Proofs Go.Proofs.XN
set_option linter.unusedVariables false
set_option linter.unusedSimpArgs false
set_option maxHeartbeats 4000000
theorem k_Equal_int (xs ys : List Int) (S : St) (hx : xs.length ≤ 1048576) (hy : ys.length ≤ 1048576) : Ev Y slices_Equal_int [L xs, L ys] S (.bool (xs == ys)) S := by
  refine E_start (h := ?_)
  repeat' (first | refine c0 ?_ | refine c1 ?_ | refine c2 ?_ | refine c3 ?_ | refine c4 ?_ | refine c5 ?_ | refine c6 (h := ?_) | refine c7 ?_ | refine d2 ?_ | refine c8 ?_ | refine c9 ?_ | refine d0 ?_ | refine d1 ?_ | refine d4 ?_ | refine a0 (hk := ?_) | refine b0 (hk := ?_) | refine b1 (hk := ?_) | refine b2 (hk := ?_) | refine b3 (hk := ?_) | refine b4 (hk := ?_) | refine p1 (hk := ?_) | refine g0' (hk := ?_) | refine a1 (hk := ?_) | refine a2 (hk := ?_) | refine u1 (hk := ?_) | refine u2 (hk := ?_) | refine u3 (hk := ?_) | refine u4 (hk := ?_) | refine a3 (ht := ?_) (hf := ?_) | refine a4 (ht := ?_) (hf := ?_) | refine a5 (hk := ?_) | refine b5 (hk := ?_) | refine b6 (hk := ?_) | refine b8 (hk := ?_) | refine b9 (hk := ?_) | refine b7 (hk := ?_) | refine p0 (hk := ?_) | refine g1 (hw := ?_) | refine g2 (hw := ?_) | refine g3 (hw := ?_) | refine g4 (hw := ?_) | (with_reducible intro hc) | refine d6 (ht := ?_) | refine d7 (hf := ?_) | refine u5 (hk := ?_) | refine u6 (hk := ?_) | refine u7 (hk := ?_) | refine u8 (hk := ?_) | refine d8 (ht := ?_) (hf := ?_) | refine d9 (ht := ?_) (hf := ?_))
  · refine rB (hv := ?_)
    simp at hc
    symm; simp; intro e; rw [e] at hc; exact hc rfl
  · have hlen : xs.length = ys.length := by simp at hc; omega
    refine C_list xs (fun pre r T' S' => ∃ (T0 : Tm) (S1 : St), (xs == ys) = (r == ys.drop pre.length) ∧ Ext S S1 ∧ T' = putL T0 [(0, L xs), (1, L ys), (12, I (xs.map irow).length), (13, I pre.length)] ∧ S' = S1 ++ [])
      ⟨_, _, rfl, ex0, at_mk ⟨rfl, rfl, rfl, rfl, trivial⟩, (List.append_nil _).symm⟩ ?_ ?_
    · rintro pre x r T' S' hxs ⟨T0, S1, hq, hE, rfl, rfl⟩
      have hg := mid hxs
      have hlt := mid_lt hxs
      have hlt2 : pre.length < ys.length := by omega
      have hg2 : ys[pre.length]? = some ys[pre.length] := by simp [hlt2]
      rw [List.drop_eq_getElem_cons hlt2] at hq
      have hq : (xs == ys) = (x == ys[pre.length] && r == ys.drop (pre.length + 1)) := hq
      repeat' (first | refine c0 ?_ | refine c1 ?_ | refine c2 ?_ | refine c3 ?_ | refine c4 ?_ | refine c5 ?_ | refine c6 (h := ?_) | refine c7 ?_ | refine d2 ?_ | refine c8 ?_ | refine c9 ?_ | refine d0 ?_ | refine d1 ?_ | refine d4 ?_ | refine d3' (h := ?_) | refine d4' ?_ | refine a0 (hk := ?_) | refine b0 (hk := ?_) | refine b1 (hk := ?_) | refine b2 (hk := ?_) | refine b3 (hk := ?_) | refine b4 (hk := ?_) | refine p1 (hk := ?_) | refine g0' (hk := ?_) | refine a1 (hk := ?_) | refine a2 (hk := ?_) | refine u1 (hk := ?_) | refine u2 (hk := ?_) | refine u3 (hk := ?_) | refine u4 (hk := ?_) | refine a3 (ht := ?_) (hf := ?_) | refine a4 (ht := ?_) (hf := ?_) | refine a5 (hk := ?_) | refine b5 (hk := ?_) | refine b6 (hk := ?_) | refine b8 (hk := ?_) | refine b9 (hk := ?_) | refine b7 (hk := ?_) | refine p0 (hk := ?_) | refine g1 (hw := ?_) | refine g2 (hw := ?_) | refine g3 (hw := ?_) | refine g4 (hw := ?_) | refine e0' (hk := ?_) | refine b0' (hk := ?_) | refine b1' (hk := ?_) | refine p1' (hk := ?_) | refine e1' (hk := ?_) | refine e2' (hk := ?_) | refine u1' (hk := ?_) | refine u2' (hk := ?_) | refine u3' (hk := ?_) | refine u4' (hk := ?_) | refine e3' (ht := ?_) (hf := ?_) | refine e4' (ht := ?_) (hf := ?_) | refine b4' (hk := ?_) | refine b7b (hk := ?_) | refine e5' (hk := ?_) | refine f5' (hk := ?_) | refine f6' (hk := ?_) | refine f8' (hk := ?_) | refine f9' (hk := ?_) | refine b7' (hk := ?_) | refine p0' (hk := ?_) | refine h1'' (hw := ?_) | refine h2'' (hw := ?_) | refine h3'' (hw := ?_) | refine h4'' (hw := ?_) | (with_reducible intro hc) | refine d6 (ht := ?_) | refine d7 (hf := ?_) | refine u5 (hk := ?_) | refine u6 (hk := ?_) | refine u7 (hk := ?_) | refine u8 (hk := ?_) | refine d8 (ht := ?_) (hf := ?_) | refine d9 (ht := ?_) (hf := ?_))
      · refine rBx hE (hv := ?_)
        rw [hq]; simp at hc; simp [hc]
      · refine ⟨_, _, ?_, ex1 hE, at_mk ⟨rfl, rfl, rfl, inc (by omega), trivial⟩, (List.append_nil _).symm⟩
        rw [hq]; simp at hc; simp [hc]
      · simp at hc; omega
    · rintro T' S' ⟨T0, S1, hq, hE, rfl, rfl⟩
      repeat' (first | refine c0 ?_ | refine c1 ?_ | refine c2 ?_ | refine c3 ?_ | refine c4 ?_ | refine c5 ?_ | refine c6 (h := ?_) | refine c7 ?_ | refine d2 ?_ | refine c8 ?_ | refine c9 ?_ | refine d0 ?_ | refine d1 ?_ | refine d4 ?_ | refine a0 (hk := ?_) | refine b0 (hk := ?_) | refine b1 (hk := ?_) | refine b2 (hk := ?_) | refine b3 (hk := ?_) | refine b4 (hk := ?_) | refine p1 (hk := ?_) | refine g0' (hk := ?_) | refine a1 (hk := ?_) | refine a2 (hk := ?_) | refine u1 (hk := ?_) | refine u2 (hk := ?_) | refine u3 (hk := ?_) | refine u4 (hk := ?_) | refine a3 (ht := ?_) (hf := ?_) | refine a4 (ht := ?_) (hf := ?_) | refine a5 (hk := ?_) | refine b5 (hk := ?_) | refine b6 (hk := ?_) | refine b8 (hk := ?_) | refine b9 (hk := ?_) | refine b7 (hk := ?_) | refine p0 (hk := ?_) | refine g1 (hw := ?_) | refine g2 (hw := ?_) | refine g3 (hw := ?_) | refine g4 (hw := ?_) | (with_reducible intro hc) | refine d6 (ht := ?_) | refine d7 (hf := ?_) | refine u5 (hk := ?_) | refine u6 (hk := ?_) | refine u7 (hk := ?_) | refine u8 (hk := ?_) | refine d8 (ht := ?_) (hf := ?_) | refine d9 (ht := ?_) (hf := ?_))
      · simp at hc
      · exact rBx hE (hv := by rw [hq, hlen]; simp)
theorem k_impl_each (ls : List Lab) (ss : Stps) (h : Int) (g : Nat) (f : Lab → Int) (S : St) (hs : ss.sz ≤ 1048576) (hl : ls.length ≤ 1048576) (hg : Y.byref g = false) (hf : ∀ l S, Ev Y g [.agg (lrow l)] S (I (f l)) S) :
    Ev Y impl_Prog_each [PR ls ss, I h, .fn g []] S (BL (if progOk ls ss then ls.map fun l => hasI (f l) h else [])) S := by
  cases hok : progOk ls ss with
  | false =>
    refine E_start (h := ?_)
    repeat' (first | refine c0 ?_ | refine c1 ?_ | refine c2 ?_ | refine c3 ?_ | refine c4 ?_ | refine c5 ?_ | refine c6 (h := ?_) | refine c7 ?_ | refine d2 ?_ | refine c8 ?_ | refine c9 ?_ | refine d0 ?_ | refine d1 ?_ | refine d4 ?_ | refine a0 (hk := ?_) | refine k0 (he := (by first | exact hok ▸ k_impl_ProgOk ls ss _ hs hl)) (hk := ?_) | refine k1 (he := (by first | exact hok ▸ k_impl_ProgOk ls ss _ hs hl)) (hk := ?_) | refine b0 (hk := ?_) | refine b1 (hk := ?_) | refine b2 (hk := ?_) | refine b3 (hk := ?_) | refine b4 (hk := ?_) | refine p1 (hk := ?_) | refine g0' (hk := ?_) | refine a1 (hk := ?_) | refine a2 (hk := ?_) | refine u1 (hk := ?_) | refine u2 (hk := ?_) | refine u3 (hk := ?_) | refine u4 (hk := ?_) | refine a3 (ht := ?_) (hf := ?_) | refine a4 (ht := ?_) (hf := ?_) | refine a5 (hk := ?_) | refine b5 (hk := ?_) | refine b6 (hk := ?_) | refine b8 (hk := ?_) | refine b9 (hk := ?_) | refine b7 (hk := ?_) | refine p0 (hk := ?_) | refine g1 (hw := ?_) | refine g2 (hw := ?_) | refine g3 (hw := ?_) | refine g4 (hw := ?_) | (with_reducible intro hc) | refine d6 (ht := ?_) | refine d7 (hf := ?_) | refine u5 (hk := ?_) | refine u6 (hk := ?_) | refine u7 (hk := ?_) | refine u8 (hk := ?_) | refine d8 (ht := ?_) (hf := ?_) | refine d9 (ht := ?_) (hf := ?_))
    exact rL (hp := rfl) (hv := rfl)
  | true =>
    refine E_start (h := ?_)
    repeat' (first | refine c0 ?_ | refine c1 ?_ | refine c2 ?_ | refine c3 ?_ | refine c4 ?_ | refine c5 ?_ | refine c6 (h := ?_) | refine c7 ?_ | refine d2 ?_ | refine c8 ?_ | refine c9 ?_ | refine d0 ?_ | refine d1 ?_ | refine d4 ?_ | refine a0 (hk := ?_) | refine k0 (he := (by first | exact hok ▸ k_impl_ProgOk ls ss _ hs hl)) (hk := ?_) | refine k1 (he := (by first | exact hok ▸ k_impl_ProgOk ls ss _ hs hl)) (hk := ?_) | refine b0 (hk := ?_) | refine b1 (hk := ?_) | refine b2 (hk := ?_) | refine b3 (hk := ?_) | refine b4 (hk := ?_) | refine p1 (hk := ?_) | refine g0' (hk := ?_) | refine a1 (hk := ?_) | refine a2 (hk := ?_) | refine u1 (hk := ?_) | refine u2 (hk := ?_) | refine u3 (hk := ?_) | refine u4 (hk := ?_) | refine a3 (ht := ?_) (hf := ?_) | refine a4 (ht := ?_) (hf := ?_) | refine a5 (hk := ?_) | refine b5 (hk := ?_) | refine b6 (hk := ?_) | refine b8 (hk := ?_) | refine b9 (hk := ?_) | refine b7 (hk := ?_) | refine p0 (hk := ?_) | refine g1 (hw := ?_) | refine g2 (hw := ?_) | refine g3 (hw := ?_) | refine g4 (hw := ?_) | (with_reducible intro hc) | refine d6 (ht := ?_) | refine d7 (hf := ?_) | refine u5 (hk := ?_) | refine u6 (hk := ?_) | refine u7 (hk := ?_) | refine u8 (hk := ?_) | refine d8 (ht := ?_) (hf := ?_) | refine d9 (ht := ?_) (hf := ?_))
    refine C_list ls (fun pre r T' S' => ∃ (T0 : Tm) (S1 : St), Ext S S1 ∧ S1[S.length + 2]? = some (.cells true ((pre.map fun l => hasI (f l) h).map fun x => [HV.bool x])) ∧
        T' = putL T0 [(1, I h), (2, .fn g []), (7, .sl (S.length + 2) pre.length), (14, LS ls), (15, I (ls.map lrow).length), (16, I pre.length)] ∧ S' = S1 ++ [])
      ⟨_, _, ex0, get_own rfl, at_mk ⟨rfl, rfl, rfl, rfl, rfl, rfl, trivial⟩, (List.append_nil _).symm⟩ ?_ ?_
    · rintro pre x r T' S' hx ⟨T0, S1, hE, f2, rfl, rfl⟩
      have hget := mid hx
      have hlt := mid_lt hx
      have hc0 : (pre.length : Int) < ((ls.map lrow).length : Int) := by simp; omega
      have e1' := brow1 (pre.map fun l => hasI (f l) h)
      have e2' : ((pre.map fun l => hasI (f l) h).map fun x => [HV.bool x]).length = pre.length := by simp
      repeat' (first | refine c0 ?_ | refine c1 ?_ | refine c2 ?_ | refine c3 ?_ | refine c4 ?_ | refine c5 ?_ | refine c6 (h := ?_) | refine c7 ?_ | refine d2 ?_ | refine c8 ?_ | refine c9 ?_ | refine d0 ?_ | refine d1 ?_ | refine d4 ?_ | refine a0 (hk := ?_) | refine k0 (he := (by first | exact hf _ _ | exact k_impl_has _ _ _)) (hk := ?_) | refine k1 (he := (by first | exact hf _ _ | exact k_impl_has _ _ _)) (hk := ?_) | refine b0 (hk := ?_) | refine b1 (hk := ?_) | refine b2 (hk := ?_) | refine b3 (hk := ?_) | refine b4 (hk := ?_) | refine p1 (hk := ?_) | refine g0' (hk := ?_) | refine a1 (hk := ?_) | refine a2 (hk := ?_) | refine u1 (hk := ?_) | refine u2 (hk := ?_) | refine u3 (hk := ?_) | refine u4 (hk := ?_) | refine a3 (ht := ?_) (hf := ?_) | refine a4 (ht := ?_) (hf := ?_) | refine a5 (hk := ?_) | refine b5 (hk := ?_) | refine b6 (hk := ?_) | refine b8 (hk := ?_) | refine b9 (hk := ?_) | refine b7 (hk := ?_) | refine p0 (hk := ?_) | refine g1 (hw := ?_) | refine g2 (hw := ?_) | refine g3 (hw := ?_) | refine g4 (hw := ?_) | (with_reducible intro hc) | refine d6 (ht := ?_) | refine d7 (hf := ?_) | refine u5 (hk := ?_) | refine u6 (hk := ?_) | refine u7 (hk := ?_) | refine u8 (hk := ?_) | refine d8 (ht := ?_) (hf := ?_) | refine d9 (ht := ?_) (hf := ?_))
      refine ⟨_, _, ex1 (ex2 hE (Nat.le_add_right _ _)), ?_, at_mk ⟨rfl, rfl, ?_, rfl, rfl, inc (by omega), trivial⟩, (List.append_nil _).symm⟩
      · rw [get_set f2, List.map_append, List.map_append]; rfl
      · show HV.sl _ _ = _; simp
    · rintro T' S' ⟨T0, S1, hE, f2, rfl, rfl⟩
      have hc0 : ¬ ((ls.length : Int) < ((ls.map lrow).length : Int)) := by simp
      repeat' (first | refine c0 ?_ | refine c1 ?_ | refine c2 ?_ | refine c3 ?_ | refine c4 ?_ | refine c5 ?_ | refine c6 (h := ?_) | refine c7 ?_ | refine d2 ?_ | refine c8 ?_ | refine c9 ?_ | refine d0 ?_ | refine d1 ?_ | refine d4 ?_ | refine a0 (hk := ?_) | refine b0 (hk := ?_) | refine b1 (hk := ?_) | refine b2 (hk := ?_) | refine b3 (hk := ?_) | refine b4 (hk := ?_) | refine p1 (hk := ?_) | refine g0' (hk := ?_) | refine a1 (hk := ?_) | refine a2 (hk := ?_) | refine u1 (hk := ?_) | refine u2 (hk := ?_) | refine u3 (hk := ?_) | refine u4 (hk := ?_) | refine a3 (ht := ?_) (hf := ?_) | refine a4 (ht := ?_) (hf := ?_) | refine a5 (hk := ?_) | refine b5 (hk := ?_) | refine b6 (hk := ?_) | refine b8 (hk := ?_) | refine b9 (hk := ?_) | refine b7 (hk := ?_) | refine p0 (hk := ?_) | refine g1 (hw := ?_) | refine g2 (hw := ?_) | refine g3 (hw := ?_) | refine g4 (hw := ?_) | (with_reducible intro hc) | refine d6 (ht := ?_) | refine d7 (hf := ?_) | refine u5 (hk := ?_) | refine u6 (hk := ?_) | refine u7 (hk := ?_) | refine u8 (hk := ?_) | refine d8 (ht := ?_) (hf := ?_) | refine d9 (ht := ?_) (hf := ?_))
      exact rLx hE (hn := by simp) (hp := brow_pure _) (hv := rfl)
theorem k_impl_TypeKnows_1 (l : Lab) (S : St) : Ev Y impl_TypeKnows_1 [.agg (lrow l)] S (I l.k) S := by
  refine E_start (h := ?_)
  repeat' (first | refine c0 ?_ | refine c1 ?_ | refine c2 ?_ | refine c3 ?_ | refine c4 ?_ | refine c5 ?_ | refine c6 (h := ?_) | refine c7 ?_ | refine d2 ?_ | refine c8 ?_ | refine c9 ?_ | refine d0 ?_ | refine d1 ?_ | refine d4 ?_ | refine a0 (hk := ?_) | refine b0 (hk := ?_) | refine b1 (hk := ?_) | refine b2 (hk := ?_) | refine b3 (hk := ?_) | refine b4 (hk := ?_) | refine p1 (hk := ?_) | refine g0' (hk := ?_) | refine a1 (hk := ?_) | refine a2 (hk := ?_) | refine u1 (hk := ?_) | refine u2 (hk := ?_) | refine u3 (hk := ?_) | refine u4 (hk := ?_) | refine a3 (ht := ?_) (hf := ?_) | refine a4 (ht := ?_) (hf := ?_) | refine a5 (hk := ?_) | refine b5 (hk := ?_) | refine b6 (hk := ?_) | refine b8 (hk := ?_) | refine b9 (hk := ?_) | refine b7 (hk := ?_) | refine p0 (hk := ?_) | refine g1 (hw := ?_) | refine g2 (hw := ?_) | refine g3 (hw := ?_) | refine g4 (hw := ?_) | (with_reducible intro hc) | refine d6 (ht := ?_) | refine d7 (hf := ?_) | refine u5 (hk := ?_) | refine u6 (hk := ?_) | refine u7 (hk := ?_) | refine u8 (hk := ?_) | refine d8 (ht := ?_) (hf := ?_) | refine d9 (ht := ?_) (hf := ?_))
  exact rI (hv := rfl)
theorem labs_set {ls : List Lab} {ss : Stps} (h : progOk ls ss = true) : ∀ l ∈ ls, setB l.k = true ∧ setB l.t = true := fun l hl => by
  have := List.all_eq_true.1 (progOk_in h).2.1 l hl
  simpa [labOk] using this
theorem k_impl_TypeKnows (ls : List Lab) (ss : Stps) (h : Int) (S : St) (hs : ss.sz ≤ 1048576) (hl : ls.length ≤ 1048576) : Ev Y impl_TypeKnows [PR ls ss, I h] S (BL (if progOk ls ss then knowsOf ls h else [])) S := by
  have e : (if progOk ls ss then knowsOf ls h else []) = if progOk ls ss then ls.map fun l => hasI l.k h else [] := by
    cases hok : progOk ls ss with
    | false => rfl
    | true =>
      simp only [if_true, knowsOf]
      exact List.map_congr_left fun l hl => (has_eq (labs_set hok l hl).1 h).symm
  rw [e]
  refine E_start (h := ?_)
  repeat' (first | refine c0 ?_ | refine c1 ?_ | refine c2 ?_ | refine c3 ?_ | refine c4 ?_ | refine c5 ?_ | refine c6 (h := ?_) | refine c7 ?_ | refine d2 ?_ | refine c8 ?_ | refine c9 ?_ | refine d0 ?_ | refine d1 ?_ | refine d4 ?_ | refine a0 (hk := ?_) | refine k0 (he := (by first | exact k_impl_each ls ss h _ (fun l => l.k) _ hs hl rfl k_impl_TypeKnows_1)) (hk := ?_) | refine k1 (he := (by first | exact k_impl_each ls ss h _ (fun l => l.k) _ hs hl rfl k_impl_TypeKnows_1)) (hk := ?_) | refine b0 (hk := ?_) | refine b1 (hk := ?_) | refine b2 (hk := ?_) | refine b3 (hk := ?_) | refine b4 (hk := ?_) | refine p1 (hk := ?_) | refine g0' (hk := ?_) | refine a1 (hk := ?_) | refine a2 (hk := ?_) | refine u1 (hk := ?_) | refine u2 (hk := ?_) | refine u3 (hk := ?_) | refine u4 (hk := ?_) | refine a3 (ht := ?_) (hf := ?_) | refine a4 (ht := ?_) (hf := ?_) | refine a5 (hk := ?_) | refine b5 (hk := ?_) | refine b6 (hk := ?_) | refine b8 (hk := ?_) | refine b9 (hk := ?_) | refine b7 (hk := ?_) | refine p0 (hk := ?_) | refine g1 (hw := ?_) | refine g2 (hw := ?_) | refine g3 (hw := ?_) | refine g4 (hw := ?_) | (with_reducible intro hc) | refine d6 (ht := ?_) | refine d7 (hf := ?_) | refine u5 (hk := ?_) | refine u6 (hk := ?_) | refine u7 (hk := ?_) | refine u8 (hk := ?_) | refine d8 (ht := ?_) (hf := ?_) | refine d9 (ht := ?_) (hf := ?_))
  exact rV
end Go.Proofs.X
end
