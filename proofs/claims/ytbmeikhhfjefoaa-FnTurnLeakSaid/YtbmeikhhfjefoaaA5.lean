/- The canonical machine on which the functions are run, and contracts of functions, part 5 of 5. Conditions: none. -/
import Derived.Test.YtbmeikhhfjefoaaA4
set_option linter.all false
section
namespace Go.Proofs.X
open Go Go.Proofs.XVai Go.Proofs Go.Proofs.XN
set_option linter.unusedVariables false
set_option linter.unusedSimpArgs false
set_option maxHeartbeats 4000000
set_option maxRecDepth 100000

/-- A value out of a cell of one's own, and another one. -/
theorem rRunV {f : Nat} {fn : Func} {T' : Tm} {S0 S1 S2 : St} {v w u : HV} (hkp : Y.keep f = false := by rfl) {a bt : Tmp} {t : TypeId} (hres : fn.results.toList = [.cell a t, .tmp bt] := by rfl) {ti : TI} (h1 : Y.tab t = some ti := by rfl) {q n i of' : Nat} {fr : Bool} {rows : List (List HV)} {row : List HV}
    (h2 : T' a = .ptr q n i of' := by rfl) (h3 : S1[q]? = some (.cells fr rows)) (h4 : rows.length = n := by rfl) (h5 : rows[i]? = some row := by rfl) (h6 : XVai.part ti.agg ti.size row of' = some v := by rfl) (hb : T' bt = u := by rfl) (hz : frzV S0.length v S1 = some (w, S2)) (hu : frzV S0.length u S2 = some (u, S2) := by rfl) (hi : idR S0.length (.tup [w, u]) = true := by rfl)
    (hl : S0.length ≤ S2.length) (ho : ∀ j, j < S0.length → S2[j]? = S0[j]?) : RT Y f fn S0 (.tup [w, u]) S0 .ret T' S1 := by
  have hr : resVs Y T' S1 fn.results.toList = some [v, u] := by
    rw [hres]
    simp only [resVs, resV, cload, h1, getRow, h2, h3, h4, if_true, h5, Option.map_some, h6, hb]
  exact rG hkp hr (frzR_tup (fmS hz (fmS hu fm0))) hi hl ho
/-- What a draw's loop holds: the reader, the result, the program. -/
structure DI (S : St) (by' : List UInt8) (k a c : Nat) (S1 : St) (q : Nat) (ls : List Lab) (ss : Stps) : Prop where
  rd : S1[k]? = some (RD by' q)
  ca : ∃ z y, S1[a]? = some (.cells false [[z, y]])
  cc : S1[c]? = some (.cells false [[LS ls, .lst ss.rows]])
  old : ∀ j, j < S.length → S1[j]? = S[j]?
  le : S.length ≤ S1.length
  ak : a ≠ k
  ck : c ≠ k
  ac : a ≠ c
  ok : S.length ≤ k
  oa : S.length ≤ a
  oc : S.length ≤ c
def Drawn (S : St) (v : HV) (S' : St) : Prop := S' = S ∧ ∃ ls ss h, v = .tup [PR ls ss, I h] ∧ ss.sz ≤ 100 ∧ ls.length ≤ 100 ∧ -4 ≤ h ∧ h ≤ 4
theorem quo8 {x y : Int} (hx : 0 ≤ x ∧ x < 4) (hy : 0 ≤ y ∧ y < 9) : -4 ≤ IntKind.i64.wrap (x - IntKind.i64.wrap (y.tdiv 8)) ∧ IntKind.i64.wrap (x - IntKind.i64.wrap (y.tdiv 8)) ≤ 4 := by
  rw [Int.tdiv_eq_ediv_of_nonneg hy.1, i64_id (n := y / 8) (by omega) (by omega), i64_id (by omega) (by omega)]
  omega
theorem c8I {fid : Nat} {T : Tm} {S : St} {c : Code} {id : Nat} {K : Tm → St → Prop} {Q : Ex → Tm → St → Prop} (P : Tm → St → Prop) (h : CW Y fid c T S (Ib id (Th P Q))) (hp : ∀ T' S', P T' S' → K T' S') : CW Y fid c T S (Ib id (Th K Q)) := by
  refine CW_mono h fun ex T' S' h => ?_
  have h0 := h.of
  cases ex with
  | norm => exact c3 (c0 (hp _ _ (show Th P Q .norm T' S' from h0).of))
  | ret => exact c4 (c1 (show Th P Q .ret T' S' from h0).of)
  | exit j =>
    refine ⟨?_⟩
    simp only [InB] at h0 ⊢
    split
    · rename_i hj
      rw [if_pos hj] at h0
      exact ⟨hp _ _ h0.of⟩
    · rename_i hj
      rw [if_neg hj] at h0
      exact ⟨h0.of⟩
section
variable {S S1 : St} {by' : List UInt8} {k a c q q' : Nat} {ls ls' : List Lab} {ss ss' : Stps}
theorem DI.rdr (h : DI S by' k a c S1 q ls ss) : DI S by' k a c (S1.set k (RD by' q')) q' ls ss :=
  ⟨setE h.rd, by obtain ⟨z, y, e⟩ := h.ca; exact ⟨z, y, setN h.ak e⟩, setN h.ck h.cc, fun j hj => by rw [List.getElem?_set_ne (by have := h.ok; omega)]; exact h.old j hj, by simpa using h.le, h.ak, h.ck, h.ac, h.ok, h.oa, h.oc⟩
theorem DI.prg (h : DI S by' k a c S1 q ls ss) : DI S by' k a c (S1.set c (.cells false [[LS ls', .lst ss'.rows]])) q ls' ss' :=
  ⟨setN (Ne.symm h.ck) h.rd, by obtain ⟨z, y, e⟩ := h.ca; exact ⟨z, y, setN h.ac e⟩, setE h.cc, fun j hj => by rw [List.getElem?_set_ne (by have := h.oc; omega)]; exact h.old j hj, by simpa using h.le, h.ak, h.ck, h.ac, h.ok, h.oa, h.oc⟩
theorem DI.app {L : St} (h : DI S by' k a c S1 q ls ss) : DI S by' k a c (S1 ++ L) q ls ss :=
  ⟨get_old h.rd, by obtain ⟨z, y, e⟩ := h.ca; exact ⟨z, y, get_old e⟩, get_old h.cc, fun j hj => by rw [List.getElem?_append_left (by have := h.le; omega)]; exact h.old j hj, by have := h.le; simp; omega, h.ak, h.ck, h.ac, h.ok, h.oa, h.oc⟩
end
theorem k_DrawLeakOf (bs : List UInt8) (S : St) : EvR Y spec_DrawLeakOf [BY bs] S (Drawn S) := by
  refine E_startR (h := ?_)
  repeat' (first | refine c0 ?_ | refine c7 ?_ | refine d2 ?_ | refine d4 ?_ | refine b0 (hk := ?_) | refine a5 (hk := ?_))
  refine kX (he := k_spec_l6Open bs _) (hk := ?_)
  rintro v S2 ⟨J, k, hJ, rfl, hk1, hk2⟩
  have hk3 : S.length + 1 ≤ k := by simpa using hk1
  have f0 : S2[S.length + 0]? = some (.cells false [[.nils, .nils]]) := by
    rw [hJ]; exact get_old (get_own rfl)
  have hold : ∀ j, j < S.length → S2[j]? = S[j]? := fun j hj => by rw [hJ, List.getElem?_append_left (by simp; omega), List.getElem?_append_left hj]
  have hb : (bs.take 2000).length ≤ 2000 := by simp; omega
  have hkl : k < S2.length := (List.getElem?_eq_some_iff.1 hk2).1
  have hl2 : S.length ≤ S2.length := by omega
  generalize bs.take 2000 = by' at *
  clear hk1 hJ
  rw [← List.append_nil S2]
  repeat' (first | refine c0 ?_ | refine c7 ?_ | refine d2 ?_ | refine d4 ?_ | refine a5 (hk := ?_))
  refine kE (hd := d_l71Prog) (h0 := hk2) (hl := hb) (hp := by omega) (hk := ?_)
  rintro v q hq1 hq2 ⟨ls, ss, rfl, hok, hl1⟩
  obtain ⟨h1, h2, h3, h4⟩ := progOk_in hok
  repeat' (first | refine c0 ?_ | refine c7 ?_ | refine d2 ?_ | refine c8 ?_ | refine d4 ?_ | refine k0 (he := (by first | exact k_pick' (by first | assumption | exact get_old (by assumption) | exact get_set (by assumption)) hb (by omega))) (hk := ?_) | refine b0 (hk := ?_) | refine a5 (hk := ?_) | refine b7 (hk := ?_))
  have hp1 := pickv_bd by' q 4
  have hp2 := pickv_bd by' (q + 1) 9
  have hqo := quo8 (x := pickv by' q 4) (y := pickv by' (q + 1) 9) ⟨hp1.1, hp1.2.1 (by omega)⟩ ⟨hp2.1, hp2.2.1 (by omega)⟩
  refine c8I (P := fun T' S' => ∃ (T0 : Tm) (S1 : St) (q c : Nat) (ls : List Lab) (ss : Stps) (h : Int), q ≤ 270000 ∧ DI S by' k (S.length + 0) c S1 q ls ss ∧ ss.sz ≤ 100 ∧ ls.length ≤ 100 ∧ -4 ≤ h ∧ h ≤ 4 ∧
      T' = putL T0 [(2, .ptr (S.length + 0) 1 0 0), (4, .ptr k 1 0 0), (5, .ptr c 1 0 0), (6, I h)] ∧ S' = S1 ++ []) ?_ ?_
  · refine C_loop (fun m T' S' => ∃ (T0 : Tm) (S1 : St) (i q c : Nat) (ls : List Lab) (ss : Stps) (h : Int), i + m = 20 ∧ q + m * 12010 ≤ 260000 ∧ DI S by' k (S.length + 0) c S1 q ls ss ∧ ss.sz ≤ 100 ∧ ls.length ≤ 100 ∧ -4 ≤ h ∧ h ≤ 4 ∧
        T' = putL T0 [(2, .ptr (S.length + 0) 1 0 0), (4, .ptr k 1 0 0), (5, .ptr c 1 0 0), (6, I h), (7, I i)] ∧ S' = S1 ++ []) 20
      ⟨_, _, 0, q + 1 + 1, S2.length + 0, ls, ss, _, rfl, by omega, ?_, by omega, by omega, hqo.1, hqo.2, at_mk ⟨rfl, rfl, by show HV.ptr _ _ _ _ = _; simp, rfl, rfl, trivial⟩, (List.append_nil _).symm⟩ ?_
    · refine ⟨get_set hk2, ⟨_, _, get_setN (by omega) f0⟩, by have := get_setO (S0 := S2) (k := k) (L := [Ob.cells false [[LS ls, .lst ss.rows]]]) (j := 0) (o' := RD by' (q + 1 + 1)) rfl; exact this, fun j hj => by rw [List.getElem?_append_left (by simp; omega), List.getElem?_set_ne (by omega), hold j hj], by simp; omega, by omega, by omega, by omega, by omega, by omega, by omega⟩
    clear hqo hp1 hp2 h1 h2 h3 h4 hl1 hok hq1 hq2 hk2 f0 hold hkl
    rintro m T' S' ⟨T0, S1, i, q, c, ls, ss, h, hi, hq, hD, hs, hl, hh1, hh2, rfl, rfl⟩
    have hrd := hD.rd
    have hcc := hD.cc
    obtain ⟨z, y, hca⟩ := hD.ca
    have hak := hD.ak
    have hck := hD.ck
    have hac := hD.ac
    have hca' : c ≠ S.length + 0 := Ne.symm hac
    have hle := hD.le
    have hoc := hD.oc
    have hin := incN (i := i) (by omega)
    cases m with
    | zero =>
      have hc0 : ¬ ((i : Int) < 20) := by omega
      repeat' (first | refine c0 ?_ | refine c2 ?_ | refine c5 ?_ | refine c7 ?_ | refine d2 ?_ | refine d1 ?_ | refine d4 ?_ | refine a0 (hk := ?_) | refine u4 (hk := ?_) | refine a5 (hk := ?_) | refine d7 (hf := ?_))
      exact ⟨_, _, q, c, ls, ss, h, by omega, hD.app, hs, hl, hh1, hh2, at_mk ⟨rfl, rfl, rfl, rfl, trivial⟩, (List.append_nil _).symm⟩
    | succ m =>
      have hc0 : (i : Int) < 20 := by omega
      rw [Nat.succ_mul] at hq
      cases hr : leakOf ls ss h with
      | some p =>
        obtain ⟨k1, i1⟩ := p
        have hT : ∀ S, Ev Y spec_LeakOf [PR ls ss, I h] S (.tup [L (row2 k1 ls.length), L (row2 i1 ls.length), .bool true]) S := fun S => by
          have := k_spec_LeakOf ls ss h S (by omega) (by omega)
          rw [hr] at this; exact this
        repeat' (first | refine c0 ?_ | refine c1 ?_ | refine c2 ?_ | refine c4 ?_ | refine c5 ?_ | refine c7 ?_ | refine d2 ?_ | refine c8 ?_ | refine c9 ?_ | refine d0 ?_ | refine d1 ?_ | refine d4 ?_ | refine k0 (he := (by first | exact k_pick' (by first | assumption | exact get_old (by assumption) | exact get_set (by assumption)) hb (by omega) | exact hT _)) (hk := ?_) | refine a1 (hk := ?_) | refine u3 (hk := ?_) | refine a5 (hk := ?_) | refine b5 (hk := ?_) | refine b7 (hk := ?_) | (with_reducible intro hc) | refine d6 (ht := ?_) | refine d8 (ht := ?_) (hf := ?_))
        · refine ⟨_, _, rRunV (h3 := get_old (setE (setN hak hca))) (hz := rfl) (hl := by simp; omega) (ho := fun j hj => ?_), rfl, ls, ss, h, rfl, hs, hl, hh1, hh2⟩
          rw [List.getElem?_append_left (by simp; omega), List.getElem?_set_ne (by omega), List.getElem?_set_ne (by have := hD.ok; omega), hD.old j hj]
        · exact ⟨_, _, q + 1, c, ls, ss, h, by omega, hD.rdr.app, hs, hl, hh1, hh2, at_mk ⟨rfl, rfl, rfl, rfl, trivial⟩, (List.append_nil _).symm⟩
      | none =>
        have hT : ∀ S, Ev Y spec_LeakOf [PR ls ss, I h] S (.tup [L [], L [], .bool false]) S := fun S => by
          have := k_spec_LeakOf ls ss h S (by omega) (by omega)
          rw [hr] at this; exact this
        repeat' (first | refine c0 ?_ | refine c2 ?_ | refine c5 ?_ | refine c7 ?_ | refine d2 ?_ | refine c8 ?_ | refine d0 ?_ | refine d1 ?_ | refine d4 ?_ | refine k0 (he := (by first | exact k_pick' (by first | assumption | exact get_old (by assumption) | exact get_set (by assumption)) hb (by omega) | exact hT _)) (hk := ?_) | refine a2 (hk := ?_) | refine u3 (hk := ?_) | refine a5 (hk := ?_) | refine b5 (hk := ?_) | (with_reducible intro hc) | refine d7 (hf := ?_) | refine d8 (ht := ?_) (hf := ?_))
        · refine kD (hd := d_l71Prog) (h0 := ⟨_, hrd⟩) (hl := hb) (hp := by omega) (hk := ?_)
          rintro v q2 hq3 hq4 ⟨ls2, ss2, rfl, hok2, hl3⟩
          obtain ⟨e1, e2, e3, e4⟩ := progOk_in hok2
          refine b7 (h3 := get_setN hck hcc) (h10 := set_setN hcc) (hk := ?_)
          refine d4 ?_
          refine c0 ?_
          refine C_gen (fun T' S' => ∃ (T0 : Tm) (S1 : St), DI S by' k (S.length + 0) c S1 q2 ls2 ss2 ∧ T' = putL T0 [(2, .ptr (S.length + 0) 1 0 0), (4, .ptr k 1 0 0), (5, .ptr c 1 0 0), (6, I h), (7, I i)] ∧ S' = S1 ++ [])
            ⟨_, _, hD.rdr.prg.app, at_mk ⟨rfl, rfl, rfl, rfl, rfl, trivial⟩, (List.append_nil _).symm⟩ ?_
          clear hD hrd hcc hca hT hr hle
          rintro T' S' ⟨T0, S1, hD, rfl, rfl⟩
          have hrd := hD.rd
          obtain ⟨j, hj1, hj2⟩ := pick_nat by' q2 (n := 3) (by omega)
          have hj1 : pickv by' q2 3 = j := hj1
          repeat' (first | refine c0 ?_ | refine c3 ?_ | refine d2 ?_ | refine d4 ?_ | refine k0 (he := (by first | exact k_pick' (by first | assumption | exact get_old (by assumption) | exact get_set (by assumption)) hb (by omega))) (hk := ?_) | refine a5 (hk := ?_))
          exact ⟨m, by omega, _, _, i + 1, q2 + 1, c, ls2, ss2, pickv by' q2 3, by omega, by omega, hD.rdr.app, by omega, by omega, by omega, by omega, at_mk ⟨rfl, rfl, rfl, rfl, hin, trivial⟩, (List.append_nil _).symm⟩
        · exact ⟨_, _, q + 1, c, ls, ss, h, by omega, hD.rdr.app, hs, hl, hh1, hh2, at_mk ⟨rfl, rfl, rfl, rfl, trivial⟩, (List.append_nil _).symm⟩
  · clear hqo hp1 hp2 h1 h2 h3 h4 hl1 hok hq1 hq2 hk2 f0 hold hkl
    rintro T' S' ⟨T0, S1, q, c, ls, ss, h, hq, hD, hs, hl, hh1, hh2, rfl, rfl⟩
    have hrd := hD.rd
    have hcc := hD.cc
    obtain ⟨z, y, hca⟩ := hD.ca
    have hak := hD.ak
    have hck := hD.ck
    have hac := hD.ac
    have hca' : c ≠ S.length + 0 := Ne.symm hac
    have hle := hD.le
    have hoc := hD.oc
    repeat' (first | refine c0 ?_ | refine c7 ?_ | refine d2 ?_ | refine c9 ?_ | refine d0 ?_ | refine d4 ?_ | refine k0 (he := (by first | exact k_pick' (by first | assumption | exact get_old (by assumption) | exact get_set (by assumption)) hb (by omega))) (hk := ?_) | refine a5 (hk := ?_) | refine b5 (hk := ?_) | refine b7 (hk := ?_) | (with_reducible intro hc) | refine d9 (ht := ?_) (hf := ?_))
    · refine kD (hd := d_l71Any) (h0 := ⟨_, hrd⟩) (hl := hb) (hp := by omega) (hk := ?_)
      rintro v q2 hq3 hq4 ⟨ls2, ss2, rfl, hs2, hl2'⟩
      refine b7 (h3 := get_setN hck hcc) (h10 := set_setN hcc) (hk := ?_)
      refine d4 ?_
      refine c0 ?_
      refine C_gen (fun T' S' => ∃ (T0 : Tm) (S1 : St), DI S by' k (S.length + 0) c S1 q2 ls2 ss2 ∧ T' = putL T0 [(2, .ptr (S.length + 0) 1 0 0), (4, .ptr k 1 0 0), (5, .ptr c 1 0 0), (6, I h)] ∧ S' = S1 ++ [])
        ⟨_, _, hD.rdr.prg.app, at_mk ⟨rfl, rfl, rfl, rfl, trivial⟩, (List.append_nil _).symm⟩ ?_
      clear hD hrd hcc hca hle
      rintro T' S' ⟨T0, S1, hD, rfl, rfl⟩
      have hcc := hD.cc
      obtain ⟨z, y, hca⟩ := hD.ca
      have hle := hD.le
      repeat' (first | refine c0 ?_ | refine c7 ?_ | refine d2 ?_ | refine c9 ?_ | refine d4 ?_ | refine a5 (hk := ?_) | refine b5 (hk := ?_) | refine b7 (hk := ?_))
      refine ⟨_, _, rRunV (h3 := get_old (setE hca)) (hz := rfl) (hl := by simp; omega) (ho := fun j hj => ?_), rfl, ls2, ss2, h, rfl, hs2, hl2', hh1, hh2⟩
      rw [List.getElem?_append_left (by simp; omega), List.getElem?_set_ne (by omega), hD.old j hj]
    · refine ⟨_, _, rRunV (h3 := get_old (setE (setN hak hca))) (hz := rfl) (hl := by simp; omega) (ho := fun j hj => ?_), rfl, ls, ss, h, rfl, hs, hl, hh1, hh2⟩
      rw [List.getElem?_append_left (by simp; omega), List.getElem?_set_ne (by omega), List.getElem?_set_ne (by have := hD.ok; omega), hD.old j hj]
theorem k_DrawSwayOf (bs : List UInt8) (S : St) : EvR Y spec_DrawSwayOf [BY bs] S (Drawn S) := by
  refine E_startR (h := ?_)
  repeat' (first | refine c0 ?_ | refine c7 ?_ | refine d2 ?_ | refine d4 ?_ | refine b0 (hk := ?_) | refine a5 (hk := ?_))
  refine kX (he := k_spec_l6Open bs _) (hk := ?_)
  rintro v S2 ⟨J, k, hJ, rfl, hk1, hk2⟩
  have hk3 : S.length + 1 ≤ k := by simpa using hk1
  have f0 : S2[S.length + 0]? = some (.cells false [[.nils, .nils]]) := by
    rw [hJ]; exact get_old (get_own rfl)
  have hold : ∀ j, j < S.length → S2[j]? = S[j]? := fun j hj => by rw [hJ, List.getElem?_append_left (by simp; omega), List.getElem?_append_left hj]
  have hb : (bs.take 2000).length ≤ 2000 := by simp; omega
  have hkl : k < S2.length := (List.getElem?_eq_some_iff.1 hk2).1
  have hl2 : S.length ≤ S2.length := by omega
  generalize bs.take 2000 = by' at *
  clear hk1 hJ
  rw [← List.append_nil S2]
  repeat' (first | refine c0 ?_ | refine c7 ?_ | refine d2 ?_ | refine d4 ?_ | refine a5 (hk := ?_))
  refine kE (hd := d_l71Prog) (h0 := hk2) (hl := hb) (hp := by omega) (hk := ?_)
  rintro v q hq1 hq2 ⟨ls, ss, rfl, hok, hl1⟩
  obtain ⟨h1, h2, h3, h4⟩ := progOk_in hok
  repeat' (first | refine c0 ?_ | refine c7 ?_ | refine d2 ?_ | refine c8 ?_ | refine d4 ?_ | refine k0 (he := (by first | exact k_pick' (by first | assumption | exact get_old (by assumption) | exact get_set (by assumption)) hb (by omega))) (hk := ?_) | refine b0 (hk := ?_) | refine a5 (hk := ?_) | refine b7 (hk := ?_))
  have hp1 := pickv_bd by' q 4
  have hp2 := pickv_bd by' (q + 1) 9
  have hqo := quo8 (x := pickv by' q 4) (y := pickv by' (q + 1) 9) ⟨hp1.1, hp1.2.1 (by omega)⟩ ⟨hp2.1, hp2.2.1 (by omega)⟩
  refine c8I (P := fun T' S' => ∃ (T0 : Tm) (S1 : St) (q c : Nat) (ls : List Lab) (ss : Stps) (h : Int), q ≤ 270000 ∧ DI S by' k (S.length + 0) c S1 q ls ss ∧ ss.sz ≤ 100 ∧ ls.length ≤ 100 ∧ -4 ≤ h ∧ h ≤ 4 ∧
      T' = putL T0 [(2, .ptr (S.length + 0) 1 0 0), (4, .ptr k 1 0 0), (5, .ptr c 1 0 0), (6, I h)] ∧ S' = S1 ++ []) ?_ ?_
  · refine C_loop (fun m T' S' => ∃ (T0 : Tm) (S1 : St) (i q c : Nat) (ls : List Lab) (ss : Stps) (h : Int), i + m = 6 ∧ q + m * 12010 ≤ 260000 ∧ DI S by' k (S.length + 0) c S1 q ls ss ∧ ss.sz ≤ 100 ∧ ls.length ≤ 100 ∧ -4 ≤ h ∧ h ≤ 4 ∧
        T' = putL T0 [(2, .ptr (S.length + 0) 1 0 0), (4, .ptr k 1 0 0), (5, .ptr c 1 0 0), (6, I h), (7, I i)] ∧ S' = S1 ++ []) 6
      ⟨_, _, 0, q + 1 + 1, S2.length + 0, ls, ss, _, rfl, by omega, ?_, by omega, by omega, hqo.1, hqo.2, at_mk ⟨rfl, rfl, by show HV.ptr _ _ _ _ = _; simp, rfl, rfl, trivial⟩, (List.append_nil _).symm⟩ ?_
    · refine ⟨get_set hk2, ⟨_, _, get_setN (by omega) f0⟩, by have := get_setO (S0 := S2) (k := k) (L := [Ob.cells false [[LS ls, .lst ss.rows]]]) (j := 0) (o' := RD by' (q + 1 + 1)) rfl; exact this, fun j hj => by rw [List.getElem?_append_left (by simp; omega), List.getElem?_set_ne (by omega), hold j hj], by simp; omega, by omega, by omega, by omega, by omega, by omega, by omega⟩
    clear hqo hp1 hp2 h1 h2 h3 h4 hl1 hok hq1 hq2 hk2 f0 hold hkl
    rintro m T' S' ⟨T0, S1, i, q, c, ls, ss, h, hi, hq, hD, hs, hl, hh1, hh2, rfl, rfl⟩
    have hrd := hD.rd
    have hcc := hD.cc
    obtain ⟨z, y, hca⟩ := hD.ca
    have hak := hD.ak
    have hck := hD.ck
    have hac := hD.ac
    have hca' : c ≠ S.length + 0 := Ne.symm hac
    have hle := hD.le
    have hoc := hD.oc
    have hin := incN (i := i) (by omega)
    cases m with
    | zero =>
      have hc0 : ¬ ((i : Int) < 6) := by omega
      repeat' (first | refine c0 ?_ | refine c2 ?_ | refine c5 ?_ | refine c7 ?_ | refine d2 ?_ | refine d1 ?_ | refine d4 ?_ | refine a0 (hk := ?_) | refine u4 (hk := ?_) | refine a5 (hk := ?_) | refine d7 (hf := ?_))
      exact ⟨_, _, q, c, ls, ss, h, by omega, hD.app, hs, hl, hh1, hh2, at_mk ⟨rfl, rfl, rfl, rfl, trivial⟩, (List.append_nil _).symm⟩
    | succ m =>
      have hc0 : (i : Int) < 6 := by omega
      rw [Nat.succ_mul] at hq
      cases hr : swayOf ls ss h with
      | some p =>
        obtain ⟨k1, i1⟩ := p
        have hT : ∀ S, Ev Y spec_SwayOf [PR ls ss, I h] S (.tup [L (row2 k1 ls.length), L (row2 i1 ls.length), .bool true]) S := fun S => by
          have := k_spec_SwayOf ls ss h S (by omega) (by omega)
          rw [hr] at this; exact this
        repeat' (first | refine c0 ?_ | refine c1 ?_ | refine c2 ?_ | refine c4 ?_ | refine c5 ?_ | refine c7 ?_ | refine d2 ?_ | refine c8 ?_ | refine c9 ?_ | refine d0 ?_ | refine d1 ?_ | refine d4 ?_ | refine k0 (he := (by first | exact k_pick' (by first | assumption | exact get_old (by assumption) | exact get_set (by assumption)) hb (by omega) | exact hT _)) (hk := ?_) | refine a1 (hk := ?_) | refine u3 (hk := ?_) | refine a5 (hk := ?_) | refine b5 (hk := ?_) | refine b7 (hk := ?_) | (with_reducible intro hc) | refine d6 (ht := ?_) | refine d8 (ht := ?_) (hf := ?_))
        · refine ⟨_, _, rRunV (h3 := get_old (setE (setN hak hca))) (hz := rfl) (hl := by simp; omega) (ho := fun j hj => ?_), rfl, ls, ss, h, rfl, hs, hl, hh1, hh2⟩
          rw [List.getElem?_append_left (by simp; omega), List.getElem?_set_ne (by omega), List.getElem?_set_ne (by have := hD.ok; omega), hD.old j hj]
        · exact ⟨_, _, q + 1, c, ls, ss, h, by omega, hD.rdr.app, hs, hl, hh1, hh2, at_mk ⟨rfl, rfl, rfl, rfl, trivial⟩, (List.append_nil _).symm⟩
      | none =>
        have hT : ∀ S, Ev Y spec_SwayOf [PR ls ss, I h] S (.tup [L [], L [], .bool false]) S := fun S => by
          have := k_spec_SwayOf ls ss h S (by omega) (by omega)
          rw [hr] at this; exact this
        repeat' (first | refine c0 ?_ | refine c2 ?_ | refine c5 ?_ | refine c7 ?_ | refine d2 ?_ | refine c8 ?_ | refine d0 ?_ | refine d1 ?_ | refine d4 ?_ | refine k0 (he := (by first | exact k_pick' (by first | assumption | exact get_old (by assumption) | exact get_set (by assumption)) hb (by omega) | exact hT _)) (hk := ?_) | refine a2 (hk := ?_) | refine u3 (hk := ?_) | refine a5 (hk := ?_) | refine b5 (hk := ?_) | (with_reducible intro hc) | refine d7 (hf := ?_) | refine d8 (ht := ?_) (hf := ?_))
        · refine kD (hd := d_l71Prog) (h0 := ⟨_, hrd⟩) (hl := hb) (hp := by omega) (hk := ?_)
          rintro v q2 hq3 hq4 ⟨ls2, ss2, rfl, hok2, hl3⟩
          obtain ⟨e1, e2, e3, e4⟩ := progOk_in hok2
          refine b7 (h3 := get_setN hck hcc) (h10 := set_setN hcc) (hk := ?_)
          refine d4 ?_
          refine c0 ?_
          refine C_gen (fun T' S' => ∃ (T0 : Tm) (S1 : St), DI S by' k (S.length + 0) c S1 q2 ls2 ss2 ∧ T' = putL T0 [(2, .ptr (S.length + 0) 1 0 0), (4, .ptr k 1 0 0), (5, .ptr c 1 0 0), (6, I h), (7, I i)] ∧ S' = S1 ++ [])
            ⟨_, _, hD.rdr.prg.app, at_mk ⟨rfl, rfl, rfl, rfl, rfl, trivial⟩, (List.append_nil _).symm⟩ ?_
          clear hD hrd hcc hca hT hr hle
          rintro T' S' ⟨T0, S1, hD, rfl, rfl⟩
          have hrd := hD.rd
          obtain ⟨j, hj1, hj2⟩ := pick_nat by' q2 (n := 3) (by omega)
          have hj1 : pickv by' q2 3 = j := hj1
          repeat' (first | refine c0 ?_ | refine c3 ?_ | refine d2 ?_ | refine d4 ?_ | refine k0 (he := (by first | exact k_pick' (by first | assumption | exact get_old (by assumption) | exact get_set (by assumption)) hb (by omega))) (hk := ?_) | refine a5 (hk := ?_))
          exact ⟨m, by omega, _, _, i + 1, q2 + 1, c, ls2, ss2, pickv by' q2 3, by omega, by omega, hD.rdr.app, by omega, by omega, by omega, by omega, at_mk ⟨rfl, rfl, rfl, rfl, hin, trivial⟩, (List.append_nil _).symm⟩
        · exact ⟨_, _, q + 1, c, ls, ss, h, by omega, hD.rdr.app, hs, hl, hh1, hh2, at_mk ⟨rfl, rfl, rfl, rfl, trivial⟩, (List.append_nil _).symm⟩
  · clear hqo hp1 hp2 h1 h2 h3 h4 hl1 hok hq1 hq2 hk2 f0 hold hkl
    rintro T' S' ⟨T0, S1, q, c, ls, ss, h, hq, hD, hs, hl, hh1, hh2, rfl, rfl⟩
    have hrd := hD.rd
    have hcc := hD.cc
    obtain ⟨z, y, hca⟩ := hD.ca
    have hak := hD.ak
    have hck := hD.ck
    have hac := hD.ac
    have hca' : c ≠ S.length + 0 := Ne.symm hac
    have hle := hD.le
    have hoc := hD.oc
    repeat' (first | refine c0 ?_ | refine c7 ?_ | refine d2 ?_ | refine c9 ?_ | refine d0 ?_ | refine d4 ?_ | refine k0 (he := (by first | exact k_pick' (by first | assumption | exact get_old (by assumption) | exact get_set (by assumption)) hb (by omega))) (hk := ?_) | refine a5 (hk := ?_) | refine b5 (hk := ?_) | refine b7 (hk := ?_) | (with_reducible intro hc) | refine d9 (ht := ?_) (hf := ?_))
    · refine kD (hd := d_l71Any) (h0 := ⟨_, hrd⟩) (hl := hb) (hp := by omega) (hk := ?_)
      rintro v q2 hq3 hq4 ⟨ls2, ss2, rfl, hs2, hl2'⟩
      refine b7 (h3 := get_setN hck hcc) (h10 := set_setN hcc) (hk := ?_)
      refine d4 ?_
      refine c0 ?_
      refine C_gen (fun T' S' => ∃ (T0 : Tm) (S1 : St), DI S by' k (S.length + 0) c S1 q2 ls2 ss2 ∧ T' = putL T0 [(2, .ptr (S.length + 0) 1 0 0), (4, .ptr k 1 0 0), (5, .ptr c 1 0 0), (6, I h)] ∧ S' = S1 ++ [])
        ⟨_, _, hD.rdr.prg.app, at_mk ⟨rfl, rfl, rfl, rfl, trivial⟩, (List.append_nil _).symm⟩ ?_
      clear hD hrd hcc hca hle
      rintro T' S' ⟨T0, S1, hD, rfl, rfl⟩
      have hcc := hD.cc
      obtain ⟨z, y, hca⟩ := hD.ca
      have hle := hD.le
      repeat' (first | refine c0 ?_ | refine c7 ?_ | refine d2 ?_ | refine c9 ?_ | refine d4 ?_ | refine a5 (hk := ?_) | refine b5 (hk := ?_) | refine b7 (hk := ?_))
      refine ⟨_, _, rRunV (h3 := get_old (setE hca)) (hz := rfl) (hl := by simp; omega) (ho := fun j hj => ?_), rfl, ls2, ss2, h, rfl, hs2, hl2', hh1, hh2⟩
      rw [List.getElem?_append_left (by simp; omega), List.getElem?_set_ne (by omega), hD.old j hj]
    · refine ⟨_, _, rRunV (h3 := get_old (setE (setN hak hca))) (hz := rfl) (hl := by simp; omega) (ho := fun j hj => ?_), rfl, ls, ss, h, rfl, hs, hl, hh1, hh2⟩
      rw [List.getElem?_append_left (by simp; omega), List.getElem?_set_ne (by omega), List.getElem?_set_ne (by have := hD.ok; omega), hD.old j hj]
end Go.Proofs.X
end
