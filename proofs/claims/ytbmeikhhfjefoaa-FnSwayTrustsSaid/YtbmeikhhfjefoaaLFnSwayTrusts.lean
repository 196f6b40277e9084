/- What the law FnSwayTrusts, and what it alone calls, returns. Conditions: none. -/
import Derived.Test.YtbmeikhhfjefoaaA5
set_option linter.all false
section
namespace Go.Proofs.X
open Go Go.Proofs.XVai Go.Proofs Go.Proofs.XN
set_option linter.unusedVariables false
set_option linter.unusedSimpArgs false
set_option maxHeartbeats 4000000
set_option maxRecDepth 100000

theorem law_SwayTrusts (bs : List UInt8) (S : St) : Ev Y laws_FnSwayTrusts [BY bs] S (.bool true) S := by
  by_cases hlen : bs.length > 1048576
  · have hc0 : ((bs.map brow).length : Int) > 1048576 := by simp; omega
    refine E_start (h := ?_)
    repeat' (first | refine c0 ?_ | refine c1 ?_ | refine c7 ?_ | refine d2 ?_ | refine c9 ?_ | refine d4 ?_ | refine a5 (hk := ?_) | refine u7 (hk := ?_))
    exact rB (hv := rfl)
  · have hc0 : ¬ (((bs.map brow).length : Int) > 1048576) := by simp; omega
    refine E_start (h := ?_)
    repeat' (first | refine c0 ?_ | refine c7 ?_ | refine d2 ?_ | refine d0 ?_ | refine d4 ?_ | refine a5 (hk := ?_) | refine u8 (hk := ?_))
    refine kX (he := k_DrawSwayOf bs _) (hk := ?_)
    rintro v S2 ⟨rfl, ls, ss, h, rfl, hs, hl, hh1, hh2⟩
    cases hr : swayOf ls ss h with
    | none =>
      have f1 : ∀ S, Ev Y spec_SwayOf [PR ls ss, I h] S (.tup [L [], L [], .bool false]) S := fun S => by
        have := k_spec_SwayOf ls ss h S (by omega) (by omega)
        rw [hr] at this; exact this
      have f2 : ∀ S, Ev Y impl_SwayOf [PR ls ss, I h] S (.tup [L [], L [], .bool false]) S := fun S => by
        have := k_impl_SwayOf ls ss h S (by omega) (by omega)
        rw [hr] at this; exact this
      repeat' (first | refine c0 ?_ | refine c1 ?_ | refine c7 ?_ | refine d2 ?_ | refine c9 ?_ | refine d4 ?_ | refine k0 (he := (by first | exact f1 _ | exact f2 _ | exact lcInts_eq _ _ (by simp))) (hk := ?_) | refine b0 (hk := ?_) | refine a1 (hk := ?_) | refine a2 (hk := ?_) | refine a5 (hk := ?_) | refine b5 (hk := ?_) | refine b7 (hk := ?_) | refine d6 (ht := ?_))
      exact rB (hv := rfl)
    | some p =>
      obtain ⟨k, i⟩ := p
      obtain ⟨g1, g2, g3, g4, g5, g6⟩ := sway_found hr
      obtain ⟨p1, p2, p3, p4⟩ := progOk_in g1
      have hrl := fun m => row2_len m ls.length
      have f1 : ∀ S, Ev Y spec_SwayOf [PR ls ss, I h] S (.tup [L (row2 k ls.length), L (row2 i ls.length), .bool true]) S := fun S => by
        have := k_spec_SwayOf ls ss h S (by omega) (by omega)
        rw [hr] at this; exact this
      have f2 : ∀ S, Ev Y impl_SwayOf [PR ls ss, I h] S (.tup [L (row2 k ls.length), L (row2 i ls.length), .bool true]) S := fun S => by
        have := k_impl_SwayOf ls ss h S (by omega) (by omega)
        rw [hr] at this; exact this
      obtain ⟨q1, q2⟩ := sway_trusts hr
      have hnt : (trustsOf ls h).length ≤ 4 := by simp [trustsOf]; omega
      repeat' (first | refine c0 ?_ | refine c7 ?_ | refine d2 ?_ | refine c8 ?_ | refine d0 ?_ | refine d4 ?_ | refine k0 (he := (by first | exact f1 _ | exact f2 _ | exact lcInts_eq _ _ (by first | (rw [hrl]; omega) | (simp; done)) | exact k_impl_TypeTrusts' _ _ g1)) (hk := ?_) | refine b0 (hk := ?_) | refine a1 (hk := ?_) | refine a2 (hk := ?_) | refine a5 (hk := ?_) | refine b5 (hk := ?_) | refine b7 (hk := ?_) | refine d7 (hf := ?_))
      generalize trustsOf ls h = tr at *
      refine C_list tr (fun pre r T' S' => ∃ (T0 : Tm) (S1 : St), Ext S S1 ∧ T' = putL T0 [(11, .bool (pre.any id)), (12, .bool (pre.all id)), (13, BL tr), (14, I pre.length)] ∧ S' = S1 ++ [])
        ⟨_, _, ex0, at_mk ⟨rfl, rfl, rfl, rfl, trivial⟩, (List.append_nil _).symm⟩ ?_ ?_
      · rintro pre x r T' S' hx ⟨T0, S1, hE, rfl, rfl⟩
        have hg := mid hx
        have hlt := mid_lt hx
        have hc0 : (pre.length : Int) < ((tr.map fun x => [HV.bool x]).length : Int) := by simp; omega
        clear hr f1 f2 hrl g5 g6
        repeat' (first | refine c0 ?_ | refine c3 ?_ | refine c7 ?_ | refine d2 ?_ | refine c8 ?_ | refine d0 ?_ | refine d4 ?_ | refine a0 (hk := ?_) | refine a1 (hk := ?_) | refine a2 (hk := ?_) | refine a4 (ht := ?_) (hf := ?_) | refine a5 (hk := ?_) | refine b6 (hk := ?_) | refine b8 (hk := ?_) | (with_reducible intro hc) | refine u7 (hk := ?_))
        all_goals (refine ⟨_, _, ex1 hE, at_mk ⟨?_, ?_, rfl, inc (by omega), trivial⟩, (List.append_nil _).symm⟩ <;> (show HV.bool _ = _; simp_all))
      · rintro T' S' ⟨T0, S1, hE, rfl, rfl⟩
        have hc0 : ¬ ((tr.length : Int) < ((tr.map fun x => [HV.bool x]).length : Int)) := by simp
        rw [q1, q2]
        repeat' (first | refine c0 ?_ | refine c2 ?_ | refine c5 ?_ | refine c7 ?_ | refine d2 ?_ | refine c9 ?_ | refine d1 ?_ | refine d4 ?_ | refine a1 (hk := ?_) | refine a2 (hk := ?_) | refine a5 (hk := ?_) | refine u8 (hk := ?_))
        exact rBx hE (hv := rfl)
end Go.Proofs.X
end
