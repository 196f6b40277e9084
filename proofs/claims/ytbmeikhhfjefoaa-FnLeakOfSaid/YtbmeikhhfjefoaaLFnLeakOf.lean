/- What the law FnLeakOf, and what it alone calls, returns. Conditions: none. -/
import Derived.Test.YtbmeikhhfjefoaaA5
set_option linter.all false
section
namespace Go.Proofs.X
open Go Go.Proofs.XVai Go.Proofs Go.Proofs.XN
set_option linter.unusedVariables false
set_option linter.unusedSimpArgs false
set_option maxHeartbeats 4000000
set_option maxRecDepth 100000

theorem law_LeakOf (bs : List UInt8) (S : St) : Ev Y laws_FnLeakOf [BY bs] S (.bool true) S := by
  by_cases hlen : bs.length > 1048576
  · have hc0 : ((bs.map brow).length : Int) > 1048576 := by simp; omega
    refine E_start (h := ?_)
    repeat' (first | refine c0 ?_ | refine c1 ?_ | refine c7 ?_ | refine d2 ?_ | refine c9 ?_ | refine d4 ?_ | refine a5 (hk := ?_) | refine u7 (hk := ?_))
    exact rB (hv := rfl)
  · have hc0 : ¬ (((bs.map brow).length : Int) > 1048576) := by simp; omega
    refine E_start (h := ?_)
    repeat' (first | refine c0 ?_ | refine c7 ?_ | refine d2 ?_ | refine d0 ?_ | refine d4 ?_ | refine a5 (hk := ?_) | refine u8 (hk := ?_))
    refine kX (he := k_DrawLeakOf bs _) (hk := ?_)
    rintro v S2 ⟨rfl, ls, ss, h, rfl, hs, hl, hh1, hh2⟩
    cases hr : leakOf ls ss h with
    | none =>
      have f1 : ∀ S, Ev Y spec_LeakOf [PR ls ss, I h] S (.tup [L [], L [], .bool false]) S := fun S => by
        have := k_spec_LeakOf ls ss h S (by omega) (by omega)
        rw [hr] at this; exact this
      have f2 : ∀ S, Ev Y impl_LeakOf [PR ls ss, I h] S (.tup [L [], L [], .bool false]) S := fun S => by
        have := k_impl_LeakOf ls ss h S (by omega) (by omega)
        rw [hr] at this; exact this
      repeat' (first | refine c0 ?_ | refine c1 ?_ | refine c7 ?_ | refine d2 ?_ | refine c9 ?_ | refine d4 ?_ | refine k0 (he := (by first | exact f1 _ | exact f2 _ | exact lcInts_eq _ _ (by simp))) (hk := ?_) | refine b0 (hk := ?_) | refine a1 (hk := ?_) | refine a2 (hk := ?_) | refine a5 (hk := ?_) | refine b5 (hk := ?_) | refine b7 (hk := ?_) | refine d6 (ht := ?_))
      exact rB (hv := rfl)
    | some p =>
      obtain ⟨k, i⟩ := p
      obtain ⟨g1, g2, g3, g4, g5, g6⟩ := leak_found hr
      obtain ⟨p1, p2, p3, p4⟩ := progOk_in g1
      have hrl := fun m => row2_len m ls.length
      have f1 : ∀ S, Ev Y spec_LeakOf [PR ls ss, I h] S (.tup [L (row2 k ls.length), L (row2 i ls.length), .bool true]) S := fun S => by
        have := k_spec_LeakOf ls ss h S (by omega) (by omega)
        rw [hr] at this; exact this
      have f2 : ∀ S, Ev Y impl_LeakOf [PR ls ss, I h] S (.tup [L (row2 k ls.length), L (row2 i ls.length), .bool true]) S := fun S => by
        have := k_impl_LeakOf ls ss h S (by omega) (by omega)
        rw [hr] at this; exact this
      have r1 := fun S => k_impl_RunOf ls ss (row2 k ls.length) S (by omega) (by omega) (by rw [hrl]; omega)
      have r2 := fun S => k_impl_RunOf ls ss (row2 i ls.length) S (by omega) (by omega) (by rw [hrl]; omega)
      have z1 := runOf_sz g1 (row2 k ls.length)
      have z2 := runOf_sz g1 (row2 i ls.length)
      have f3 : ∀ S, Ev Y laws_lcSameOf [L (row2 k ls.length), L (row2 i ls.length), BL (knowsOf ls h)] S (.bool true) S := fun S => by
        have := k_laws_lcSameOf (row2 k ls.length) (row2 i ls.length) (knowsOf ls h) S (by simp [knowsOf, hrl]) (by simp [knowsOf, hrl]) (by simp [knowsOf]; omega)
        rwa [g5] at this
      have f4 : ∀ S, Ev Y laws_lcInts [L (runTo (runOf ls ss (row2 k ls.length)).ss h), L (runTo (runOf ls ss (row2 i ls.length)).ss h)] S (.bool false) S := fun S => by
        have := k_laws_lcInts (runTo (runOf ls ss (row2 k ls.length)).ss h) (runTo (runOf ls ss (row2 i ls.length)).ss h) S (by have := runTo_len (runOf ls ss (row2 k ls.length)).ss h; omega) (by have := runTo_len (runOf ls ss (row2 i ls.length)).ss h; omega)
        rwa [g6] at this
      have f5 : ∀ m S, Ev Y laws_lcBits [L (row2 m ls.length)] S (.bool true) S := fun m S => by
        have := k_laws_lcBits (row2 m ls.length) S (by rw [hrl]; omega)
        rwa [row2_bits] at this
      repeat' (first | refine c0 ?_ | refine c7 ?_ | refine d2 ?_ | refine c9 ?_ | refine d0 ?_ | refine d4 ?_ | refine d3' (h := ?_) | refine d4' ?_ | refine k0 (he := (by first | exact f1 _ | exact f2 _ | exact lcInts_eq _ _ (by first | (rw [hrl]; omega) | (simp; done)) | exact r1 _ | exact r2 _ | exact k_impl_TypeKnows' _ _ g1 | exact f3 _ | exact k_impl_RunTo _ _ _ _ _ (by omega) | exact f4 _ | exact f5 _ _)) (hk := ?_) | refine k0' (he := (by first | exact f1 _ | exact f2 _ | exact lcInts_eq _ _ (by first | (rw [hrl]; omega) | (simp; done)) | exact r1 _ | exact r2 _ | exact k_impl_TypeKnows' _ _ g1 | exact f3 _ | exact k_impl_RunTo _ _ _ _ _ (by omega) | exact f4 _ | exact f5 _ _)) (hk := ?_) | refine b0 (hk := ?_) | refine a1 (hk := ?_) | refine a2 (hk := ?_) | refine a5 (hk := ?_) | refine b5 (hk := ?_) | refine b7 (hk := ?_) | refine e1' (hk := ?_) | refine e5' (hk := ?_) | refine f5' (hk := ?_) | refine d7 (hf := ?_))
      exact rB (hv := rfl)
end Go.Proofs.X
end
