/- Whatever plan, host and set of bad hosts the law FnExactBadFor is given, it returns true and leaves its arguments as they were. Conditions: none beyond the row's own. -/
import Derived.Test.YtkcneecnniimdaaT8
import Derived.Test.YtkcneecnniimdaaRows
import Derived.WalkKit
import Derived.ProofKit
import Derived.OpenShut
import Derived.ShutString
import Derived.ChangeOld
import Derived.Below
import Derived.SizedLaws
namespace Go.Proofs.Ytkcneecnniimdaa.fnExactBadFor
open Go.ChangeShapes Go.WideShapes Go.ChangeAt Go.RowKit Go.Proofs.XVai
open Go.Proofs.XT (Y hY hF I L P3 c4)
set_option linter.unusedVariables false
theorem ints_of {c : List HV} (h : Typed Y 23 c) : ∃ xs : List Int, c = [L xs] ∧ xs.length ≤ maxLen := by
  cases h with
  | int ht hs hw => cases ht; cases hs
  | bool ht hs => cases ht; cases hs
  | str ht hs hz => cases ht; cases hs
  | strct ht hs hl hf => cases ht; cases hs
  | slice ht hs hl hr =>
    rename_i e ti rows
    cases ht; cases hs
    have : ∀ r ∈ rows, ∃ n : Int, r = [HV.int .i64 n] := fun r hrr => by
      cases hr r hrr with
      | int ht hs hw => cases ht; cases hs; exact ⟨_, rfl⟩
      | bool ht hs => cases ht; cases hs
      | str ht hs hz => cases ht; cases hs
      | strct ht hs hl hf => cases ht; cases hs
      | slice ht hs hl hr => cases ht; cases hs
    have hx : ∃ xs : List Int, rows = xs.map fun x => [HV.int .i64 x] := by
      clear hr hl
      induction rows with
      | nil => exact ⟨[], rfl⟩
      | cons r rows ih =>
        obtain ⟨n, rfl⟩ := this r (by simp)
        obtain ⟨xs, rfl⟩ := ih fun r hr => this r (by simp [hr])
        exact ⟨n :: xs, rfl⟩
    obtain ⟨xs, rfl⟩ := hx
    exact ⟨xs, rfl, by simpa using hl⟩
theorem plan_of {c : List HV} (h : Typed Y 31 c) : ∃ x y z : List Int, c = [L x, L y, L z] ∧ x.length ≤ maxLen ∧ y.length ≤ maxLen ∧ z.length ≤ maxLen := by
  cases h with
  | int ht hs hw => cases ht; cases hs
  | bool ht hs => cases ht; cases hs
  | str ht hs hz => cases ht; cases hs
  | slice ht hs hl hr => cases ht; cases hs
  | strct ht hs hl hf =>
    cases ht; cases hs
    match c, hl with
    | [c0, c1, c2], _ =>
      obtain ⟨x, hx, h1⟩ := ints_of (hf 0 _ rfl)
      obtain ⟨y, hy, h2⟩ := ints_of (hf 1 _ rfl)
      obtain ⟨z, hz, h3⟩ := ints_of (hf 2 _ rfl)
      simp at hx hy hz
      exact ⟨x, y, z, by rw [hx, hy, hz], h1, h2, h3⟩
theorem own : ownKnob Try.prog.godebug = none := by kernel_rfl
theorem laidOut : laidOutB Try.prog = true := by kernel_rfl
set_option maxRecDepth 100000 in
theorem lifted (os : Os) (started : os.Started) (H : Type) (enc : TypeId × Value → H) :
    ReturnsInHanded {} Try.checked os 4 .any (Rows.fnExactBadForSpec.pre6 enc Try.prog Try.f4 Rows.fnExactBadForRow.domain false) (Rows.fnExactBadForSpec.post enc Try.prog Try.f4 false true false false) := by
  refine returnsInHanded_of_change_sized (C := Try.checked) own started (by kernel_rfl) Try.func4
    (ChangeSpec.witness6 (enc := enc) (C := Try.checked) false ⟨#[], #[.agg #[.slice none 0 0, .slice none 0 0, .slice none 0 0], .int .i64 0, .int .i64 0], []⟩ 8 (by kernel_rfl) (by kernel_rfl) (by kernel_rfl) (by kernel_rfl)) ?_
  intro W base args ds gs before hval0 hW hcnd hsz0 _
  have hval : ∀ (j : Nat) t v, Try.f4.params[j]? = some t → args[j]? = some v → Value.okWide Try.prog W .any base t v := hval0
  have hW' := hW
  obtain ⟨p, q, hA0, hV, rfl, hfz, hnd⟩ := hW
  have hA : DataW.TrodAll enc Try.prog W 0 (fun _ => true) true Try.f4.params.toList args.toList ds p := hA0
  rw [Try.params4] at hA hval
  obtain ⟨v0, vs0, d0, ds0, p0, q0, hargs, rfl, rfl, h0, r0⟩ := trodAll_cons hA
  obtain ⟨v1, vs1, d1, ds1, p1, q1, rfl, rfl, rfl, h1, r1⟩ := trodAll_cons r0
  obtain ⟨v2, vs2, d2, ds2, p2, q2, rfl, rfl, rfl, h2, r2⟩ := trodAll_cons r1
  obtain ⟨rfl, rfl, rfl⟩ := trodAll_nil r2
  obtain rfl : args = #[v0, v1, v2] := by cases args; simp_all
  obtain ⟨rfl, rfl⟩ := trodVars_none hV
  obtain ⟨cs, rfl, hcs⟩ : ∃ cs, v0 = .agg cs ∧ cs.size = 3 := by
    have := hval 0 31 v0 rfl rfl
    unfold Value.okWide at this
    rw [Try.underlying31] at this
    obtain ⟨cs, h1, h2, _⟩ := this
    exact ⟨cs, h1, by rw [h2]; kernel_rfl⟩
  obtain ⟨n1, rfl⟩ := okWide_int Try.underlying3 (hval 1 3 v1 rfl rfl)
  obtain ⟨n2, rfl⟩ := okWide_int Try.underlying3 (hval 2 3 v2 rfl rfl)
  have k0 := h0
  have lt0 : ∀ x ∈ p0, x.block < W.heap.size := by obtain ⟨m, hm⟩ := k0; exact DataW.trod_lt m _ _ _ hm
  have lt1 : ∀ x ∈ p1, x.block < W.heap.size := by obtain ⟨m, hm⟩ := h1; exact DataW.trod_lt m _ _ _ hm
  have lt2 : ∀ x ∈ p2, x.block < W.heap.size := by obtain ⟨m, hm⟩ := h2; exact DataW.trod_lt m _ _ _ hm
  obtain ⟨f0, ht0⟩ := h0
  obtain ⟨hs, hr, hty, _⟩ := open_typed hY f0 31 _ _ 5 ht0 (by decide)
  obtain ⟨x, y, z, rfl, hx, hy, hz⟩ := plan_of hty
  have hcall := close hY hF (fun _ => rfl) (c4 x y z n1 n2 [] hx hy hz) (w := W) (cargs := #[.agg cs, .int .i64 n1, .int .i64 n2]) rfl (fun i c u hi hu => by
    match i with
    | 0 =>
      simp at hi hu; subst hi; subst hu
      exact .agg _ _ (by simp [hcs]) fun i c v h1 h2 => hr.2 i c v h1 (by simpa [Value.cells] using h2)
    | 1 => simp at hi hu; subst hi; subst hu; exact .int _ _
    | 2 => simp at hi hu; subst hi; subst hu; exact .int _ _
    | i + 3 => simp at hi)
  refine hcall.mono fun e W' ⟨⟨cv, E', he, hv⟩, bel⟩ => ?_
  cases hv
  subst he
  exact ⟨_, rfl, _, _, _, [], _, [], hW', trodAll_mk1 (shut_bool Try.underlying4 _),
    (trodAll_cons_mk (Below.trod laidOut (by kernel_rfl) (of_decide_eq_true (by kernel_rfl)) k0 bel lt0)
      (trodAll_cons_mk (Below.trod laidOut (by kernel_rfl) (of_decide_eq_true (by kernel_rfl)) h1 bel lt1)
        (trodAll_cons_mk (Below.trod laidOut (by kernel_rfl) (of_decide_eq_true (by kernel_rfl)) h2 bel lt2) trodAll_mk0))), rfl, bel.frame _, fun h => by cases h⟩
theorem over : Rows.fnExactBadForRow.holds Try.pinned (OpenSpec.ofChange Rows.fnExactBadForSpec) :=
  OpenClaim.holds_of_wide 4 Try.f4 rfl rfl rfl rfl rfl rfl rfl ⟨rfl, rfl, rfl, rfl, rfl⟩ rfl rfl rfl rfl rfl (by kernel_rfl) Try.func4 (by kernel_rfl)
    (of_decide_eq_true (by kernel_rfl)) (by unfold Func.isWrapper; first | (rw [if_pos (by decide +kernel)]; kernel_rfl) | (rw [if_neg (by decide +kernel)]; exact ⟨rfl, rfl⟩))
    (fun os started H enc _ => lifted os started H enc)
theorem proved : Rows.FnExactBadForSaid := over
#print axioms proved
end Go.Proofs.Ytkcneecnniimdaa.fnExactBadFor
namespace Go.Proofs.Ytkcneecnniimdaa
/-- The row, under a short name, for the claim. -/
theorem fnExactBadFor_holds : Rows.FnExactBadForSaid := fnExactBadFor.proved
end Go.Proofs.Ytkcneecnniimdaa
