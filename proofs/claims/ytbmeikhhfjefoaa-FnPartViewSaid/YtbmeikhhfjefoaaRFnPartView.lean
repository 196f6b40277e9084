/- Whatever bytes the law FnPartView is given, it returns true and leaves them as they were. Conditions: none beyond the row's own. -/
import Derived.Test.YtbmeikhhfjefoaaA6
import Derived.Test.YtbmeikhhfjefoaaRows
import Derived.WalkKit
import Derived.ProofKit
import Derived.OpenShut
import Derived.ShutString
import Derived.ChangeOld
import Derived.Below
import Derived.SizedLaws
namespace Go.Proofs.Ytbmeikhhfjefoaa.fnPartView
open Go Go.ChangeShapes Go.WideShapes Go.ChangeAt Go.RowKit Go.Proofs.XVai Go.Proofs.XN Go.Proofs.X
set_option linter.all false
theorem bytes_of {c : List HV} (h : Typed Y T_s_uint8 c) : ∃ bs : List UInt8, c = [BY bs] := by
  cases h with
  | int ht hs hw => cases ht; cases hs
  | bool ht hs => cases ht; cases hs
  | str ht hs hz => cases ht; cases hs
  | strct ht hs hl hf => cases ht; cases hs
  | slice ht hs hl hr =>
    rename_i e ti rows
    cases ht; cases hs
    have one : ∀ r ∈ rows, ∃ b : UInt8, r = brow b := fun r hrr => by
      cases hr r hrr with
      | int ht hs hw =>
        rename_i k n
        cases ht; cases hs
        have hw' : 0 ≤ n ∧ n ≤ 255 := by
          simp only [Lit.wf, Bool.and_eq_true, decide_eq_true_eq] at hw
          exact hw
        refine ⟨UInt8.ofNat n.toNat, ?_⟩
        have : ((UInt8.ofNat n.toNat).toNat : Int) = n := by
          simp only [UInt8.toNat_ofNat']
          omega
        rw [brow, this]
      | bool ht hs => cases ht; cases hs
      | str ht hs hz => cases ht; cases hs
      | strct ht hs hl hf => cases ht; cases hs
      | slice ht hs hl hr => cases ht; cases hs
    have hx : ∃ bs : List UInt8, rows = bs.map brow := by
      clear hr hl
      induction rows with
      | nil => exact ⟨[], rfl⟩
      | cons r rows ih =>
        obtain ⟨b, rfl⟩ := one r (by simp)
        obtain ⟨bs, rfl⟩ := ih fun r hr => one r (by simp [hr])
        exact ⟨b :: bs, rfl⟩
    obtain ⟨bs, rfl⟩ := hx
    exact ⟨bs, rfl⟩
theorem own : ownKnob Try.prog.godebug = none := by kernel_rfl
theorem laidOut : laidOutB Try.prog = true := by kernel_rfl
set_option maxRecDepth 100000 in
theorem lifted (os : Os) (started : os.Started) (H : Type) (enc : TypeId × Value → H) :
    ReturnsInHanded {} Try.checked os 9 .any (Rows.fnPartViewSpec.pre6 enc Try.prog Try.f9 Rows.fnPartViewRow.domain false) (Rows.fnPartViewSpec.post enc Try.prog Try.f9 false true false false) := by
  refine returnsInHanded_of_change_sized (C := Try.checked) own started (by kernel_rfl) Try.func9
    (ChangeSpec.witness6 (enc := enc) (C := Try.checked) false ⟨#[], #[.slice none 0 0], []⟩ 8 (by kernel_rfl) (by kernel_rfl) (by kernel_rfl) (by kernel_rfl)) ?_
  intro W base args ds gs before hval0 hW hcnd hsz0 _
  have hval : ∀ (j : Nat) t v, Try.f9.params[j]? = some t → args[j]? = some v → Value.okWide Try.prog W .any base t v := hval0
  have hW' := hW
  obtain ⟨p, q, hA0, hV, rfl, hfz, hnd⟩ := hW
  have hA : DataW.TrodAll enc Try.prog W 0 (fun _ => true) true Try.f9.params.toList args.toList ds p := hA0
  rw [Try.params9] at hA hval
  obtain ⟨v0, vs0, d0, ds0, p0, q0, hargs, rfl, rfl, h0, r0⟩ := trodAll_cons hA
  obtain ⟨rfl, rfl, rfl⟩ := trodAll_nil r0
  obtain rfl : args = #[v0] := by cases args; simp_all
  obtain ⟨rfl, rfl⟩ := trodVars_none hV
  obtain ⟨a0, len0, cap0, rfl⟩ := okWide_slice Try.underlying22 (hval 0 _ v0 rfl rfl)
  have k0 := h0
  have lt0 : ∀ x ∈ p0, x.block < W.heap.size := by obtain ⟨m, hm⟩ := k0; exact DataW.trod_lt m _ _ _ hm
  obtain ⟨f0, ht0⟩ := h0
  obtain ⟨hs0, hr0, hty0, _⟩ := open_typed hY f0 _ _ _ 5 ht0 (by decide)
  obtain ⟨bs0, rfl⟩ := bytes_of hty0
  have hcall := close hY hF (fun _ => rfl) (law_PartView bs0 []) (w := W) (cargs := #[.slice a0 len0 cap0]) rfl (fun i c u hi hu => by
    match i with
    | 0 => simp at hi hu; subst hi; subst hu; exact hr0.2 0 _ _ rfl rfl
    | i + 1 => simp at hi)
  refine hcall.mono fun e W' ⟨⟨cv, E', he, hv⟩, bel⟩ => ?_
  cases hv
  subst he
  exact ⟨_, rfl, _, _, _, [], _, [], hW', trodAll_mk1 (shut_bool Try.underlying4 _), (trodAll_cons_mk (Below.trod laidOut (by kernel_rfl) (of_decide_eq_true (by kernel_rfl)) k0 bel lt0) trodAll_mk0), rfl, bel.frame _, fun h => by cases h⟩
theorem over : Rows.fnPartViewRow.holds Try.pinned (OpenSpec.ofChange Rows.fnPartViewSpec) :=
  OpenClaim.holds_of_wide 9 Try.f9 rfl rfl rfl rfl rfl rfl rfl ⟨rfl, rfl, rfl, rfl, rfl⟩ rfl rfl rfl rfl rfl (by kernel_rfl) Try.func9 (by kernel_rfl)
    (of_decide_eq_true (by kernel_rfl)) (by unfold Func.isWrapper; first | (rw [if_pos (by decide +kernel)]; kernel_rfl) | (rw [if_neg (by decide +kernel)]; exact ⟨rfl, rfl⟩))
    (fun os started H enc _ => lifted os started H enc)
theorem proved : Rows.FnPartViewSaid := over
#print axioms proved
end Go.Proofs.Ytbmeikhhfjefoaa.fnPartView
namespace Go.Proofs.Ytbmeikhhfjefoaa
/-- The row, under a short name, for the claim. -/
theorem fnPartView_holds : Rows.FnPartViewSaid := fnPartView.proved
end Go.Proofs.Ytbmeikhhfjefoaa
