/- The contracts of functions that the statement reaches, part 2. Conditions: none. -/
import Derived.Test.YtkcneecnniimdaaVP
import Derived.Test.YtkcneecnniimdaaChecked
import Derived.KernelRfl
namespace Go.Proofs.XT
open Go Go.Proofs.XVai Go.Proofs
set_option linter.unusedVariables false

def tab : Nat → Option TI
  | 3 => some ⟨1, false, [.int .i64 0], .int .i64, false⟩
  | 4 => some ⟨1, false, [.bool false], .bool, false⟩
  | 23 => some ⟨1, false, [.nils], .slice 3, false⟩
  | 25 => some ⟨3, true, [.nils, .nils, .nils], .strct [(23, 0, 1), (23, 1, 1), (23, 2, 1)], false⟩
  | 31 => some ⟨3, true, [.nils, .nils, .nils], .strct [(23, 0, 1), (23, 1, 1), (23, 2, 1)], false⟩
  | _ => none
noncomputable def fns : Nat → Option Func
  | 4 => some Try.f4
  | 6 => some Try.f6
  | 7 => some Try.f7
  | 9 => some Try.f9
  | 10 => some Try.f10
  | 11 => some Try.f11
  | 15 => some Try.f15
  | 16 => some Try.f16
  | 17 => some Try.f17
  | 18 => some Try.f18
  | 19 => some Try.f19
  | 20 => some Try.f20
  | 21 => some Try.f21
  | 22 => some Try.f22
  | 23 => some Try.f23
  | 24 => some Try.f24
  | 26 => some Try.f26
  | 27 => some Try.f27
  | 28 => some Try.f28
  | 29 => some Try.f29
  | _ => none
def muta : Nat → Nat → Bool
  | 23, _ => true
  | _, _ => false
noncomputable def Y : XVai.Sys := { tab := tab, fn := fns, byref := fun _ => false, keep := fun _ => false, prom := fun _ => false, muta := muta, glob := fun _ => none }

theorem hY : SysOk Y Try.prog where
  tab := by
    intro t ti h
    change tab t = some ti at h
    unfold tab at h
    split at h <;> first
      | (cases h; done)
      | (cases h; exact tyOk_of_chk (by kernel_rfl))
  mixed := Checked.mixed Try.checked
theorem hF : ∀ f fn, Y.fn f = some fn → FnOk Try.prog f fn := by
  intro f fn h
  change fns f = some fn at h
  unfold fns at h
  split at h <;> first
    | (cases h; done)
    | (cases h; exact fnOk_of_chk (by first | exact Try.func4 | exact Try.func6 | exact Try.func7 | exact Try.func9 | exact Try.func10 | exact Try.func11 | exact Try.func15 | exact Try.func16 | exact Try.func17 | exact Try.func18 | exact Try.func19 | exact Try.func20 | exact Try.func21 | exact Try.func22 | exact Try.func23 | exact Try.func24 | exact Try.func26 | exact Try.func27 | exact Try.func28 | exact Try.func29) (by kernel_rfl))
end Go.Proofs.XT
