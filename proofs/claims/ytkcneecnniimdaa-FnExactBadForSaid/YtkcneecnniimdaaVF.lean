/- States grow; unused places stay unused. -/
import Derived.Test.YtkcneecnniimdaaVE
namespace Go.Proofs.XVai
open Go
set_option linter.unusedVariables false
set_option linter.unusedSimpArgs false

/-- A state grows, and what is unused stays so, but for the place of a new object. -/
def Grow (pl : Option Nat) (S S' : St) : Prop := S.length ≤ S'.length ∧ ∀ k : Nat, some k ≠ pl → S[k]? = some .dummy → S'[k]? = some .dummy

theorem Grow.refl (pl : Option Nat) (S : St) : Grow pl S S := ⟨Nat.le_refl _, fun _ _ h => h⟩
theorem Grow.trans {pl : Option Nat} {A B D : St} (h : Grow pl A B) (k : Grow pl B D) : Grow pl A D :=
  ⟨Nat.le_trans h.1 k.1, fun j hj hd => k.2 j hj (h.2 j hj hd)⟩
theorem Grow.weaken {A B : St} (h : Grow none A B) (pl : Option Nat) : Grow pl A B := ⟨h.1, fun j _ hd => h.2 j (by simp) hd⟩
theorem Grow.push (pl : Option Nat) (S : St) (o : Ob) : Grow pl S (S ++ [o]) := by
  refine ⟨by simp, fun k _ h => ?_⟩
  rw [List.getElem?_append_left (List.getElem?_eq_some_iff.1 h).1]; exact h
theorem Grow.of_newOb (pl : Option Nat) (S : St) (o : Ob) : Grow pl S (newOb pl S o).2 := by
  cases pl with
  | none => exact Grow.push _ _ _
  | some s =>
    refine ⟨by simp [Go.Proofs.XVai.newOb], fun k hk h => ?_⟩
    simp only [Go.Proofs.XVai.newOb]
    rw [List.getElem?_set_ne (fun e => hk (by rw [e]))]; exact h
theorem Grow.set (pl : Option Nat) {S : St} {k : Nat} {old : Ob} (o : Ob) (h : S[k]? = some old) (ho : old ≠ .dummy) : Grow pl S (S.set k o) := by
  refine ⟨by simp, fun j _ hj => ?_⟩
  have : k ≠ j := fun e => ho (by rw [e, hj] at h; cases h; rfl)
  rw [List.getElem?_set_ne this]; exact hj

theorem Grow.of_mapMS {α β : Type} {pl : Option Nat} {f : α → St → Option (β × St)} (hf : ∀ x S y S', f x S = some (y, S') → Grow pl S S') : ∀ (xs : List α) (S S' : St) (ys : List β), mapMS f xs S = some (ys, S') → Grow pl S S' := by
  intro xs
  induction xs with
  | nil => intro S S' ys h; simp only [Go.Proofs.XVai.mapMS, Option.some.injEq, Prod.mk.injEq] at h; rw [← h.2]; exact .refl _ _
  | cons x xs ih =>
    intro S S' ys h
    simp only [Go.Proofs.XVai.mapMS] at h
    split at h
    · rename_i h1
      split at h
      · rename_i h2
        simp only [Option.some.injEq, Prod.mk.injEq] at h
        rw [← h.2]; exact (hf _ _ _ _ h1).trans (ih _ _ _ h2)
      · cases h
    · cases h

theorem Grow.of_frzC (pl : Option Nat) (n0 : Nat) : ∀ (d : Nat) (x : HV) (S : St) (y : HV) (S' : St), frzC n0 d x S = some (y, S') → Grow pl S S' := by
  intro d
  induction d with
  | zero =>
    intro x S y S' h
    cases x <;> simp only [Go.Proofs.XVai.frzC, Option.some.injEq, Prod.mk.injEq] at h
    case sl =>
      split at h
      · simp only [Option.some.injEq, Prod.mk.injEq] at h; rw [← h.2]; exact .refl _ _
      · cases h
    all_goals (rw [← h.2]; exact .refl _ _)
  | succ d ih =>
    intro x S y S' h
    cases x <;> simp only [Go.Proofs.XVai.frzC, Option.some.injEq, Prod.mk.injEq] at h
    case sl k n =>
      split at h
      · simp only [Option.some.injEq, Prod.mk.injEq] at h; rw [← h.2]; exact .refl _ _
      · split at h
        · rename_i fr rows hk
          split at h
          · split at h
            · rename_i rows' S1 hm
              have h1 : Grow pl S S1 := Grow.of_mapMS (fun x S y S' h => Grow.of_mapMS ih x S S' y h) _ _ _ _ hm
              have hlen := mapMS_keep (fun x S y S' h => mapMS_keep (frzC_keep n0 d) x S S' y h) _ _ _ _ hm
              split at h
              · simp only [Option.some.injEq, Prod.mk.injEq] at h
                rw [← h.2]
                cases fr with
                | true => exact h1
                | false =>
                  refine ⟨by simp; omega, fun j hj hd => ?_⟩
                  have hne : k ≠ j := fun e => by rw [e, hd] at hk; cases hk
                  simp only [Bool.false_eq_true, if_false]
                  rw [List.getElem?_set_ne hne]; exact h1.2 j hj hd
              · cases h
            · cases h
          · cases h
        · cases h
    all_goals (rw [← h.2]; exact .refl _ _)
theorem Grow.of_frzV (pl : Option Nat) (n0 : Nat) (x : HV) (S : St) (y : HV) (S' : St) (h : frzV n0 x S = some (y, S')) : Grow pl S S' := by
  cases x
  case agg cs =>
    simp only [Go.Proofs.XVai.frzV] at h
    split at h
    · rename_i h1
      simp only [Option.some.injEq, Prod.mk.injEq] at h
      rw [← h.2]; exact Grow.of_mapMS (Grow.of_frzC pl n0 6) _ _ _ _ h1
    · cases h
  all_goals exact Grow.of_frzC pl n0 6 _ _ _ _ (by simpa only [Go.Proofs.XVai.frzV] using h)
theorem Grow.of_frzR (pl : Option Nat) (n0 : Nat) (x : HV) (S : St) (y : HV) (S' : St) (h : frzR n0 x S = some (y, S')) : Grow pl S S' := by
  cases x
  case tup cs =>
    simp only [Go.Proofs.XVai.frzR] at h
    split at h
    · rename_i h1
      simp only [Option.some.injEq, Prod.mk.injEq] at h
      rw [← h.2]; exact Grow.of_mapMS (Grow.of_frzV pl n0) _ _ _ _ h1
    · cases h
  all_goals exact Grow.of_frzV pl n0 _ _ _ _ (by simpa only [Go.Proofs.XVai.frzR] using h)

theorem Grow.of_promote (pl : Option Nat) (fl : Nat → Bool) : ∀ (row : List HV) (j : Nat) (S : St), Grow pl S (promote fl j row S).2 := by
  intro row
  induction row with
  | nil => intro j S; exact .refl _ _
  | cons c row ih =>
    intro j S
    by_cases h : c = .nils
    · subst h
      simp only [Go.Proofs.XVai.promote]
      exact (Grow.push _ _ _).trans (ih _ _)
    · have : promote fl j (c :: row) S = (c :: (promote fl (j + 1) row S).1, (promote fl (j + 1) row S).2) := by
        cases c <;> first | (exact absurd rfl h) | rfl
      rw [this]; exact ih _ _
theorem Grow.of_zrow {pl : Option Nat} {fl : Nat → Bool} {pr : Bool} {z : List HV} {S S1 : St} {row : List HV} (h : zrow fl pr z S = (row, S1)) : Grow pl S S1 := by
  unfold Go.Proofs.XVai.zrow at h
  cases pr with
  | false => simp only [Bool.false_eq_true, if_false, Prod.mk.injEq] at h; rw [← h.2]; exact .refl _ _
  | true =>
    simp only [if_true] at h
    have := Grow.of_promote pl fl z 0 S
    rw [h] at this; exact this
theorem Grow.of_zrows {pl : Option Nat} (fl : Nat → Bool) (pr : Bool) (z : List HV) : ∀ (n : Nat) (S S1 : St) (rows : List (List HV)), zrows fl pr z n S = (rows, S1) → Grow pl S S1 := by
  intro n
  induction n with
  | zero => intro S S1 rows h; simp only [Go.Proofs.XVai.zrows, Prod.mk.injEq] at h; rw [← h.2]; exact .refl _ _
  | succ n ih =>
    intro S S1 rows h
    simp only [Go.Proofs.XVai.zrows] at h
    generalize hq : Go.Proofs.XVai.zrow fl pr z S = q at h
    obtain ⟨r, Sa⟩ := q
    simp only at h
    generalize hq2 : Go.Proofs.XVai.zrows fl pr z n Sa = q2 at h
    obtain ⟨rs, Sb⟩ := q2
    simp only [Prod.mk.injEq] at h
    rw [← h.2]; exact (Grow.of_zrow hq).trans (ih _ _ _ hq2)

theorem cstore_grow {Y : Sys} {pl : Option Nat} {S S' : St} {t : Nat} {x v : HV} (h : cstore Y S t x v = some S') : Grow pl S S' := by
  unfold cstore at h
  split at h
  · split at h
    · rename_i hk
      split at h
      · split at h
        · simp only [Option.some.injEq] at h; rw [← h]; exact Grow.set _ _ hk (by simp)
        · cases h
      · cases h
    · cases h
  · cases h
theorem cappend_grow {mu : Bool} {pl : Option Nat} {S S' : St} {z : Nat} {x y v : HV} (h : cappend mu pl S z x y = some (v, S')) : Grow pl S S' := by
  unfold cappend at h
  split at h
  · cases h
  · split at h
    · split at h
      · split at h
        · simp only [Option.some.injEq, Prod.mk.injEq] at h; rw [← h.2]; exact .refl _ _
        · split at h
          · simp only [Option.some.injEq, Prod.mk.injEq] at h; rw [← h.2]; exact Grow.of_newOb _ _ _
          · cases h
      · split at h
        · rename_i hk
          split at h
          · simp only [Option.some.injEq, Prod.mk.injEq] at h; rw [← h.2]; exact Grow.set _ _ hk (by simp)
          · cases h
        · cases h
      · cases h
    · cases h
theorem cslice_grow {Y : Sys} {pl : Option Nat} {S S' : St} {t : Nat} {x v : HV} {lo hi : Option HV} (h : cslice Y S t x lo hi = some (v, S')) : Grow pl S S' := by
  unfold cslice at h
  split at h
  · cases h
  · split at h
    · split at h
      · split at h
        · split at h
          · simp only [Option.some.injEq, Prod.mk.injEq] at h; rw [← h.2]; exact .refl _ _
          · cases h
        · cases h
      · cases h
    · split at h
      · rename_i hf
        split at h
        · split at h
          · simp only [Option.some.injEq, Prod.mk.injEq] at h; rw [← h.2]; exact Grow.of_frzC _ _ _ _ _ _ _ hf
          · cases h
        · cases h
      · cases h
    · cases h

theorem cop_grow {Y : Sys} {fid : Nat} {call : Nat → List HV → St → Option (HV × St)} (hcall : ∀ g args S v S', call g args S = some (v, S') → Grow none S S') {pl : Option Nat} {o : Oper} {T : Tm} {S S' : St} {hv : HV}
    (hc : cop Y fid call pl o T S = some (hv, S')) : Grow pl S S' := by
  obtain ⟨dst, op, ty, pos, after, guard⟩ := o
  have same : ∀ {x : Option HV}, x.map (fun v => (v, S)) = some (hv, S') → Grow pl S S' := fun {x} h => by
    obtain ⟨y, _, h2⟩ := Option.map_eq_some_iff.1 h
    simp only [Prod.mk.injEq] at h2
    rw [← h2.2]; exact .refl _ _
  have here : ∀ {x : HV}, some (x, S) = some (hv, S') → Grow pl S S' := fun {x} h => by
    simp only [Option.some.injEq, Prod.mk.injEq] at h; rw [← h.2]; exact .refl _ _
  cases op with
  | alloc t =>
    simp only [cop] at hc
    split at hc
    · simp only [Option.some.injEq, Prod.mk.injEq] at hc; rw [← hc.2]; exact Grow.of_newOb _ _ _
    · cases hc
  | box t x =>
    simp only [cop, Option.some.injEq, Prod.mk.injEq] at hc; rw [← hc.2]; exact Grow.of_newOb _ _ _
  | build t parts =>
    simp only [cop] at hc
    split at hc
    · generalize hq : zrow (Y.muta fid) (Y.prom fid && pl.isNone) _ S = q at hc
      obtain ⟨r, Sa⟩ := q
      simp only at hc
      split at hc
      · split at hc
        · simp only [Option.some.injEq, Prod.mk.injEq] at hc; rw [← hc.2]; exact Grow.of_zrow hq
        · cases hc
      · cases hc
    · cases hc
  | buildSlice t len parts =>
    simp only [cop] at hc
    split at hc
    · split at hc
      · split at hc
        · split at hc
          · split at hc
            · exact here hc
            · cases hc
          · split at hc
            · split at hc
              · split at hc
                · rename_i hm
                  split at hc
                  · simp only [Option.some.injEq, Prod.mk.injEq] at hc; rw [← hc.2]
                    exact Grow.of_mapMS (fun x S y S' h => Grow.of_mapMS (Grow.of_frzC pl 0 6) x S S' y h) _ _ _ _ hm
                  · cases hc
                · cases hc
              · cases hc
            · cases hc
        · cases hc
      · cases hc
    · cases hc
  | load t x => simp only [cop] at hc; exact same hc
  | store t x v =>
    simp only [cop] at hc
    obtain ⟨y, h1, h2⟩ := Option.map_eq_some_iff.1 hc
    simp only [Prod.mk.injEq] at h2
    rw [← h2.2]; exact cstore_grow h1
  | convert s d x => simp only [cop] at hc; exact same hc
  | fieldAddr t x f => simp only [cop] at hc; exact same hc
  | indexAddr t x i => simp only [cop] at hc; exact same hc
  | slice t x lo hi mx =>
    cases mx with
    | none => simp only [cop] at hc; exact cslice_grow hc
    | some m => simp [cop] at hc
  | makeMap t r =>
    cases r with
    | none => simp only [cop, Option.some.injEq, Prod.mk.injEq] at hc; rw [← hc.2]; exact Grow.of_newOb _ _ _
    | some m => simp [cop] at hc
  | makeSlice t l c =>
    simp only [cop] at hc
    split at hc
    · split at hc
      · split at hc
        · split at hc
          · generalize hq : zrows (Y.muta fid) (Y.prom fid && pl.isNone) _ _ S = q at hc
            obtain ⟨r, Sa⟩ := q
            simp only [Option.some.injEq, Prod.mk.injEq] at hc; rw [← hc.2]
            exact (Grow.of_zrows _ _ _ _ _ _ _ hq).trans (Grow.of_newOb _ _ _)
          · cases hc
        · cases hc
      · cases hc
    · cases hc
  | mapUpdate t m k v =>
    simp only [cop] at hc
    split at hc
    · split at hc
      · split at hc
        · rename_i hk _
          split at hc
          · split at hc
            · simp only [Option.some.injEq, Prod.mk.injEq] at hc; rw [← hc.2]; exact Grow.set _ _ hk (by simp)
            · cases hc
          · cases hc
        · cases hc
      · cases hc
    · cases hc
  | extract x i =>
    simp only [cop] at hc
    split at hc
    · exact same hc
    · cases hc
  | call c =>
    simp only [cop] at hc
    split at hc
    · repeat' split at hc
      all_goals first | exact here hc | cases hc
    · split at hc
      · split at hc
        · split at hc
          · split at hc
            · exact cappend_grow hc
            · cases hc
          · cases hc
        · cases hc
      · cases hc
    · split at hc
      · exact here hc
      · cases hc
    · split at hc
      · split at hc
        · exact (hcall _ _ _ _ _ hc).weaken _
        · split at hc
          · rename_i hm
            exact (Grow.of_mapMS (Grow.of_frzV pl 0) _ _ _ _ hm).trans ((hcall _ _ _ _ _ hc).weaken _)
          · cases hc
      · cases hc
    · cases hc
  | binOp op t x y yt =>
    simp only [cop] at hc
    split at hc
    all_goals (first | exact same hc | skip)
    all_goals ((repeat' split at hc); all_goals first | exact here hc | cases hc)
  | _ =>
    simp only [cop] at hc
    first
      | exact here hc
      | (cases hc; done)
      | ((repeat' split at hc); all_goals first | exact here hc | cases hc)

end Go.Proofs.XVai
