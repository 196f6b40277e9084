/- One operation, whichever it is. -/
import Derived.Test.YtkcneecnniimdaaVC
namespace Go.Proofs.XVai
open Go
set_option linter.unusedVariables false
set_option linter.unusedSimpArgs false

/-- What is related, behind a change of the canonical state; ex: a place that was kept for a new object. -/
structure Upd (C : Nat → Option Ob) (S : St) (C' : Nat → Option Ob) (S' : St) (ex : Option Nat) : Prop where
  u1 : ∀ (k : Nat), S'[k]? = S[k]? → C' k = C k
  u2 : ∀ (k : Nat), S'[k]? ≠ S[k]? → C' k = S'[k]? ∨ (S'[k]? = some .dummy ∧ C' k = none)
  u3 : Kept3 C S S' ex

theorem Upd.refl (C : Nat → Option Ob) (S : St) (ex : Option Nat) : Upd C S C S ex := ⟨fun _ _ => rfl, fun _ h => absurd rfl h, Kept3.same _ _ _⟩
theorem Upd.updC {C : Nat → Option Ob} {S S' : St} {ex : Option Nat} (h : Kept3 C S S' ex) : Upd C S (updC C S S') S' ex := by
  refine ⟨fun k hk => ?_, fun k hk => ?_, h⟩ <;> simp only [Go.Proofs.XVai.updC]
  · rw [if_pos hk]
  · rw [if_neg hk]; exact .inl rfl
theorem Upd.weaken {C C' : Nat → Option Ob} {S S' : St} (h : Upd C S C' S' none) (ex : Option Nat) : Upd C S C' S' ex := ⟨h.u1, h.u2, fun k hk hne _ => h.u3 k hk hne (by simp)⟩
theorem Upd.trans {C C1 C2 : Nat → Option Ob} {S S1 S2 : St} (h : Upd C S C1 S1 none) (k : Upd C1 S1 C2 S2 none) (hC : ∀ k, S.length ≤ k → C k = none) (hd : ∀ k, C k ≠ some .dummy) : Upd C S C2 S2 none := by
  refine ⟨fun j hj => ?_, fun j hj => ?_, fun j hl hj hp => ?_⟩
  · by_cases he : S1[j]? = S[j]?
    · rw [k.u1 j (hj.trans he.symm), h.u1 j he]
    · have h2 : S2[j]? ≠ S1[j]? := fun e => he (e.symm.trans hj)
      rcases k.u2 j h2 with h3 | ⟨h3, h4⟩
      · rw [h3, hj]
        by_cases hl : j < S.length
        · exact (h.u3 j hl he (by simp)).1.symm
        · rw [hC j (by omega)]; exact List.getElem?_eq_none (by omega)
      · by_cases hl : j < S.length
        · have h5 := (h.u3 j hl he (by simp)).1
          rw [← hj, h3] at h5
          exact absurd h5 (hd j)
        · rw [h4, hC j (by omega)]
  · by_cases he : S2[j]? = S1[j]?
    · rw [k.u1 j he, he]; exact h.u2 j (fun e => hj (he.trans e))
    · exact k.u2 j he
  · by_cases he : S1[j]? = S[j]?
    · have hl1 : j < S1.length := by
        rw [List.getElem?_eq_getElem hl] at he
        exact (List.getElem?_eq_some_iff.1 he).1
      have := k.u3 j hl1 (fun e => hj (e.trans he)) (by simp)
      rw [h.u1 j he, he] at this
      exact this
    · exact h.u3 j hl he (by simp)
theorem Upd.agree {C C' : Nat → Option Ob} {S S' : St} {ex : Option Nat} (h : Upd C S C' S' ex) (hA : ∀ k, AgreeAt C S k) : ∀ k, AgreeAt C' S' k := by
  intro k o ho
  by_cases he : S'[k]? = S[k]?
  · rw [h.u1 k he] at ho
    rcases hA k o ho with h2 | h2
    · exact .inl (he.trans h2)
    · exact .inr (he.trans h2)
  · rcases h.u2 k he with h2 | ⟨_, h2⟩
    · left; rw [← h2]; exact ho
    · rw [h2] at ho; cases ho
theorem Upd.beyond {C C' : Nat → Option Ob} {S S' : St} {ex : Option Nat} (h : Upd C S C' S' ex) (hl : S.length ≤ S'.length) (hC : ∀ k, S.length ≤ k → C k = none) : ∀ k, S'.length ≤ k → C' k = none := by
  intro k hk
  have h1 : S'[k]? = none := List.getElem?_eq_none hk
  have h2 : S[k]? = none := List.getElem?_eq_none (by omega)
  rw [h.u1 k (by rw [h1, h2])]
  exact hC k (by omega)

structure CallSim (P : Program) (Y : Sys) (call : Nat → List HV → St → Option (HV × St)) : Prop where
  sim : ∀ (g : Nat) (args : List HV) (S : St) (v : HV) (S' : St) (E : Env) (C : Nat → Option Ob) (w : World) (cargs : Array Value), call g args S = some (v, S') → Rel Y E C w → (∀ k, AgreeAt C S k) → (∀ k, S.length ≤ k → C k = none) →
    args.length = cargs.size → (∀ (i : Nat) (c : HV) (u : Value), args[i]? = some c → cargs[i]? = some u → VRel E c u) →
    Calls P g cargs w (fun e w' => ∃ cv E' C', e = .returned cv ∧ VRel E' v cv ∧ Upd C S C' S' none ∧ Rel Y E' C' w' ∧ Go1 E w E' w')
  len : ∀ (g : Nat) (args : List HV) (S : St) (v : HV) (S' : St), call g args S = some (v, S') → S.length ≤ S'.length
  fn : ∀ (g : Nat) (args : List HV) (S : St) (v : HV) (S' : St), call g args S = some (v, S') → ∃ fn, P.funcs[g]? = some fn ∧ fn.body.isSome = true ∧ (fn.name == "runtime.NumGoroutine") = false

def OpW (P : Program) (Y : Sys) (E : Env) (C : Nat → Option Ob) (w : World) (S S' : St) (pl : Option Nat) (o : Oper) (a : Act) (hv : HV) : Prop :=
  ∀ (K : Act → World → Prop) (Q : Exit → Act → World → Prop), (∀ v w' E' C', VRel E' hv v → Upd C S C' S' pl → Rel Y E' C' w' → Go1 E w E' w' → K (a.put o.dst v) w') → o.wp P a w K Q

theorem Sim.opW {P : Program} {Y : Sys} {E : Env} {C : Nat → Option Ob} {w : World} {S S' : St} {pl : Option Nat} {o : Oper} {a : Act} {hv : HV} (h : Sim P Y E C w S S' pl o a.eval hv) : OpW P Y E C w S S' pl o a hv := by
  intro K Q hK
  obtain ⟨v, w', E', h1, h2, h3, h4, h5⟩ := h
  unfold Oper.wp
  rcases h1 with h1 | ⟨h1, rfl⟩
  · rw [h1]; exact hK _ _ _ _ h2 (Upd.updC h5) h3 h4
  · rw [h1]; exact hK _ _ _ _ h2 (Upd.updC h5) h3 h4

theorem promote_len (fl : Nat → Bool) : ∀ (row : List HV) (j : Nat) (S : St), S.length ≤ (promote fl j row S).2.length := by
  intro row
  induction row with
  | nil => intro j S; exact Nat.le_refl _
  | cons c row ih =>
    intro j S
    by_cases h : c = .nils
    · subst h
      simp only [promote]
      have := ih (j + 1) (S ++ [.cells (!fl j) []])
      simp at this ⊢; omega
    · have : promote fl j (c :: row) S = (c :: (promote fl (j + 1) row S).1, (promote fl (j + 1) row S).2) := by
        cases c <;> first | (exact absurd rfl h) | rfl
      rw [this]; exact ih _ _
theorem zrow_len {fl : Nat → Bool} {pr : Bool} {z : List HV} {S S1 : St} {row : List HV} (h : zrow fl pr z S = (row, S1)) : S.length ≤ S1.length := by
  unfold zrow at h
  cases pr with
  | false => simp only [Bool.false_eq_true, if_false, Prod.mk.injEq] at h; rw [h.2]; exact Nat.le_refl _
  | true =>
    simp only [if_true] at h
    have := promote_len fl z 0 S
    rw [h] at this; exact this
theorem zrows_len (fl : Nat → Bool) (pr : Bool) (z : List HV) : ∀ (n : Nat) (S S1 : St) (rows : List (List HV)), zrows fl pr z n S = (rows, S1) → S.length ≤ S1.length := by
  intro n
  induction n with
  | zero => intro S S1 rows h; simp only [zrows, Prod.mk.injEq] at h; rw [h.2]; exact Nat.le_refl _
  | succ n ih =>
    intro S S1 rows h
    simp only [zrows] at h
    generalize hq : zrow fl pr z S = q at h
    obtain ⟨r, Sa⟩ := q
    simp only at h
    generalize hq2 : zrows fl pr z n Sa = q2 at h
    obtain ⟨rs, Sb⟩ := q2
    simp only [Prod.mk.injEq] at h
    have h1 := zrow_len hq
    have h2 := ih _ _ _ hq2
    rw [← h.2]; omega
theorem newOb_len (pl : Option Nat) (S : St) (o : Ob) : S.length ≤ (newOb pl S o).2.length := by
  cases pl <;> simp [newOb]

theorem mapMS_keep {α β : Type} {f : α → St → Option (β × St)} (hf : ∀ x S y S', f x S = some (y, S') → S'.length = S.length) : ∀ (xs : List α) (S S' : St) (ys : List β), mapMS f xs S = some (ys, S') → S'.length = S.length := by
  intro xs
  induction xs with
  | nil => intro S S' ys h; simp only [mapMS, Option.some.injEq, Prod.mk.injEq] at h; rw [h.2]
  | cons x xs ih =>
    intro S S' ys h
    simp only [mapMS] at h
    split at h
    · rename_i h1
      split at h
      · rename_i h2
        simp only [Option.some.injEq, Prod.mk.injEq] at h
        rw [← h.2, ih _ _ _ h2, hf _ _ _ _ h1]
      · cases h
    · cases h
theorem frzC_keep (n0 : Nat) : ∀ (d : Nat) (x : HV) (S : St) (y : HV) (S' : St), frzC n0 d x S = some (y, S') → S'.length = S.length := by
  intro d
  induction d with
  | zero =>
    intro x S y S' h
    cases x <;> simp only [frzC, Option.some.injEq, Prod.mk.injEq] at h
    case sl =>
      split at h
      · simp only [Option.some.injEq, Prod.mk.injEq] at h; rw [h.2]
      · cases h
    all_goals rw [h.2]
  | succ d ih =>
    intro x S y S' h
    cases x <;> simp only [frzC, Option.some.injEq, Prod.mk.injEq] at h
    case sl =>
      split at h
      · simp only [Option.some.injEq, Prod.mk.injEq] at h; rw [h.2]
      · split at h
        · split at h
          · split at h
            · rename_i hm
              have h1 := mapMS_keep (fun x S y S' h => mapMS_keep ih x S S' y h) _ _ _ _ hm
              split at h
              · simp only [Option.some.injEq, Prod.mk.injEq] at h
                rw [← h.2, ← h1]
                split <;> simp
              · cases h
            · cases h
          · cases h
        · cases h
    all_goals rw [h.2]
theorem frzV_keep (n0 : Nat) (x : HV) (S : St) (y : HV) (S' : St) (h : frzV n0 x S = some (y, S')) : S'.length = S.length := by
  cases x
  case agg cs =>
    simp only [frzV] at h
    split at h
    · rename_i h1
      simp only [Option.some.injEq, Prod.mk.injEq] at h
      rw [← h.2]; exact mapMS_keep (frzC_keep n0 6) _ _ _ _ h1
    · cases h
  all_goals exact frzC_keep n0 6 _ _ _ _ (by simpa only [frzV] using h)
theorem frzR_keep (n0 : Nat) (x : HV) (S : St) (y : HV) (S' : St) (h : frzR n0 x S = some (y, S')) : S'.length = S.length := by
  cases x
  case tup cs =>
    simp only [frzR] at h
    split at h
    · rename_i h1
      simp only [Option.some.injEq, Prod.mk.injEq] at h
      rw [← h.2]; exact mapMS_keep (frzV_keep n0) _ _ _ _ h1
    · cases h
  all_goals exact frzV_keep n0 _ _ _ _ (by simpa only [frzR] using h)

section
variable {P : Program} {Y : Sys} {E : Env} {C : Nat → Option Ob} {w : World}

/-- A call of a function. -/
theorem call_opW {call : Nat → List HV → St → Option (HV × St)} (hcall : CallSim P Y call) (hR : Rel Y E C w) {S S' : St} (hA : ∀ k, AgreeAt C S k) (hCS : ∀ k, S.length ≤ k → C k = none) {T : Tm} {f : Operand} {args : Array Operand} {ats : Array TypeId} {o : Oper} {a : Act}
    (ho : o.op = .call { callee := .value f, args := args, argTypes := ats }) {g : Nat} {caps : List HV} (hf : ev T f = .fn g caps) (hxf : VRel E (ev T f) (a.eval f)) (hx : ∀ x ∈ args.toList, VRel E (ev T x) (a.eval x)) {hv : HV}
    (hc : (if Y.byref g then call g (args.toList.map (ev T) ++ caps) S else match mapMS (frzV 0) (args.toList.map (ev T)) S with
      | some (args', S1) => call g (args' ++ caps) S1
      | none => none) = some (hv, S')) (pl : Option Nat) : OpW P Y E C w S S' pl o a hv := by
  intro K Q hK
  rw [hf] at hxf
  generalize hfv : a.eval f = fv at hxf
  cases hxf with
  | fn _ _ vs hl hcaps =>
    have henter : ∀ fn, P.funcs[g]? = some fn → fn.body.isSome = true → (fn.name == "runtime.NumGoroutine") = false → (execOp a.eval o).run P w = .ok (.enter g (args.map a.eval ++ vs)) w := by
      intro fn h1 h2 h3
      unfold execOp
      simp only [ho, resolve, hfv, Deferred.ofValue, Sem.run_bind, Sem.run_pure, Result.andThen_ok, invoke, callFunc, run_program, h1, h3, Bool.false_eq_true, if_false]
      have : fn.body.isNone = false := by cases hb : fn.body <;> simp_all
      simp [this]
    have fin : ∀ (args' : List HV) (S1 : St) (E1 : Env) (C1 : Nat → Option Ob), LRel VRel E1 args' (args.toList.map a.eval) → Rel Y E1 C1 w → Go1 E w E1 w → Upd C S C1 S1 none → S1.length = S.length → call g (args' ++ caps) S1 = some (hv, S') → o.wp P a w K Q := by
      intro args' S1 E1 C1 hr R1 G1 U1 hlen hcc
      obtain ⟨fn, h1, h2, h3⟩ := hcall.fn _ _ _ _ _ hcc
      unfold Oper.wp
      rw [henter fn h1 h2 h3]
      simp only [Oper.upon]
      have hcs := hcall.sim g (args' ++ caps) S1 hv S' E1 C1 w (args.map a.eval ++ vs) hcc R1 (U1.agree hA) (U1.beyond (by omega) hCS) (by have := hr.1; simp at this; simp [this, hl]) (fun i c u hi hu => by
        have hlen' := hr.1
        simp only [List.length_map, Array.length_toList] at hlen'
        by_cases hlt : i < args'.length
        · rw [List.getElem?_append_left hlt] at hi
          rw [Array.getElem?_append_left (by simp; omega)] at hu
          exact hr.2 i c u hi (by simpa using hu)
        · rw [List.getElem?_append_right (by omega)] at hi
          rw [Array.getElem?_append_right (by simp; omega)] at hu
          simp only [Array.size_map] at hu
          exact (hcaps _ c u hi (by rw [hlen']; exact hu)).mono G1.le)
      refine Calls.mono hcs fun e w' he => ?_
      obtain ⟨cv, E', C', rfl, hv1, U2, R2, G2⟩ := he
      exact hK cv w' E' C' hv1 ((U1.trans U2 hCS hR.nodummy).weaken pl) R2 (G1.trans G2)
    have hbase : LRel VRel E (args.toList.map (ev T)) (args.toList.map a.eval) := ⟨by simp, fun i c u hi hu => by
      simp only [List.getElem?_map] at hi hu
      cases h : args.toList[i]? with
      | none => simp [h] at hi
      | some x =>
        simp only [h, Option.map_some, Option.some.injEq] at hi hu
        subst hi; subst hu
        exact hx x (List.mem_of_getElem? h)⟩
    split at hc
    · exact fin _ S E C hbase hR (Go1.refl _ _) (Upd.refl _ _ _) rfl hc
    · split at hc
      · rename_i args' S1 hm
        obtain ⟨E1, r1, R1, G1, F1, K1⟩ := FStep.list (fun E E' x v h hx => hx.mono h) (frzV_sim (Y := Y) (w := w) 0) _ _ _ _ E C _ hm hR hA hbase
        exact fin args' S1 E1 _ r1 R1 G1 (Upd.updC (Kept3.flag K1)) F1.1 hc
      · cases hc

end
end Go.Proofs.XVai
