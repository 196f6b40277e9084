/- Rows that become immutable. -/
import Derived.Test.YtkcneecnniimdaaV4
namespace Go.Proofs.XVai
open Go
set_option linter.unusedVariables false
set_option linter.unusedSimpArgs false

def FlagLe (S S' : St) : Prop := S'.length = S.length ∧ ∀ (k : Nat), S'[k]? = S[k]? ∨ ∃ rows, S[k]? = some (.cells false rows) ∧ S'[k]? = some (.cells true rows)

theorem FlagLe.refl (S : St) : FlagLe S S := ⟨rfl, fun _ => .inl rfl⟩
theorem FlagLe.trans {A B C : St} (h : FlagLe A B) (k : FlagLe B C) : FlagLe A C := by
  refine ⟨k.1.trans h.1, fun j => ?_⟩
  rcases h.2 j with h1 | ⟨r, h1, h2⟩ <;> rcases k.2 j with k1 | ⟨r', k1, k2⟩
  · exact .inl (k1.trans h1)
  · exact .inr ⟨r', by rw [← h1]; exact k1, k2⟩
  · exact .inr ⟨r, h1, by rw [k1]; exact h2⟩
  · rw [h2] at k1; cases k1
theorem FlagLe.upd {A B D : St} (h : FlagLe A B) (k : FlagLe B D) (C : Nat → Option Ob) : updC (updC C A B) B D = updC C A D := by
  funext j
  simp only [Go.Proofs.XVai.updC]
  by_cases h1 : D[j]? = B[j]?
  · rw [if_pos h1, h1]
  · rw [if_neg h1]
    rcases k.2 j with k1 | ⟨r', k1, k2⟩
    · exact absurd k1 h1
    · rw [if_neg]
      intro h3
      rcases h.2 j with h2 | ⟨r, h2, h4⟩
      · exact h1 (h3.trans h2.symm)
      · rw [h4] at k1; cases k1
theorem FlagLe.agree {A B : St} {C : Nat → Option Ob} (h : FlagLe A B) (hA : ∀ k, AgreeAt C A k) : ∀ k, AgreeAt (updC C A B) B k := by
  intro k o ho
  simp only [Go.Proofs.XVai.updC] at ho
  split at ho
  · rename_i he
    rcases hA k o ho with h1 | h1
    · exact .inl (he.trans h1)
    · exact .inr (he.trans h1)
  · exact .inl ho

def FStep {α β : Type} (Y : Sys) (w : World) (R : Env → α → β → Prop) (f : α → St → Option (α × St)) : Prop :=
  ∀ (x x' : α) (S S' : St) (E : Env) (C : Nat → Option Ob) (v : β), f x S = some (x', S') → Rel Y E C w → (∀ k, AgreeAt C S k) → R E x v →
    ∃ E', R E' x' v ∧ Rel Y E' (updC C S S') w ∧ Go1 E w E' w ∧ FlagLe S S' ∧ ∀ (k : Nat), S'[k]? ≠ S[k]? → C k = S[k]?

def LRel {α β : Type} (R : Env → α → β → Prop) (E : Env) (xs : List α) (vs : List β) : Prop := xs.length = vs.length ∧ ∀ (i : Nat) (x : α) (v : β), xs[i]? = some x → vs[i]? = some v → R E x v

theorem FStep.list {α β : Type} {Y : Sys} {w : World} {R : Env → α → β → Prop} {f : α → St → Option (α × St)} (hm : ∀ E E' x v, Env.le E E' → R E x v → R E' x v) (h : FStep Y w R f) :
    FStep Y w (LRel R) (mapMS f) := by
  intro xs
  induction xs with
  | nil =>
    intro xs' S S' E C vs hf hR hA hr
    simp only [mapMS, Option.some.injEq, Prod.mk.injEq] at hf
    obtain ⟨rfl, rfl⟩ := hf
    exact ⟨E, hr, by rw [updC_same]; exact hR, Go1.refl _ _, FlagLe.refl _, fun k h => absurd rfl h⟩
  | cons x xs ih =>
    intro xs' S S' E C vs hf hR hA hr
    simp only [mapMS] at hf
    split at hf
    · rename_i y S1 h1
      split at hf
      · rename_i ys S2 h2
        simp only [Option.some.injEq, Prod.mk.injEq] at hf
        obtain ⟨rfl, rfl⟩ := hf
        cases vs with
        | nil => have := hr.1; simp at this
        | cons v vs =>
          obtain ⟨E1, r1, R1, g1, f1, c1⟩ := h x y S S1 E C v h1 hR hA (hr.2 0 _ _ rfl rfl)
          obtain ⟨E2, r2, R2, g2, f2, c2⟩ := ih ys S1 S2 E1 (updC C S S1) vs h2 R1 (f1.agree hA) ⟨by have := hr.1; simpa using this, fun i a b ha hb => hm _ _ _ _ g1.le (hr.2 (i + 1) a b (by simpa using ha) (by simpa using hb))⟩
          refine ⟨E2, ⟨by have := r2.1; simp [this], fun i a b ha hb => ?_⟩, by rw [← f1.upd f2]; exact R2, g1.trans g2, f1.trans f2, fun k hk => by
            by_cases he : S1[k]? = S[k]?
            · have := c2 k (by rw [he]; exact hk)
              simp only [Go.Proofs.XVai.updC, he, if_true] at this
              exact this
            · exact c1 k he⟩
          cases i with
          | zero => simp only [List.getElem?_cons_zero, Option.some.injEq] at ha hb; subst ha; subst hb; exact hm _ _ _ _ g2.le r1
          | succ i => exact r2.2 i a b (by simpa using ha) (by simpa using hb)
      · cases hf
    · cases hf

theorem mapMS_len {α β : Type} {f : α → St → Option (β × St)} : ∀ {xs : List α} {ys : List β} {S S' : St}, mapMS f xs S = some (ys, S') → ys.length = xs.length := by
  intro xs
  induction xs with
  | nil => intro ys S S' h; simp only [mapMS, Option.some.injEq, Prod.mk.injEq] at h; simp [← h.1]
  | cons x xs ih =>
    intro ys S S' h
    simp only [mapMS] at h
    split at h
    · split at h
      · rename_i h2
        simp only [Option.some.injEq, Prod.mk.injEq] at h
        rw [← h.1]; simp [ih h2]
      · cases h
    · cases h
theorem mapMS_get {α β : Type} {f : α → St → Option (β × St)} : ∀ {xs : List α} {ys : List β} {S S' : St}, mapMS f xs S = some (ys, S') → ∀ (i : Nat) (y : β), ys[i]? = some y → ∃ x S1 S2, xs[i]? = some x ∧ f x S1 = some (y, S2) := by
  intro xs
  induction xs with
  | nil => intro ys S S' h i y hy; simp only [mapMS, Option.some.injEq, Prod.mk.injEq] at h; rw [← h.1] at hy; simp at hy
  | cons x xs ih =>
    intro ys S S' h i y hy
    simp only [mapMS] at h
    split at h
    · rename_i y1 S1 h1
      split at h
      · rename_i h2
        simp only [Option.some.injEq, Prod.mk.injEq] at h
        rw [← h.1] at hy
        cases i with
        | zero => simp at hy; subst hy; exact ⟨x, _, _, rfl, h1⟩
        | succ i => obtain ⟨x', a, b, h3, h4⟩ := ih h2 i y (by simpa using hy); exact ⟨x', a, b, by simpa using h3, h4⟩
      · cases h
    · cases h

/-- All rows of an object become immutable memory. -/
theorem freeze_rel {Y : Sys} {E : Env} {C : Nat → Option Ob} {w : World} (hR : Rel Y E C w) {k n sz B cap : Nat} {fr : Bool} {rows : List (List HV)} {cs : Array Value} {ty : TypeId} (hC : C k = some (.cells fr rows))
    (hd : E.hd k rows.length = some (sz, some B, cap)) (hb : w.heap[B]? = some (.cells cs ty (0, 0))) :
    let E' : Env := { E with M := fun b o => if b = B ∧ o < rows.length * sz then cs[o]? else E.M b o }
    Rel Y E' (setC C k (.cells true rows)) w ∧ Go1 E w E' w := by
  intro E'
  have hcell : ∀ o, w.cell? ⟨B, o, none⟩ = cs[o]? := fun o => cell_of_row w B o cs ty _ hb
  have hle : E.le E' := by
    refine ⟨fun _ _ _ h => h, fun _ _ h => h, fun b o v h => ?_⟩
    show (if b = B ∧ o < rows.length * sz then cs[o]? else E.M b o) = some v
    split
    · rename_i h1; rw [← hcell, ← h1.1]; exact hR.mem _ _ _ h
    · exact h
  refine ⟨⟨?_, ?_, ?_, ?_, hR.inj, hR.injm, hR.hdm, hR.bound, ?_, ?_, setC_nd hR.nodummy k (by simp)⟩, ⟨hle, rfl, rfl, rfl, Nat.le_refl _, fun _ _ _ => rfl, fun b h => .inl h⟩⟩
  · intro k1 n1 h1 hh
    obtain ⟨fr1, rows1, h2, h3⟩ := hR.hdC k1 n1 h1 hh
    simp only [setC]
    by_cases hk : k1 = k
    · subst hk; rw [hC] at h2; cases h2; rw [if_pos rfl]; exact ⟨_, _, rfl, h3⟩
    · rw [if_neg hk]; exact ⟨_, _, h2, h3⟩
  · intro k1 r hr
    obtain ⟨es, h1⟩ := hR.mpC k1 r hr
    simp only [setC]
    by_cases hk : k1 = k
    · subst hk; rw [hC] at h1; cases h1
    · rw [if_neg hk]; exact ⟨_, h1⟩
  · intro k1 fr1 rows1 h1
    simp only [setC] at h1
    have hbase : ∀ fr0, C k1 = some (.cells fr0 rows1) → (k1 = k → fr1 = true) → (k1 ≠ k → fr0 = fr1) → ∃ sz base cap, E'.hd k1 rows1.length = some (sz, base, cap) ∧ rows1.length ≤ cap ∧ (∀ r ∈ rows1, r.length = sz) ∧
      (rows1 = [] → cap = 0) ∧ (base = none → cap = 0) ∧ ∀ B, base = some B → ∃ cs ty, w.heap[B]? = some (.cells cs ty (0, 0)) ∧ cs.size = cap * sz ∧
      (∀ (i j : Nat) (r : List HV) (c : HV), rows1[i]? = some r → r[j]? = some c → ∃ v, cs[i * sz + j]? = some v ∧ VRel E' c v) ∧
      (∀ o v, E'.M B o = some v → fr1 = true ∧ o < rows1.length * sz) := by
      intro fr0 h2 hf1 hf2
      obtain ⟨sz1, b1, c1, g1, g2, g3, g4, g5, g6⟩ := hR.cells _ _ _ h2
      refine ⟨sz1, b1, c1, g1, g2, g3, g4, g5, fun B1 hB1 => ?_⟩
      obtain ⟨cs1, ty1, e1, e2, e3, e4⟩ := g6 B1 hB1
      refine ⟨cs1, ty1, e1, e2, fun i j r c hi hj => ?_, fun o v hv => ?_⟩
      · obtain ⟨v, hv, hr⟩ := e3 i j r c hi hj; exact ⟨v, hv, hr.mono hle⟩
      · replace hv : (if B1 = B ∧ o < rows.length * sz then cs[o]? else E.M B1 o) = some v := hv
        split at hv
        · rename_i h5
          subst hB1
          have hkk : k1 = k := hR.inj _ _ _ _ _ _ _ _ _ g1 (h5.1 ▸ hd)
          refine ⟨hf1 hkk, ?_⟩
          subst hkk
          rw [hC] at h2; cases h2
          rw [hd] at g1; cases g1
          exact h5.2
        · obtain ⟨h6, h7⟩ := e4 o v hv
          by_cases hk : k1 = k
          · exact ⟨hf1 hk, h7⟩
          · exact ⟨by rw [← hf2 hk]; exact h6, h7⟩
    by_cases hk : k1 = k
    · subst hk; rw [if_pos rfl] at h1; cases h1; exact hbase _ hC (fun _ => rfl) (fun h => absurd rfl h)
    · rw [if_neg hk] at h1; exact hbase _ h1 (fun h => absurd h hk) (fun _ => rfl)
  · intro k1 es h1
    simp only [setC] at h1
    by_cases hk : k1 = k
    · rw [if_pos hk] at h1; cases h1
    · rw [if_neg hk] at h1
      obtain ⟨r, en, cl, g1, g2, g3, g4⟩ := hR.maps _ _ h1
      exact ⟨r, en, cl, g1, g2, g3, fun i e m he hm => ⟨((g4 i e m he hm).1).mono hle, ((g4 i e m he hm).2).mono hle⟩⟩
  · intro b o v hv
    replace hv : (if b = B ∧ o < rows.length * sz then cs[o]? else E.M b o) = some v := hv
    split at hv
    · rename_i h1; rw [h1.1, hcell]; exact hv
    · exact hR.mem _ _ _ hv
  · intro g row hg
    obtain ⟨h1, f, h2⟩ := hR.glob g row hg
    exact ⟨h1, f, fun j c hj => ⟨hle.M _ _ _ (h2 j c hj).1, ((h2 j c hj).2).mono hle⟩⟩

theorem setC_self {C : Nat → Option Ob} {k : Nat} {o : Ob} (h : C k = some o) : setC C k o = C := by
  funext j; simp only [setC]; split
  · rename_i hj; rw [hj, h]
  · rfl

theorem frzC_sim {Y : Sys} {w : World} (n0 : Nat) : ∀ d, FStep Y w VRel (frzC n0 d) := by
  intro d
  induction d with
  | zero =>
    intro x x' S S' E C v hf hR hA hr
    cases x <;> simp only [frzC, Option.some.injEq, Prod.mk.injEq] at hf
    case sl k n =>
      split at hf
      · simp only [Option.some.injEq, Prod.mk.injEq] at hf
        obtain ⟨rfl, rfl⟩ := hf
        exact ⟨E, hr, by rw [updC_same]; exact hR, Go1.refl _ _, FlagLe.refl _, fun k h => absurd rfl h⟩
      · cases hf
    case nils =>
      obtain ⟨rfl, rfl⟩ := hf
      cases hr with
      | nils b => exact ⟨E, .lst0 b 0, by rw [updC_same]; exact hR, Go1.refl _ _, FlagLe.refl _, fun k h => absurd rfl h⟩
    all_goals
      obtain ⟨rfl, rfl⟩ := hf
      exact ⟨E, hr, by rw [updC_same]; exact hR, Go1.refl _ _, FlagLe.refl _, fun k h => absurd rfl h⟩
  | succ d ih =>
    intro x x' S S' E C v hf hR hA hr
    cases x <;> simp only [frzC, Option.some.injEq, Prod.mk.injEq] at hf
    case sl k n =>
      split at hf
      · simp only [Option.some.injEq, Prod.mk.injEq] at hf
        obtain ⟨rfl, rfl⟩ := hf
        exact ⟨E, hr, by rw [updC_same]; exact hR, Go1.refl _ _, FlagLe.refl _, fun k h => absurd rfl h⟩
      · split at hf
        · rename_i fr rows hS
          split at hf
          · rename_i hn
            split at hf
            · rename_i rows' S1 hm
              split at hf
              · rename_i hp
                simp only [Option.some.injEq, Prod.mk.injEq] at hf
                obtain ⟨rfl, rfl⟩ := hf
                subst hn
                cases hr with
                | sl k n sz base cap hd hc =>
                  obtain ⟨fr0, rows0, hC0, _⟩ := hR.hdC _ _ _ hd
                  have hC : C k = some (.cells fr rows) := by
                    rcases hA k _ hC0 with h1 | h1 <;> rw [hS] at h1 <;> cases h1
                    exact hC0
                  obtain ⟨sz', base', cap', h1, h2, h3, h4, h5, h6⟩ := hR.cells _ _ _ hC
                  rw [hd] at h1
                  simp only [Option.some.injEq, Prod.mk.injEq] at h1
                  obtain ⟨rfl, rfl, rfl⟩ := h1
                  cases rows with
                  | nil =>
                    simp only [mapMS, Option.some.injEq, Prod.mk.injEq] at hm
                    obtain ⟨rfl, rfl⟩ := hm
                    -- no rows
                    by_cases hfr : fr = true
                    · subst hfr
                      simp only [if_true]
                      exact ⟨E, .lst0 _ _, by rw [updC_same]; exact hR, Go1.refl _ _, FlagLe.refl _, fun k h => absurd rfl h⟩
                    · have hfr' : fr = false := by cases fr <;> simp_all
                      subst hfr'
                      simp only [Bool.false_eq_true, if_false]
                      have hC' : updC C S (S.set k (.cells true [])) = setC C k (.cells true []) := updC_set hS (.inl hC)
                      have key : Rel Y E (setC C k (.cells true [])) w := by
                        cases base with
                        | some B =>
                          obtain ⟨cs, ty, g1, g2, g3, g4⟩ := h6 B rfl
                          have := freeze_rel (n := 0) hR hC hd g1
                          have e0 : ({ E with M := fun b o => if b = B ∧ o < ([] : List (List HV)).length * sz then cs[o]? else E.M b o } : Env) = E := by
                            cases E; simp
                          simp only [e0] at this
                          exact this.1
                        | none =>
                          have hz0 : ∀ (x : List HV), x ∈ ([] : List (List HV)) → x.length = sz := by simp
                          have hp := hR.putCells k true [] sz none cap (.inr ⟨_, _, hC, Nat.le_refl _, fun _ => hd⟩) rfl rfl rfl (Nat.le_refl _) (fun _ _ _ => rfl) (fun B hB => by cases hB) h2 hz0 h4 h5 (fun B hB => by cases hB)
                          have e0 : setHd E k ([] : List (List HV)).length (sz, none, cap) = E := by
                            cases E with
                            | mk hd' mp' M' =>
                              simp only [setHd, Env.mk.injEq, and_true]
                              funext a b
                              split
                              · rename_i h7; rw [h7.1, h7.2]; exact hd.symm
                              · rfl
                          rw [e0] at hp
                          exact hp.1
                      rw [hC']
                      refine ⟨E, .lst0 _ _, key, Go1.refl _ _, ⟨by simp, fun j => ?_⟩, fun j hj => ?_⟩
                      · by_cases hj : j = k
                        · subst hj; right; exact ⟨[], hS, by rw [List.getElem?_set_self (List.getElem?_eq_some_iff.1 hS).1]⟩
                        · left; rw [List.getElem?_set_ne (Ne.symm hj)]
                      · by_cases hjk : j = k
                        · subst hjk; rw [hC, hS]
                        · rw [List.getElem?_set_ne (Ne.symm hjk)] at hj; exact absurd rfl hj
                  | cons r0 rest =>
                    have hne : base ≠ none := fun h => by have := h5 h; simp at h2; omega
                    obtain ⟨B, rfl⟩ := Option.ne_none_iff_exists'.1 hne
                    obtain ⟨cs, ty, g1, g2, g3, g4⟩ := h6 B rfl
                    -- the values of the rows
                    let vss : List (List Value) := (List.range (r0 :: rest).length).map fun i => (List.range sz).map fun j => (cs[i * sz + j]?).getD undef
                    have hv : LRel (LRel VRel) E (r0 :: rest) vss := by
                      refine ⟨by simp [vss], fun i r vs hi hvs => ?_⟩
                      have hi' : i < (r0 :: rest).length := (List.getElem?_eq_some_iff.1 hi).1
                      simp only [vss, List.getElem?_map, List.getElem?_range hi', Option.map_some, Option.some.injEq] at hvs
                      subst hvs
                      refine ⟨by simp [h3 r (List.mem_of_getElem? hi)], fun j c v hj hvj => ?_⟩
                      have hj' : j < sz := by
                        have := (List.getElem?_eq_some_iff.1 hj).1
                        rw [h3 r (List.mem_of_getElem? hi)] at this; exact this
                      simp only [List.getElem?_map, List.getElem?_range hj', Option.map_some, Option.some.injEq] at hvj
                      obtain ⟨u, hu, hr⟩ := g3 i j r c hi hj
                      rw [hu] at hvj; simp at hvj; subst hvj; exact hr
                    have hstep : FStep Y w (LRel (LRel VRel)) (mapMS (mapMS (frzC n0 d))) :=
                      FStep.list (fun E E' x v h hx => ⟨hx.1, fun i a b ha hb => (hx.2 i a b ha hb).mono h⟩) (FStep.list (fun E E' x v h hx => hx.mono h) ih)
                    obtain ⟨E1, r1, R1, G1, F1, K1⟩ := hstep _ _ _ _ E C vss hm hR hA hv
                    have hS1 : ∃ fr1, S1[k]? = some (.cells fr1 (r0 :: rest)) ∧ (fr = true → fr1 = true) := by
                      rcases F1.2 k with h7 | ⟨rr, h7, h8⟩
                      · exact ⟨fr, h7.trans hS, fun h => h⟩
                      · rw [hS] at h7; cases h7; exact ⟨true, h8, fun _ => rfl⟩
                    obtain ⟨fr1, hS1, hfr1⟩ := hS1
                    have hC1 : updC C S S1 k = some (.cells fr1 (r0 :: rest)) := by
                      simp only [updC]
                      split
                      · rename_i h7; rw [hC]; rw [hS1, hS] at h7; exact h7.symm
                      · exact hS1
                    have hd1 := G1.le.hd _ _ _ hd
                    have fz := freeze_rel (n := 0) R1 hC1 hd1 g1
                    simp only at fz
                    have hlen' := mapMS_len hm
                    have hrl : ∀ r ∈ rows', r.length = sz := by
                      intro r hr
                      obtain ⟨i, hi⟩ := List.getElem?_of_mem hr
                      obtain ⟨x, a, b, hx1, hx2⟩ := mapMS_get hm i r hi
                      rw [mapMS_len hx2]; exact h3 x (List.mem_of_getElem? hx1)
                    have hpp : ∀ r ∈ rows', ∀ c ∈ r, pureC c = true := fun r hr c hc => List.all_eq_true.1 (List.all_eq_true.1 hp r hr) c hc
                    have hvv : ∀ (i j : Nat) (r : List HV) (c : HV), rows'[i]? = some r → r[j]? = some c → cs[i * sz + j]? = some ((cs[i * sz + j]?).getD undef) ∧ i * sz + j < (r0 :: rest).length * sz ∧ VRel E1 c ((cs[i * sz + j]?).getD undef) := by
                      intro i j r c hi hj
                      have hi' : i < (r0 :: rest).length := by rw [← hlen']; exact (List.getElem?_eq_some_iff.1 hi).1
                      have hj' : j < sz := by
                        have := (List.getElem?_eq_some_iff.1 hj).1
                        rw [hrl r (List.mem_of_getElem? hi)] at this; exact this
                      have hvs : vss[i]? = some ((List.range sz).map fun j => (cs[i * sz + j]?).getD undef) := by
                        simp only [vss, List.getElem?_map, List.getElem?_range hi', Option.map_some]
                      have h8 := (r1.2 i r _ hi hvs).2 j c ((cs[i * sz + j]?).getD undef) hj (by simp only [List.getElem?_map, List.getElem?_range hj', Option.map_some])
                      have hlt : i * sz + j < (r0 :: rest).length * sz := by
                        have : i * sz + sz ≤ (r0 :: rest).length * sz := by rw [← Nat.succ_mul]; exact Nat.mul_le_mul_right _ hi'
                        omega
                      have hlt2 : i * sz + j < cs.size := by
                        rw [g2]; exact Nat.lt_of_lt_of_le hlt (Nat.mul_le_mul_right _ h2)
                      exact ⟨by rw [Array.getElem?_eq_getElem hlt2]; rfl, hlt, h8⟩
                    have hVfin : ∀ E2 : Env, E1.le E2 → (∀ o, o < (r0 :: rest).length * sz → E2.M B o = cs[o]?) → VRel E2 (.lst rows') (.slice (some ⟨B, 0, none⟩) (r0 :: rest).length cap) := by
                      intro E2 hle2 hM2
                      rw [← hlen']
                      refine .lst rows' B 0 cap sz (fun h => by rw [h] at hlen'; simp at hlen') (by rw [hlen']; exact h2) hrl hpp (fun i j => (cs[i * sz + j]?).getD undef) (fun i j r c hi hj => ?_) (fun i j r c hi hj => ?_)
                      · rw [Nat.zero_add, hM2 _ (hvv i j r c hi hj).2.1]; exact (hvv i j r c hi hj).1
                      · exact ((hvv i j r c hi hj).2.2).mono hle2
                    by_cases hfr : fr = true
                    · subst hfr
                      have hf1 : fr1 = true := hfr1 rfl
                      subst hf1
                      simp only [if_true]
                      rw [setC_self hC1] at fz
                      refine ⟨_, hVfin _ fz.2.le (fun o ho => ?_), fz.1, G1.trans fz.2, F1, K1⟩
                      exact if_pos ⟨rfl, ho⟩
                    · have hfr' : fr = false := by cases fr <;> simp_all
                      subst hfr'
                      simp only [Bool.false_eq_true, if_false]
                      have hF2 : FlagLe S1 (S1.set k (.cells true (r0 :: rest))) := by
                        refine ⟨by simp, fun j => ?_⟩
                        by_cases hj : j = k
                        · subst hj
                          rw [List.getElem?_set_self (List.getElem?_eq_some_iff.1 hS1).1]
                          cases fr1
                          · right; exact ⟨_, hS1, rfl⟩
                          · left; exact hS1.symm
                        · left; rw [List.getElem?_set_ne (Ne.symm hj)]
                      have hC2 : updC (updC C S S1) S1 (S1.set k (.cells true (r0 :: rest))) = setC (updC C S S1) k (.cells true (r0 :: rest)) := updC_set hS1 (.inl hC1)
                      refine ⟨_, hVfin _ fz.2.le (fun o ho => ?_), ?_, G1.trans fz.2, F1.trans hF2, fun j hj => ?_⟩
                      · exact if_pos ⟨rfl, ho⟩
                      · rw [← F1.upd hF2, hC2]; exact fz.1
                      · by_cases hjk : j = k
                        · subst hjk; rw [hC, hS]
                        · rw [List.getElem?_set_ne (Ne.symm hjk)] at hj; exact K1 j hj
              · cases hf
            · cases hf
          · cases hf
        · cases hf
    case nils =>
      obtain ⟨rfl, rfl⟩ := hf
      cases hr with
      | nils b => exact ⟨E, .lst0 b 0, by rw [updC_same]; exact hR, Go1.refl _ _, FlagLe.refl _, fun k h => absurd rfl h⟩
    all_goals
      obtain ⟨rfl, rfl⟩ := hf
      exact ⟨E, hr, by rw [updC_same]; exact hR, Go1.refl _ _, FlagLe.refl _, fun k h => absurd rfl h⟩

theorem frzV_sim {Y : Sys} {w : World} (n0 : Nat) : FStep Y w VRel (frzV n0) := by
  intro x x' S S' E C v hf hR hA hr
  cases x
  case agg cs =>
    simp only [frzV] at hf
    split at hf
    · rename_i cs' S1 h1
      simp only [Option.some.injEq, Prod.mk.injEq] at hf
      obtain ⟨rfl, rfl⟩ := hf
      cases hr with
      | agg cs vs hl h =>
        obtain ⟨E1, r1, R1, G1, F1, K1⟩ := FStep.list (fun E E' x v h hx => hx.mono h) (frzC_sim (Y := Y) (w := w) n0 6) cs cs' S S1 E C vs.toList h1 hR hA ⟨by simpa using hl, fun i a b ha hb => h i a b ha (by simpa using hb)⟩
        exact ⟨E1, .agg _ _ (by simpa using r1.1) (fun i a b ha hb => r1.2 i a b ha (by simpa using hb)), R1, G1, F1, K1⟩
    · cases hf
  all_goals exact frzC_sim n0 6 _ _ _ _ E C v (by simpa only [frzV] using hf) hR hA hr

theorem frzR_sim {Y : Sys} {w : World} (n0 : Nat) : FStep Y w VRel (frzR n0) := by
  intro x x' S S' E C v hf hR hA hr
  cases x
  case tup cs =>
    simp only [frzR] at hf
    split at hf
    · rename_i cs' S1 h1
      simp only [Option.some.injEq, Prod.mk.injEq] at hf
      obtain ⟨rfl, rfl⟩ := hf
      cases hr with
      | tup cs vs hl h =>
        obtain ⟨E1, r1, R1, G1, F1, K1⟩ := FStep.list (fun E E' x v h hx => hx.mono h) (frzV_sim (Y := Y) (w := w) n0) cs cs' S S1 E C vs.toList h1 hR hA ⟨by simpa using hl, fun i a b ha hb => h i a b ha (by simpa using hb)⟩
        exact ⟨E1, .tup _ _ (by simpa using r1.1) (fun i a b ha hb => r1.2 i a b ha (by simpa using hb)), R1, G1, F1, K1⟩
    · cases hf
  all_goals exact frzV_sim n0 _ _ _ _ E C v (by simpa only [frzR] using hf) hR hA hr

end Go.Proofs.XVai
