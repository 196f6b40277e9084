/- Each operation on the canonical machine is met by the model's. -/
import Derived.Test.YtkcneecnniimdaaV5
namespace Go.Proofs.XVai
open Go
set_option linter.unusedVariables false
set_option linter.unusedSimpArgs false

/-- Old objects that change are known, but for the new one. -/
def Kept3 (C : Nat → Option Ob) (S S' : St) (pl : Option Nat) : Prop := ∀ k, k < S.length → S'[k]? ≠ S[k]? → some k ≠ pl → C k = S[k]? ∧ (C k).isSome = true

theorem Kept3.same (C : Nat → Option Ob) (S : St) (pl : Option Nat) : Kept3 C S S pl := fun _ _ h => absurd rfl h
theorem Kept3.new (C : Nat → Option Ob) (S : St) (pl : Option Nat) (o : Ob) : Kept3 C S (newOb pl S o).2 pl := by
  intro k hk h hp
  cases pl with
  | none => exact absurd (List.getElem?_append_left hk) h
  | some s => exact absurd (List.getElem?_set_ne (fun e => hp (by rw [e]))) h
theorem Kept3.set {C : Nat → Option Ob} {S : St} {pl : Option Nat} {k : Nat} {old : Ob} (o : Ob) (hC : C k = some old) (hS : S[k]? = some old) : Kept3 C S (S.set k o) pl := by
  intro j hj h hp
  by_cases e : j = k
  · subst e; rw [hC, hS]; exact ⟨rfl, rfl⟩
  · exact absurd (List.getElem?_set_ne (Ne.symm e)) h
theorem Kept3.flag {C : Nat → Option Ob} {S S' : St} {pl : Option Nat} (h : ∀ (k : Nat), S'[k]? ≠ S[k]? → C k = S[k]?) : Kept3 C S S' pl := fun k hk hne _ =>
  ⟨h k hne, by rw [h k hne, List.getElem?_eq_getElem hk]; rfl⟩
theorem Kept3.ext {C : Nat → Option Ob} {S S' : St} {pl : Option Nat} (h : ∀ k, k < S.length → S'[k]? = S[k]?) : Kept3 C S S' pl := fun k hk hne => absurd (h k hk) hne

def Sim (P : Program) (Y : Sys) (E : Env) (C : Nat → Option Ob) (w : World) (S S' : St) (pl : Option Nat) (o : Oper) (ρ : Operand → Value) (hv : HV) : Prop :=
  ∃ v w' E', ((execOp ρ o).run P w = .ok (.value v) w' ∨ ((execOp ρ o).run P w = .ok .skip w' ∧ v = undef)) ∧ VRel E' hv v ∧ Rel Y E' (updC C S S') w' ∧ Go1 E w E' w' ∧ Kept3 C S S' pl

theorem Sim.same {P : Program} {Y : Sys} {E : Env} {C : Nat → Option Ob} {w : World} {S : St} {pl : Option Nat} {o : Oper} {ρ : Operand → Value} {hv : HV} {v : Value} (hR : Rel Y E C w)
    (h : (execOp ρ o).run P w = .ok (.value v) w) (hx : VRel E hv v) : Sim P Y E C w S S pl o ρ hv :=
  ⟨v, w, E, .inl h, hx, by rw [updC_same]; exact hR, Go1.refl _ _, Kept3.same _ _ _⟩

/-- The state that agrees with what is related. -/
def listOf (C : Nat → Option Ob) (n : Nat) : St := (List.range n).map fun k => (C k).getD .dummy
theorem listOf_agree {C : Nat → Option Ob} {n : Nat} (h : ∀ k, n ≤ k → C k = none) : ∀ k, AgreeAt C (listOf C n) k := by
  intro k o ho
  rcases Nat.lt_or_ge k n with hk | hk
  · left; simp [listOf, List.getElem?_range hk, ho]
  · rw [h k hk] at ho; cases ho
theorem listOf_get {C : Nat → Option Ob} {n k : Nat} {o : Ob} (hk : k < n) (ho : C k = some o) : (listOf C n)[k]? = some o := by
  simp [listOf, List.getElem?_range hk, ho]

theorem frzC_pure {n0 d : Nat} {c : HV} {S : St} (h : pureC c = true) : frzC n0 d c S = some (c, S) := by
  cases c <;> simp [pureC] at h <;> cases d <;> simp [frzC]
theorem frzC_quiet {n0 d : Nat} {c : HV} (h : pureC c = true ∨ c = .nils) : ∃ c', ∀ S, frzC n0 d c S = some (c', S) := by
  rcases h with h | rfl
  · exact ⟨c, fun S => frzC_pure h⟩
  · exact ⟨.lst [], fun S => by cases d <;> simp [frzC]⟩
theorem mapMS_quiet {α : Type} {f : α → St → Option (α × St)} {xs : List α} (h : ∀ x ∈ xs, ∃ x', ∀ S, f x S = some (x', S)) : ∃ xs', ∀ S, mapMS f xs S = some (xs', S) := by
  induction xs with
  | nil => exact ⟨[], fun S => rfl⟩
  | cons x xs ih =>
    obtain ⟨x', hx⟩ := h x (by simp)
    obtain ⟨xs', hxs⟩ := ih fun y hy => h y (by simp [hy])
    exact ⟨x' :: xs', fun S => by simp [mapMS, hx, hxs]⟩

section
variable {P : Program} {Y : Sys} {E : Env} {C : Nat → Option Ob} {w : World}

theorem sim_alloc (hY : SysOk Y P) (hR : Rel Y E C w) {S : St} {pl : Option Nat} (hN : NewOk C S pl) {t : Nat} {ti : TI} (ht : Y.tab t = some ti) {o : Oper} (ho : o.op = .alloc t) (ρ : Operand → Value) :
    Sim P Y E C w S (newOb pl S (.cells false [ti.zero])).2 pl o ρ (.ptr (newOb pl S (.cells false [ti.zero])).1 1 0 0) := by
  have hT := hY.tab _ _ ht
  obtain ⟨z, hz, hok, hzero, hsz⟩ := hT.run_zero w
  have hlen := hT.zlen
  obtain ⟨R1, G1⟩ := alloc_rel hR (newOb_k hN _) false [ti.zero] ti.size z.cells t (by simp [hlen]) (by simp [hsz]) (fun i j r c hi hj => by
    cases i with
    | zero =>
      simp at hi; subst hi
      have hj' : j < z.cells.size := by rw [hsz, ← hlen]; exact (List.getElem?_eq_some_iff.1 hj).1
      refine ⟨z.cells[j], by simp [hj'], (zero_rel (E := E) hok).2 j c _ (by rw [← hzero]; exact hj) (by simp [hj'])⟩
    | succ i => simp at hi)
  refine ⟨.pointer (some ⟨w.heap.size, 0, none⟩), _, _, .inl ?_, ?_, by rw [newOb_C hN (by simp)]; exact R1, G1, Kept3.new _ _ _ _⟩
  · unfold execOp
    simp only [ho, Instr.alloc, newVar, newRow, Sem.run_bind, hz, Result.andThen_ok, run_newObj, Sem.run_pure]
  · have := VRel.ptr (E := setHd E (newOb pl S (Ob.cells false [ti.zero])).1 [ti.zero].length (ti.size, some w.heap.size, [ti.zero].length)) (newOb pl S (.cells false [ti.zero])).1 1 0 0 ti.size w.heap.size 1 (by simp [setHd])
    simpa using this

theorem sim_box (hR : Rel Y E C w) {S : St} {pl : Option Nat} (hN : NewOk C S pl) {t : Nat} {x : Operand} {c : HV} {o : Oper} (ho : o.op = .box t x) (ρ : Operand → Value) (hx : VRel E c (ρ x)) :
    Sim P Y E C w S (newOb pl S (.cells false [c.cells])).2 pl o ρ (.ptr (newOb pl S (.cells false [c.cells])).1 1 0 0) := by
  have hc := cells_of hx
  obtain ⟨R1, G1⟩ := alloc_rel hR (newOb_k hN _) false [c.cells] c.cells.length (ρ x).cells t (by simp) (by simp [hc.1]) (fun i j r d hi hj => by
    cases i with
    | zero =>
      simp at hi; subst hi
      have hj' : j < (ρ x).cells.size := by rw [← hc.1]; exact (List.getElem?_eq_some_iff.1 hj).1
      exact ⟨(ρ x).cells[j], by simp [hj'], hc.2 j d _ hj (by simp [hj'])⟩
    | succ i => simp at hi)
  refine ⟨.pointer (some ⟨w.heap.size, 0, none⟩), _, _, .inl ?_, ?_, by rw [newOb_C hN (by simp)]; exact R1, G1, Kept3.new _ _ _ _⟩
  · unfold execOp
    simp only [ho, Instr.box, newVar, newRow, Sem.run_bind, Result.andThen_ok, run_newObj, Sem.run_pure]
  · have := VRel.ptr (E := setHd E (newOb pl S (Ob.cells false [c.cells])).1 [c.cells].length (c.cells.length, some w.heap.size, [c.cells].length)) (newOb pl S (.cells false [c.cells])).1 1 0 0 c.cells.length w.heap.size 1 (by simp [setHd])
    simpa using this

theorem promote_sim (fl : Nat → Bool) : ∀ (vs : List Value) (j : Nat) (S S' : St) (E : Env) (C : Nat → Option Ob) (row' : List HV), vs.all okCell = true → promote fl j (vs.map ofCell) S = (row', S') → Rel Y E C w →
    (∀ k, S.length ≤ k → C k = none) → ∃ E', Rel Y E' (updC C S S') w ∧ Go1 E w E' w ∧ (∀ k, S'.length ≤ k → updC C S S' k = none) ∧ S.length ≤ S'.length ∧ (∀ k, k < S.length → S'[k]? = S[k]?) ∧ LRel VRel E' row' vs := by
  intro vs
  induction vs with
  | nil =>
    intro j S S' E C row' _ hp hR hN
    simp only [List.map_nil, promote, Prod.mk.injEq] at hp
    obtain ⟨rfl, rfl⟩ := hp
    exact ⟨E, by rw [updC_same]; exact hR, Go1.refl _ _, by rw [updC_same]; exact hN, Nat.le_refl _, fun _ _ => rfl, rfl, by simp⟩
  | cons v vs ih =>
    intro j S S' E C row' hok hp hR hN
    have hv : okCell v = true := by simp at hok; exact hok.1
    have hvs : vs.all okCell = true := by simp at hok; simpa using hok.2
    by_cases hn : ofCell v = .nils
    · have hval : v = .slice none 0 0 := by
        unfold okCell at hv
        split at hv <;> first | (cases hv; done) | (simp [ofCell] at hn; done) | rfl
      simp only [List.map_cons, hn, promote] at hp
      generalize hq : promote fl (j + 1) (vs.map ofCell) (S ++ [.cells (!fl j) []]) = q at hp
      obtain ⟨cs', S2⟩ := q
      simp only [Prod.mk.injEq] at hp
      obtain ⟨rfl, rfl⟩ := hp
      obtain ⟨R1, G1⟩ := ghost_rel hR (hN S.length (Nat.le_refl _)) (!fl j)
      have hN1 : ∀ k, (S ++ [Ob.cells (!fl j) []]).length ≤ k → setC C S.length (.cells (!fl j) []) k = none := by
        intro k hk
        simp at hk
        simp only [setC]
        rw [if_neg (by omega)]
        exact hN k (by omega)
      obtain ⟨E', R2, G2, N2, L2, K2, V2⟩ := ih (j + 1) _ _ _ _ _ hvs hq R1 hN1
      have hcomp : updC (setC C S.length (.cells (!fl j) [])) (S ++ [.cells (!fl j) []]) S2 = updC C S S2 := by
        funext k
        simp only [updC, setC]
        have hlen : (S ++ [Ob.cells (!fl j) []]).length = S.length + 1 := by simp
        rcases Nat.lt_trichotomy k S.length with hk | hk | hk
        · have h1 : S2[k]? = S[k]? := by rw [K2 k (by omega), List.getElem?_append_left hk]
          have h2 : (S ++ [Ob.cells (!fl j) []])[k]? = S[k]? := List.getElem?_append_left hk
          rw [if_neg (show ¬ k = S.length by omega), h1, h2, if_pos rfl]
        · subst hk
          rw [K2 S.length (by omega)]
          simp
        · have h2 : (S ++ [Ob.cells (!fl j) []])[k]? = none := List.getElem?_eq_none (by omega)
          have h3 : S[k]? = none := List.getElem?_eq_none (by omega)
          rw [if_neg (show ¬ k = S.length by omega), h2, h3]
      rw [hcomp] at R2 N2
      refine ⟨E', R2, G1.trans G2, N2, by simp at L2; omega, fun k hk => by rw [K2 k (by rw [List.length_append]; omega), List.getElem?_append_left hk], by have := V2.1; simp [this], fun i a b ha hb => ?_⟩
      cases i with
      | zero =>
        simp only [List.getElem?_cons_zero, Option.some.injEq] at ha hb
        subst ha; subst hb; subst hval
        exact .sl S.length 0 0 none 0 (G2.le.hd _ _ _ (by simp [setHd])) (Nat.le_refl _)
      | succ i => exact V2.2 i a b (by simpa using ha) (by simpa using hb)
    · have hstep : promote fl j (ofCell v :: vs.map ofCell) S = ((ofCell v :: (promote fl (j + 1) (vs.map ofCell) S).1), (promote fl (j + 1) (vs.map ofCell) S).2) := by
        cases hc : ofCell v <;> first | (exact absurd hc hn) | (simp [promote])
      rw [List.map_cons, hstep] at hp
      simp only [Prod.mk.injEq] at hp
      obtain ⟨rfl, rfl⟩ := hp
      obtain ⟨E', R2, G2, N2, L2, K2, V2⟩ := ih (j + 1) S _ E C _ hvs rfl hR hN
      refine ⟨E', R2, G2, N2, L2, K2, by have := V2.1; simp [this], fun i a b ha hb => ?_⟩
      cases i with
      | zero =>
        simp only [List.getElem?_cons_zero, Option.some.injEq] at ha hb
        subst ha; subst hb
        exact okCell_rel hv
      | succ i => exact V2.2 i a b (by simpa using ha) (by simpa using hb)

theorem zrow_sim (hY : SysOk Y P) {t : Nat} {ti : TI} (ht : Y.tab t = some ti) (fl : Nat → Bool) {pr : Bool} {S S1 : St} {row : List HV} (hR : Rel Y E C w) (hpr : pr = true → ∀ k, S.length ≤ k → C k = none)
    (hz : zrow fl pr ti.zero S = (row, S1)) : ∃ E' z, (∀ w, (zeroValue t).run P w = .ok z w) ∧ z.cells.size = ti.size ∧ Rel Y E' (updC C S S1) w ∧ Go1 E w E' w ∧ CellsRel E' row z.cells ∧ (∀ k, k < S.length → S1[k]? = S[k]?) := by
  have hT := hY.tab _ _ ht
  obtain ⟨i, z, h1, h2, _, h4, hok, hzero, hsz, _⟩ := hT.info
  have hzv : ∀ w, (zeroValue t).run P w = .ok z w := fun w => by simp [zeroValue, typeInfo, h1, h4]
  unfold zrow at hz
  cases pr with
  | false =>
    simp only [Bool.false_eq_true, if_false, Prod.mk.injEq] at hz
    obtain ⟨rfl, rfl⟩ := hz
    exact ⟨E, z, hzv, hsz, by rw [updC_same]; exact hR, Go1.refl _ _, by rw [hzero]; exact zero_rel hok, fun _ _ => rfl⟩
  | true =>
    simp only [if_true] at hz
    rw [hzero] at hz
    obtain ⟨E', R2, G2, _, _, K2, V2⟩ := promote_sim (Y := Y) (w := w) fl z.cells.toList 0 S S1 E C row hok hz hR (hpr rfl)
    exact ⟨E', z, hzv, hsz, R2, G2, ⟨by simpa using V2.1, fun j c v h1 h2 => V2.2 j c v h1 (by simpa using h2)⟩, K2⟩

theorem parts_rel {T : Tm} {ρ : Operand → Value} {parts : Array (Nat × Operand)} (hx : ∀ p ∈ parts.toList, VRel E (ev T p.2) (ρ p.2)) :
    (parts.toList.map fun (i, x) => (i, ev T x)).length = (parts.map fun (i, x) => (i, ρ x)).toList.length ∧
    ∀ (j : Nat) (p : Nat × HV) (q : Nat × Value), (parts.toList.map fun (i, x) => (i, ev T x))[j]? = some p → (parts.map fun (i, x) => (i, ρ x)).toList[j]? = some q → p.1 = q.1 ∧ VRel E p.2 q.2 := by
  refine ⟨by simp, fun j p q h1 h2 => ?_⟩
  simp only [Array.toList_map, List.getElem?_map] at h1 h2
  cases h : parts.toList[j]? with
  | none => simp [h] at h1
  | some a =>
    obtain ⟨i, x⟩ := a
    simp only [h, Option.map_some, Option.some.injEq] at h1 h2
    subst h1; subst h2
    exact ⟨rfl, hx (i, x) (List.mem_of_getElem? h)⟩

theorem run_mapM_fields (P : Program) (w : World) (f : Field → Option Nat) : ∀ (l : List Field), (∀ x ∈ l, ∃ j, P.info? x.type = some j ∧ f x = some j.size) →
    (l.mapM (fun x => (do pure (x.offset, ← sizeOf x.type) : Sem (Nat × Nat)))).run P w = .ok (l.map fun x => (x.offset, (f x).getD 0)) w := by
  intro l
  induction l with
  | nil => intro _; rfl
  | cons x l ih =>
    intro h
    obtain ⟨j, hj, hf⟩ := h x (by simp)
    have hs : (sizeOf x.type).run P w = .ok j.size w := by simp [sizeOf, typeInfo, hj]
    have := ih fun y hy => h y (by simp [hy])
    rw [List.mapM_cons]
    simp only [Sem.run_bind, hs, Result.andThen_ok, Sem.run_pure, this]
    simp [hf]

theorem sim_build (hY : SysOk Y P) {S S1 : St} {pl : Option Nat} (fl : Nat → Bool) {pr : Bool} {row row' : List HV} {T : Tm} {t : Nat} {ti : TI} (ht : Y.tab t = some ti) {parts : Array (Nat × Operand)} {o : Oper} (ho : o.op = .build t parts) (ρ : Operand → Value)
    (hR : Rel Y E C w) (hpr : pr = true → ∀ k, S.length ≤ k → C k = none) (hx : ∀ p ∈ parts.toList, VRel E (ev T p.2) (ρ p.2))
    (hz : zrow fl pr ti.zero S = (row, S1)) (hbl : buildable Y ti.sh = true) (hf : fillC Y ti.sh (parts.toList.map fun (i, x) => (i, ev T x)) row = some row') : Sim P Y E C w S S1 pl o ρ (.agg row') := by
  obtain ⟨E1, z, hzv, hsz, R1, G1, V1, K1⟩ := zrow_sim (P := P) hY ht fl hR hpr hz
  have hT := hY.tab _ _ ht
  have hp := parts_rel (E := E1) (T := T) (ρ := ρ) fun p hp => (hx p hp).mono G1.le
  have hsh := hT.sh
  cases hs : ti.sh with
  | strct fs =>
    rw [hs] at hsh hf
    obtain ⟨fields, hu, hfl, hff⟩ := hsh
    obtain ⟨cells', h1, h2⟩ := fill_rel (Y := Y) (E := E1) (sh := .strct fs) (pl := fun i => ((fields.toList.map fun x => (x.offset, ((P.info? x.type).map (·.size)).getD 0)))[i]?) (fun i p hpi => by
      simp only [place] at hpi
      obtain ⟨f, h1, h2⟩ := Option.map_eq_some_iff.1 hpi
      have hi : i < fields.size := by rw [hfl]; exact (List.getElem?_eq_some_iff.1 h1).1
      obtain ⟨j, h3, h4⟩ := hff i fields[i] (by simp [hi])
      rw [h1] at h4
      simp only [Option.some.injEq] at h4
      subst h4
      simp [hi, h3, ← h2]) hp.1 hp.2 V1 hf
    refine ⟨.agg cells', w, E1, .inl ?_, .agg _ _ h2.1 h2.2, R1, G1, Kept3.ext K1⟩
    unfold execOp
    simp only [ho, Instr.build, Sem.run_bind, hzv, Result.andThen_ok, run_underlying hu, Array.mapM_eq_mapM_toList]
    have hm := run_mapM_fields P w (fun x => (P.info? x.type).map (·.size)) fields.toList (fun x hx => by
      obtain ⟨i, hi⟩ := List.getElem?_of_mem hx
      obtain ⟨j, h3, _⟩ := hff i x (by simpa using hi)
      exact ⟨j, h3, by simp [h3]⟩)
    simp only [Sem.run_map, hm, Result.andThen_ok, List.getElem?_toArray, h1]
    simp
  | arr n e =>
    rw [hs] at hsh hf
    rw [hs] at hbl
    simp only [buildable] at hbl
    obtain ⟨te, h⟩ := Option.isSome_iff_exists.1 hbl
    obtain ⟨cells', h1, h2⟩ := fill_rel (Y := Y) (E := E1) (sh := .arr n e) (pl := fun i => some (i * te.size, te.size)) (fun i p hpi => by
      simp only [place, tsize, h, Option.map_some, Option.some.injEq] at hpi
      rw [← hpi]) hp.1 hp.2 V1 hf
    refine ⟨.agg cells', w, E1, .inl ?_, .agg _ _ h2.1 h2.2, R1, G1, Kept3.ext K1⟩
    unfold execOp
    have hse := (hY.tab _ _ h).run_size w
    simp only [ho, Instr.build, Sem.run_bind, hzv, Result.andThen_ok, run_underlying hsh, hse, h1]
    simp
  | _ => rw [hs] at hbl; simp [buildable] at hbl

end
end Go.Proofs.XVai
