/- Maps. -/
import Derived.Test.YtkcneecnniimdaaVB
namespace Go.Proofs.XVai
open Go
set_option linter.unusedVariables false
set_option linter.unusedSimpArgs false

theorem eqC_eq {a b : HV} (h : eqC a b = some true) : a = b := by
  unfold eqC at h
  split at h
  · simp at h; rw [h]
  · split at h
    · simp at h; simp_all
    · cases h
  · rfl
  · cases h
  · cases h
  · cases h

theorem eqL_eq : ∀ {a b : List HV}, eqL a b = some true → a = b := by
  intro a
  induction a with
  | nil => intro b h; cases b <;> simp_all [eqL]
  | cons x a ih =>
    intro b h
    cases b with
    | nil => simp [eqL] at h
    | cons y b =>
      simp only [eqL] at h
      split at h
      · rename_i p q hp hq
        simp only [Option.some.injEq, Bool.and_eq_true] at h
        obtain ⟨rfl, rfl⟩ := h
        rw [eqC_eq hp, ih hq]
      · cases h

section
variable {P : Program} {Y : Sys} {E : Env} {C : Nat → Option Ob} {w : World}

/-- A map's entries anew, in the model's memory and here. -/
theorem Rel.putMap (hR : Rel Y E C w) {k r : Nat} {es' : List (HV × HV)} {en' : Array MapEntry} {clock' : Nat} {w' : World} (hold : (C k = none ∧ r = w.heap.size) ∨ ((∃ es, C k = some (.map es)) ∧ E.mp k = some r))
    (hos : w'.os = w.os) (htape : w'.tape = w.tape) (hout : w'.output = w.output) (hsize : w.heap.size ≤ w'.heap.size) (hframe : ∀ b, b < w.heap.size → b ≠ r → w'.heap[b]? = w.heap[b]?)
    (hr : w'.heap[r]? = some (.map en' clock')) (hlen : es'.length = en'.size)
    (hv : ∀ (i : Nat) (e : HV × HV) (m : MapEntry), es'[i]? = some e → en'[i]? = some m → VRel E e.1 m.key ∧ VRel E e.2 m.val) :
    let E' : Env := { E with mp := fun k' => if k' = k then some r else E.mp k' }
    Rel Y E' (setC C k (.map es')) w' ∧ Go1 E w E' w' := by
  intro E'
  have hle : E.le E' := by
    refine ⟨fun _ _ _ h => h, fun k1 r1 h => ?_, fun _ _ _ h => h⟩
    show (if k1 = k then some r else E.mp k1) = some r1
    split
    · rename_i hk; subst hk
      rcases hold with ⟨h1, _⟩ | ⟨_, h2⟩
      · obtain ⟨es, h3⟩ := hR.mpC _ _ h; rw [h1] at h3; cases h3
      · rw [← h2, h]
    · exact h
  have hnocell : ∀ fr rows, C k ≠ some (.cells fr rows) := fun fr rows h => by
    rcases hold with ⟨h1, _⟩ | ⟨⟨es, h1⟩, _⟩ <;> rw [h1] at h <;> cases h
  have hnohd : ∀ n h, E.hd k n ≠ some h := fun n h hh => by
    obtain ⟨fr, rows, h1, _⟩ := hR.hdC _ _ _ hh
    exact hnocell _ _ h1
  have hrB : ∀ k1 n sz B cap, E.hd k1 n = some (sz, some B, cap) → B ≠ r := fun k1 n sz B cap h e => by
    rcases hold with ⟨_, h1⟩ | ⟨_, h2⟩
    · have := hR.bound _ _ _ _ _ h; omega
    · exact hR.hdm _ _ _ _ _ _ h (e ▸ h2)
  refine ⟨⟨?_, ?_, ?_, ?_, hR.inj, ?_, ?_, ?_, ?_, ?_, setC_nd hR.nodummy k (by simp)⟩, ⟨hle, hos, htape, hout, hsize, ?_, ?_⟩⟩
  · intro k1 n h hh
    obtain ⟨fr, rows, h1, h2⟩ := hR.hdC k1 n h hh
    have hk : k1 ≠ k := fun e => hnohd n h (e ▸ hh)
    simp only [setC, if_neg hk]
    exact ⟨fr, rows, h1, h2⟩
  · intro k1 r1 h
    simp only [setC]
    by_cases hk : k1 = k
    · rw [if_pos hk]; exact ⟨_, rfl⟩
    · rw [if_neg hk]
      replace h : (if k1 = k then some r else E.mp k1) = some r1 := h
      rw [if_neg hk] at h
      exact hR.mpC _ _ h
  · intro k1 fr rows h
    simp only [setC] at h
    by_cases hk : k1 = k
    · rw [if_pos hk] at h; cases h
    · rw [if_neg hk] at h
      obtain ⟨sz, base, cap, h1, h2, h3, h4, h5, h6⟩ := hR.cells _ _ _ h
      refine ⟨sz, base, cap, h1, h2, h3, h4, h5, fun B hB => ?_⟩
      obtain ⟨cs, ty, g1, g2, g3, g4⟩ := h6 B hB
      subst hB
      refine ⟨cs, ty, by rw [hframe B (hR.bound _ _ _ _ _ h1) (hrB _ _ _ _ _ h1)]; exact g1, g2, fun i j r c hi hj => ?_, g4⟩
      obtain ⟨v, hv, hr⟩ := g3 i j r c hi hj
      exact ⟨v, hv, hr.mono hle⟩
  · intro k1 es h
    simp only [setC] at h
    by_cases hk : k1 = k
    · rw [if_pos hk] at h
      cases h
      exact ⟨r, en', clock', by show (if k1 = k then some r else E.mp k1) = some r; rw [if_pos hk], hr, hlen, fun i e m he hm => ⟨((hv i e m he hm).1).mono hle, ((hv i e m he hm).2).mono hle⟩⟩
    · rw [if_neg hk] at h
      obtain ⟨r1, en, cl, h1, h2, h3, h4⟩ := hR.maps _ _ h
      have hne : r1 ≠ r := fun e => by
        rcases hold with ⟨_, h5⟩ | ⟨_, h5⟩
        · have := (Array.getElem?_eq_some_iff.1 h2).1; omega
        · exact hk (hR.injm _ _ _ h1 (e ▸ h5))
      exact ⟨r1, en, cl, hle.mp _ _ h1, by rw [hframe r1 (Array.getElem?_eq_some_iff.1 h2).1 hne]; exact h2, h3, fun i e m he hm => ⟨((h4 i e m he hm).1).mono hle, ((h4 i e m he hm).2).mono hle⟩⟩
  · intro k1 k2 r1 h1 h2
    replace h1 : (if k1 = k then some r else E.mp k1) = some r1 := h1
    replace h2 : (if k2 = k then some r else E.mp k2) = some r1 := h2
    have hother : ∀ k3, k3 ≠ k → E.mp k3 ≠ some r := fun k3 hk3 h => by
      rcases hold with ⟨_, h5⟩ | ⟨_, h5⟩
      · obtain ⟨es, h6⟩ := hR.mpC _ _ h
        obtain ⟨r2, en, cl, h7, h8, _⟩ := hR.maps _ _ h6
        rw [h] at h7; cases h7
        have := (Array.getElem?_eq_some_iff.1 h8).1; omega
      · exact hk3 (hR.injm _ _ _ h h5)
    by_cases e1 : k1 = k <;> by_cases e2 : k2 = k
    · rw [e1, e2]
    · rw [if_pos e1] at h1; rw [if_neg e2] at h2; cases h1; exact absurd h2 (hother _ e2)
    · rw [if_neg e1] at h1; rw [if_pos e2] at h2; cases h2; exact absurd h1 (hother _ e1)
    · rw [if_neg e1] at h1; rw [if_neg e2] at h2; exact hR.injm _ _ _ h1 h2
  · intro k1 n sz B cap k2 h1 h2
    replace h2 : (if k2 = k then some r else E.mp k2) = some B := h2
    split at h2
    · cases h2; exact hrB _ _ _ _ _ h1 rfl
    · exact hR.hdm _ _ _ _ _ _ h1 h2
  · intro k1 n sz B cap h
    have := hR.bound _ _ _ _ _ h; omega
  · intro b o v h
    have hm := hR.mem _ _ _ h
    unfold World.cell? at hm ⊢
    have hb : b < w.heap.size := by
      rcases Nat.lt_or_ge b w.heap.size with h | h
      · exact h
      · simp [Array.getElem?_eq_none h] at hm
    have hne : b ≠ r := fun e => by
      rcases hold with ⟨_, h5⟩ | ⟨⟨es, h5⟩, h6⟩
      · omega
      · obtain ⟨r2, en, cl, h7, h8, _⟩ := hR.maps _ _ h5
        rw [h6] at h7; cases h7
        simp only at hm
        rw [e, h8] at hm; simp at hm
    simp only at hm ⊢
    rw [hframe b hb hne]; exact hm
  · intro g row hg
    obtain ⟨h1, f, h2⟩ := hR.glob g row hg
    exact ⟨h1, f, fun j c hj => ⟨(h2 j c hj).1, ((h2 j c hj).2).mono hle⟩⟩
  · intro b hb ho
    refine hframe b hb fun e => ?_
    rcases hold with ⟨_, h5⟩ | ⟨_, h6⟩
    · omega
    · exact ho (.inr ⟨k, e ▸ h6⟩)
  · intro b hb
    rcases hb with ⟨k1, n, sz, cap, h⟩ | ⟨k1, h⟩
    · exact .inl (.inl ⟨_, _, _, _, h⟩)
    · replace h : (if k1 = k then some r else E.mp k1) = some b := h
      split at h
      · cases h
        rcases hold with ⟨_, h5⟩ | ⟨_, h6⟩
        · right; omega
        · exact .inl (.inr ⟨k, h6⟩)
      · exact .inl (.inr ⟨k1, h⟩)

theorem sim_makeMap (hR : Rel Y E C w) {S : St} {pl : Option Nat} (hN : NewOk C S pl) {t : Nat} {o : Oper} (ho : o.op = .makeMap t none) (ρ : Operand → Value) :
    Sim P Y E C w S (newOb pl S (.map [])).2 pl o ρ (.map (newOb pl S (.map [])).1) := by
  obtain ⟨R1, G1⟩ := hR.putMap (k := (newOb pl S (.map [])).1) (r := w.heap.size) (es' := []) (en' := #[]) (clock' := 0) (w' := { w with heap := w.heap.push (.map #[] 0) }) (.inl ⟨newOb_k hN _, rfl⟩) rfl rfl rfl (by simp)
    (fun b hb _ => by simp [Array.getElem?_push]; omega) (by simp) rfl (by simp)
  refine ⟨.map (some w.heap.size), _, _, .inl ?_, .map _ _ (by simp), by rw [newOb_C hN (by simp)]; exact R1, G1, Kept3.new _ _ _ _⟩
  unfold execOp
  simp only [ho, Option.map_none, Instr.makeMap, Sem.run_bind, run_newObj, Result.andThen_ok, Sem.run_pure]

/-- Keys: a value of a plain type. -/
def KeyOk (ti : TI) (x : HV) : Prop := ti.eqok = true ∧ x.cells.length = ti.size ∧ (ti.agg = true → ∃ l, x = .agg l) ∧ (ti.agg = false → isCell x = true)

theorem eqL_cells {ti : TI} {x y : HV} {b : Bool} (hx : KeyOk ti x) (h : eqL x.cells y.cells = some b) (hk : ti.agg = true → ∃ l, y = .agg l) (hk2 : ti.agg = false → isCell y = true) : KeyOk ti y := by
  have : ∀ (a c : List HV) (b : Bool), eqL a c = some b → a.length = c.length := by
    intro a
    induction a with
    | nil => intro c b h; cases c <;> simp_all [eqL]
    | cons p a ih =>
      intro c b h
      cases c with
      | nil => simp [eqL] at h
      | cons q c =>
        simp only [eqL] at h
        split at h
        · rename_i h2; simp [ih _ _ h2]
        · cases h
  exact ⟨hx.1, by rw [← this _ _ _ h]; exact hx.2.1, hk, hk2⟩

theorem cells_one {a : HV} (h : isCell a = true) : a.cells = [a] := by cases a <;> first | rfl | (simp [isCell] at h)

/-- The key that is looked for: where the canonical list finds it. -/
theorem findAsking_sim (hY : SysOk Y P) {kt : Nat} {tk : TI} (ht : Y.tab kt = some tk) {x : HV} {kx : Value} (hx : VRel E x kx) (hk : KeyOk tk x) : ∀ (es : List (HV × HV)) (en : List MapEntry) (i : Nat), es.length = en.length →
    (∀ (i : Nat) (e : HV × HV) (m : MapEntry), es[i]? = some e → en[i]? = some m → VRel E e.1 m.key ∧ VRel E e.2 m.val) → (∀ e ∈ es, (tk.agg = true → ∃ l, e.1 = .agg l) ∧ (tk.agg = false → isCell e.1 = true)) → ∀ r, mapGet x es = some r →
    (r = none ∧ (Instr.findAsking kt kx en i).run P w = .ok none w) ∨ ∃ (j : Nat) (v : HV) (u : Value), r = some v ∧ (Instr.findAsking kt kx en i).run P w = .ok (some (i + j, u)) w ∧ VRel E v u ∧ ∃ k', es[j]? = some (k', v) ∧ k' = x ∧ (∀ y, mapSet x y es = some (es.set j (x, y))) ∧ (en[j]?).map (·.val) = some u ∧ ∀ j' < j, ∀ e, es[j']? = some e → eqL x.cells e.1.cells = some false := by
  intro es
  induction es with
  | nil =>
    intro en i hl _ _ r hr
    cases en with
    | nil => simp only [mapGet, Option.some.injEq] at hr; left; exact ⟨hr.symm, rfl⟩
    | cons => simp at hl
  | cons e es ih =>
    intro en i hl hv hag r hr
    cases en with
    | nil => simp at hl
    | cons m en =>
      obtain ⟨k, v⟩ := e
      obtain ⟨hk1, hv1⟩ := hv 0 _ _ rfl rfl
      simp only [mapGet] at hr
      obtain ⟨ha1, ha2⟩ := hag (k, v) (by simp)
      have hcells : ∀ {a b : HV}, (tk.agg = true → ∃ l, a = .agg l) → (tk.agg = false → isCell a = true) → (tk.agg = true → ∃ l, b = .agg l) → (tk.agg = false → isCell b = true) → a.cells = b.cells → a = b := by
        intro a b a1 a2 b1 b2 h
        cases hagg : tk.agg with
        | true =>
          obtain ⟨l, rfl⟩ := a1 hagg
          obtain ⟨m, rfl⟩ := b1 hagg
          simpa [HV.cells] using h
        | false =>
          rw [cells_one (a2 hagg), cells_one (b2 hagg)] at h
          simpa using h
      split at hr
      · rename_i he
        simp only [Option.some.injEq] at hr
        subst hr
        have hkk : k = x := (hcells hk.2.2.1 hk.2.2.2 ha1 ha2 (eqL_eq he)).symm
        have hkey := eqL_cells hk he ha1 ha2
        have heq := (hY.tab _ _ ht).eqok hk.1 x k E kx m.key w true hk.2.1 hkey.2.1 hx hk1 (fun h => by obtain ⟨l, rfl⟩ := hk.2.2.1 h; obtain ⟨l2, h2⟩ := ha1 h; exact ⟨l, l2, rfl, h2⟩) (fun h => ⟨hk.2.2.2 h, ha2 h⟩) he
        right
        refine ⟨0, v, m.val, rfl, ?_, hv1, k, rfl, hkk, fun y => ?_, rfl, fun j' hj' => absurd hj' (by omega)⟩
        · simp only [Instr.findAsking, Sem.run_bind, heq, Result.andThen_ok, if_true, Sem.run_pure, Nat.add_zero]
        · rw [hkk] at he; simp only [mapSet, hkk, he, List.set_cons_zero]
      · rename_i he
        have hkey := eqL_cells hk he ha1 ha2
        have heq := (hY.tab _ _ ht).eqok hk.1 x k E kx m.key w false hk.2.1 hkey.2.1 hx hk1 (fun h => by obtain ⟨l, rfl⟩ := hk.2.2.1 h; obtain ⟨l2, h2⟩ := ha1 h; exact ⟨l, l2, rfl, h2⟩) (fun h => ⟨hk.2.2.2 h, ha2 h⟩) he
        have hstep : (Instr.findAsking kt kx (m :: en) i).run P w = (Instr.findAsking kt kx en (i + 1)).run P w := by
          simp only [Instr.findAsking, Sem.run_bind, heq, Result.andThen_ok, Bool.false_eq_true, if_false]
        rcases ih en (i + 1) (by simpa using hl) (fun i e m h1 h2 => hv (i + 1) e m (by simpa using h1) (by simpa using h2)) (fun e he => hag e (by simp [he])) r hr with ⟨h1, h2⟩ | ⟨j, v', u, h1, h2, h3, k', h4, h5, h6, h7, h8⟩
        · left; exact ⟨h1, by rw [hstep]; exact h2⟩
        · right
          refine ⟨j + 1, v', u, h1, by rw [hstep, h2, show i + 1 + j = i + (j + 1) by omega], h3, k', by simpa using h4, h5, fun y => ?_, by simpa using h7, fun j' hj' e' he' => ?_⟩
          · simp only [mapSet, he, h6 y, Option.map_some, List.set_cons_succ]
          · cases j' with
            | zero => simp only [List.getElem?_cons_zero, Option.some.injEq] at he'; rw [← he']; exact he
            | succ j' => exact h8 j' (by omega) e' (by simpa using he')
      · cases hr

theorem sameNow_eq {kind : TypeDesc} {x y : HV} {u v : Value} {b b2 : Bool} (hx : VRel E x u) (hy : VRel E y v) (h : Instr.sameNow kind u v = some b) (h2 : eqL x.cells y.cells = some b2) : b = b2 := by
  unfold Instr.sameNow at h
  split at h
  · cases hx; cases hy
    split at h
    · rename_i hk
      simp only [Option.some.injEq] at h
      subst hk
      simp [HV.cells, eqL, eqC] at h2
      rw [← h, ← h2]
    · cases h
  · cases hx; cases hy
    simp [HV.cells, eqL, eqC] at h2
  · cases hx; cases hy
    simp only [Option.some.injEq] at h
    simp [HV.cells, eqL, eqC] at h2
    rw [← h, ← h2]
  · cases h

theorem findNow_sim {kind : TypeDesc} {x : HV} {kx : Value} (hx : VRel E x kx) : ∀ (es : List (HV × HV)) (en : List MapEntry) (i : Nat), es.length = en.length →
    (∀ (i : Nat) (e : HV × HV) (m : MapEntry), es[i]? = some e → en[i]? = some m → VRel E e.1 m.key ∧ VRel E e.2 m.val) → ∀ r q, mapGet x es = some r → Instr.findNow kind kx en i = some q →
    (r = none ∧ q = none) ∨ ∃ (j : Nat) (v : HV) (u : Value), r = some v ∧ q = some (i + j, u) ∧ VRel E v u ∧ (en[j]?).map (·.val) = some u ∧ ∃ k', es[j]? = some (k', v) ∧ eqL x.cells k'.cells = some true ∧ ∀ j' < j, ∀ e, es[j']? = some e → eqL x.cells e.1.cells = some false := by
  intro es
  induction es with
  | nil =>
    intro en i hl _ r q hr hq
    cases en with
    | nil => simp only [mapGet, Option.some.injEq] at hr; simp only [Instr.findNow, Option.some.injEq] at hq; left; exact ⟨hr.symm, hq.symm⟩
    | cons => simp at hl
  | cons e es ih =>
    intro en i hl hv r q hr hq
    cases en with
    | nil => simp at hl
    | cons m en =>
      obtain ⟨k, v⟩ := e
      obtain ⟨hk1, hv1⟩ := hv 0 _ _ rfl rfl
      simp only [mapGet] at hr
      simp only [Instr.findNow] at hq
      split at hr
      · rename_i he
        simp only [Option.some.injEq] at hr
        subst hr
        split at hq
        · simp only [Option.some.injEq] at hq
          right
          exact ⟨0, v, m.val, rfl, hq.symm, hv1, rfl, k, rfl, he, fun j' hj' => absurd hj' (by omega)⟩
        · rename_i hs
          have := sameNow_eq hx hk1 hs he
          cases this
        · cases hq
      · rename_i he
        split at hq
        · rename_i hs
          have := sameNow_eq hx hk1 hs he
          cases this
        · rcases ih en (i + 1) (by simpa using hl) (fun i e m h1 h2 => hv (i + 1) e m (by simpa using h1) (by simpa using h2)) r q hr hq with h | ⟨j, v', u, h1, h2, h3, h4, k', h5, h6, h7⟩
          · exact .inl h
          · right
            refine ⟨j + 1, v', u, h1, by rw [h2, show i + 1 + j = i + (j + 1) by omega], h3, by simpa using h4, k', by simpa using h5, h6, fun j' hj' e' he' => ?_⟩
            cases j' with
            | zero => simp only [List.getElem?_cons_zero, Option.some.injEq] at he'; rw [← he']; exact he
            | succ j' => exact h7 j' (by omega) e' (by simpa using he')
        · cases hq
      · cases hr

theorem keyB_ok {ti : TI} {x : HV} (h : keyB ti x = true) : KeyOk ti x := by
  unfold keyB at h
  simp only [Bool.and_eq_true, beq_iff_eq] at h
  obtain ⟨⟨h1, h2⟩, h3⟩ := h
  refine ⟨h1, h2, fun ha => ?_, fun ha => ?_⟩
  · cases x <;> simp [ha] at h3 ⊢
  · cases x <;> simp [ha] at h3 ⊢ <;> simp_all [isCell]

theorem findKey_sim (hY : SysOk Y P) {kt : Nat} {tk : TI} (ht : Y.tab kt = some tk) {x : HV} {kx : Value} (hx : VRel E x kx) (hk : KeyOk tk x) (es : List (HV × HV)) (en : List MapEntry) (hl : es.length = en.length)
    (hv : ∀ (i : Nat) (e : HV × HV) (m : MapEntry), es[i]? = some e → en[i]? = some m → VRel E e.1 m.key ∧ VRel E e.2 m.val) (hag : ∀ e ∈ es, KeyOk tk e.1) (r : Option HV) (hr : mapGet x es = some r) :
    (r = none ∧ (Instr.findKey kt kx en).run P w = .ok none w) ∨ ∃ (j : Nat) (v : HV) (u : Value), r = some v ∧ (Instr.findKey kt kx en).run P w = .ok (some (j, u)) w ∧ VRel E v u ∧ (∀ y, mapSet x y es = some (es.set j (x, y))) ∧ (∃ v', es[j]? = some (x, v')) := by
  obtain ⟨d, hd, _⟩ := (hY.tab _ _ ht).agg
  have hA := findAsking_sim (P := P) (w := w) hY ht hx hk es en 0 hl hv (fun e he => ⟨(hag e he).2.2.1, (hag e he).2.2.2⟩) r hr
  cases hn : Instr.findNow d kx en 0 with
  | none =>
    have hrun : (Instr.findKey kt kx en).run P w = (Instr.findAsking kt kx en 0).run P w := by
      unfold Instr.findKey
      rw [Sem.run_bind, run_underlying hd, Result.andThen_ok, hn]
    rcases hA with ⟨h1, h2⟩ | ⟨j, v, u, h1, h2, h3, k', h4, h5, h6, h7, _⟩
    · exact .inl ⟨h1, by rw [hrun]; exact h2⟩
    · exact .inr ⟨j, v, u, h1, by rw [hrun, h2, Nat.zero_add], h3, h6, v, by rw [h4, h5]⟩
  | some q =>
    have hrun : (Instr.findKey kt kx en).run P w = .ok q w := by
      unfold Instr.findKey
      rw [Sem.run_bind, run_underlying hd, Result.andThen_ok, hn]
      rfl
    rcases findNow_sim hx es en 0 hl hv r q hr hn with ⟨h1, h2⟩ | ⟨j, v, u, h1, h2, h3, h4, k', h5, h6, h7⟩
    · exact .inl ⟨h1, by rw [hrun, h2]⟩
    · rcases hA with ⟨h8, _⟩ | ⟨j2, v2, u2, h8, h9, h10, k2, h11, h12, h13, h14, h15⟩
      · rw [h1] at h8; cases h8
      · have hjj : j = j2 := by
          have hself : eqL x.cells x.cells = some true := by
            have := h6
            rw [← eqL_eq h6] at this; exact this
          rcases Nat.lt_trichotomy j j2 with h | h | h
          · exfalso
            have := h15 j h (k', v) h5
            rw [h6] at this; cases this
          · exact h
          · exfalso
            have := h7 j2 h (k2, v2) h11
            rw [h12, hself] at this; cases this
        subst hjj
        rw [h5] at h11
        cases h11
        exact .inr ⟨j, v, u, h1, by rw [hrun, h2, Nat.zero_add], h3, h13, v, by rw [h5, h12]⟩

theorem sim_lookup (hY : SysOk Y P) (hR : Rel Y E C w) {S : St} {pl : Option Nat} {t kt el : Nat} {ti tk te : TI} {x i : Operand} {commaOk : Bool} {o : Oper} (ho : o.op = .lookup t x i commaOk) (ht : Y.tab t = some ti) (hs : ti.sh = .map kt el) (htk : Y.tab kt = some tk) (hte : Y.tab el = some te)
    (ρ : Operand → Value) {k : Nat} {ci : HV} (hx : VRel E (.map k) (ρ x)) (hi : VRel E ci (ρ i)) (hA : AgreeAt C S k) {es : List (HV × HV)} (hS : S[k]? = some (.map es)) {r : Option HV} (hr : mapGet ci es = some r) {z : HV} (hz : zeroOf te = some z)
    (hk : keyB tk ci = true) (hes : es.all (fun p => keyB tk p.1) = true) : Sim P Y E C w S S pl o ρ (if commaOk then .tup [r.getD z, .bool r.isSome] else r.getD z) := by
  have hu := (hY.tab _ _ ht).sh
  rw [hs] at hu
  have hko := keyB_ok hk
  have hTk := hY.tab _ _ htk
  have hTe := hY.tab _ _ hte
  obtain ⟨ie, zv, hie, _, _, hiz, hzok, hzz, hzs, _⟩ := hTe.info
  have hzr : ∀ w, (zeroValue el).run P w = .ok zv w := fun w => by simp [zeroValue, typeInfo, hie, hiz]
  have hzrel : VRel E z zv := by
    have hza := hTe.zagg zv (by simp [hie, hiz])
    unfold zeroOf at hz
    split at hz
    · rename_i ha
      obtain ⟨cs, rfl⟩ := hza.2 ha
      simp only [Option.some.injEq] at hz
      subst hz
      have := zero_rel (E := E) hzok
      rw [← hzz] at this
      exact .agg _ _ this.1 this.2
    · rename_i ha
      have hone : zv.cells = #[zv] := by
        cases zv <;> first | rfl | (exact absurd (hza.1 ⟨_, rfl⟩) ha)
      rw [hone] at hzz hzok
      simp only [List.map_cons, List.map_nil] at hzz
      rw [hzz] at hz
      simp only [Option.some.injEq] at hz
      subst hz
      exact okCell_rel (by simpa using hzok)
  generalize hxv : ρ x = xv at hx
  cases hx with
  | map _ q hq =>
    obtain ⟨es0, hC0⟩ := hR.mpC _ _ hq
    have hC : C k = some (.map es) := by
      rcases hA _ hC0 with h1 | h1 <;> rw [hS] at h1 <;> cases h1
      exact hC0
    obtain ⟨q', en, cl, h1, h2, h3, h4⟩ := hR.maps _ _ hC
    rw [hq] at h1
    cases h1
    have hcheck := hTk.key hko.1 ci E (ρ i) w en.isEmpty hko.2.1 hi hko.2.2.1 hko.2.2.2
    have hget : (getObj q).run P w = .ok (.map en cl) w := by simp [getObj, Sem.run, h2]
    have fin : ∀ (v : HV) (u : Value) (b : Bool), VRel E v u → (Instr.lookup t (.map (some q)) (ρ i) commaOk).run P w = .ok (if commaOk then .tuple #[u, .bool b] else u) w →
        Sim P Y E C w S S pl o ρ (if commaOk then .tup [v, .bool b] else v) := by
      intro v u b hvu hrun
      refine Sim.same hR (v := if commaOk then .tuple #[u, .bool b] else u) ?_ ?_
      · unfold execOp
        simp only [ho, hxv, Sem.run_bind, hrun, Result.andThen_ok, Sem.run_pure]
      · cases commaOk with
        | false => exact hvu
        | true => exact .tup [v, .bool b] #[u, .bool b] rfl (fun i c v' h1 h2 => by
            match i with
            | 0 => simp at h1 h2; subst h1; subst h2; exact hvu
            | 1 => simp at h1 h2; subst h1; subst h2; exact .bool b
            | i + 2 => simp at h1)
    rcases findKey_sim (P := P) (w := w) hY htk hi hko es en.toList (by simpa using h3) (fun i e m a b => h4 i e m a (by simpa using b)) (fun e he => keyB_ok (List.all_eq_true.1 hes e he)) r hr with ⟨h5, h6⟩ | ⟨j, v, u, h5, h6, h7, _⟩
    · subst h5
      have := fin z zv false hzrel (by
        simp only [Instr.lookup, Sem.run_bind, run_underlying hu, Result.andThen_ok, hget, Sem.run_pure, hcheck, h6, hzr])
      simpa using this
    · subst h5
      have := fin v u true h7 (by
        simp only [Instr.lookup, Sem.run_bind, run_underlying hu, Result.andThen_ok, hget, Sem.run_pure, hcheck, h6])
      simpa using this

theorem sim_mapUpdate (hY : SysOk Y P) (hR : Rel Y E C w) {S : St} {pl : Option Nat} {t kt el : Nat} {ti tk : TI} {m i x : Operand} {o : Oper} (ho : o.op = .mapUpdate t m i x) (ht : Y.tab t = some ti) (hs : ti.sh = .map kt el) (htk : Y.tab kt = some tk)
    (ρ : Operand → Value) {k : Nat} {ci cx : HV} (hm : VRel E (.map k) (ρ m)) (hi : VRel E ci (ρ i)) (hx : VRel E cx (ρ x)) (hA : AgreeAt C S k) {es es' : List (HV × HV)} (hS : S[k]? = some (.map es)) (hset : mapSet ci cx es = some es')
    (hk : keyB tk ci = true) (hes : es.all (fun p => keyB tk p.1) = true) : Sim P Y E C w S (S.set k (.map es')) pl o ρ (.tup []) := by
  have hu := (hY.tab _ _ ht).sh
  rw [hs] at hu
  have hko := keyB_ok hk
  have hTk := hY.tab _ _ htk
  generalize hmv : ρ m = mv at hm
  cases hm with
  | map _ q hq =>
    obtain ⟨es0, hC0⟩ := hR.mpC _ _ hq
    have hC : C k = some (.map es) := by
      rcases hA _ hC0 with h1 | h1 <;> rw [hS] at h1 <;> cases h1
      exact hC0
    obtain ⟨q', en, cl, h1, h2, h3, h4⟩ := hR.maps _ _ hC
    rw [hq] at h1
    cases h1
    have hcheck := hTk.key hko.1 ci E (ρ i) w false hko.2.1 hi hko.2.2.1 hko.2.2.2
    have hget : (getObj q).run P w = .ok (.map en cl) w := by simp [getObj, Sem.run, h2]
    have hqlt : q < w.heap.size := (Array.getElem?_eq_some_iff.1 h2).1
    have hsetO : ∀ (w1 : World) (ob : Obj), w1.heap = w.heap → (setObj q ob).run P w1 = .ok () { w1 with heap := w1.heap.setIfInBounds q ob } := fun w1 ob hw => by simp [setObj, Sem.run, hw, h2]
    -- is there an answer to the search at all?
    have hgs : ∃ r, mapGet ci es = some r := by
      have : ∀ (es es' : List (HV × HV)), mapSet ci cx es = some es' → ∃ r, mapGet ci es = some r := by
        intro es
        induction es with
        | nil => intro es' _; exact ⟨_, rfl⟩
        | cons e es ih =>
          intro es' h
          obtain ⟨a, b⟩ := e
          simp only [mapSet] at h
          simp only [mapGet]
          split at h
          · exact ⟨_, rfl⟩
          · obtain ⟨e2, h5, _⟩ := Option.map_eq_some_iff.1 h
            exact ih e2 h5
          · cases h
      exact this _ _ hset
    obtain ⟨r, hr⟩ := hgs
    rcases findKey_sim (P := P) (w := w) hY htk hi hko es en.toList (by simpa using h3) (fun i e m a b => h4 i e m a (by simpa using b)) (fun e he => keyB_ok (List.all_eq_true.1 hes e he)) r hr with ⟨h5, h6⟩ | ⟨j, v, u, h5, h6, h7, h8, v', h9⟩
    · -- a new key
      subst h5
      have hes' : es' = es ++ [(ci, cx)] := by
        have : ∀ (es es' : List (HV × HV)), mapGet ci es = some none → mapSet ci cx es = some es' → es' = es ++ [(ci, cx)] := by
          intro es
          induction es with
          | nil => intro es' _ h; simp only [mapSet, Option.some.injEq] at h; rw [← h]; rfl
          | cons e es ih =>
            intro es' hg h
            obtain ⟨a, b⟩ := e
            simp only [mapSet] at h
            simp only [mapGet] at hg
            split at h
            · rename_i he; rw [he] at hg; simp at hg
            · rename_i he
              rw [he] at hg
              obtain ⟨e2, h5, h6⟩ := Option.map_eq_some_iff.1 h
              rw [← h6, ih e2 hg h5]; rfl
            · cases h
        exact this _ _ hr hset
      obtain ⟨R1, G1⟩ := hR.putMap (k := k) (r := q) (es' := es') (en' := en.push { key := ρ i, val := ρ x, born := cl }) (clock' := cl + 1) (w' := { w with heap := w.heap.setIfInBounds q (.map (en.push { key := ρ i, val := ρ x, born := cl }) (cl + 1)) })
        (.inr ⟨⟨_, hC⟩, hq⟩) rfl rfl rfl (by simp) (fun b hb hne => by simp [Array.getElem?_setIfInBounds_ne (Ne.symm hne)]) (by simp [hqlt]) (by rw [hes']; simp [h3]) (fun i' e m' he hm' => by
          rw [hes'] at he
          rcases Nat.lt_or_ge i' es.length with hlt | hge
          · rw [List.getElem?_append_left hlt] at he
            rw [Array.getElem?_push, if_neg (by omega)] at hm'
            exact h4 i' e m' he hm'
          · have : i' = es.length := by
              have := (List.getElem?_eq_some_iff.1 he).1
              simp at this; omega
            subst this
            rw [List.getElem?_append_right (Nat.le_refl _)] at he
            simp at he
            rw [Array.getElem?_push, if_pos h3] at hm'
            cases hm'
            subst he
            exact ⟨hi, hx⟩)
      refine ⟨undef, _, _, .inr ⟨?_, rfl⟩, .tup [] #[] rfl (by simp), by rw [updC_set hS (.inl hC)]; exact R1, G1, Kept3.set _ hC hS⟩
      unfold execOp
      simp only [ho, hmv, Instr.mapUpdate, Sem.run_bind, run_underlying hu, Result.andThen_ok, hget, hcheck, h6, hsetO w _ rfl, Sem.run_pure]
    · -- the key is there
      subst h5
      have hes' : es' = es.set j (ci, cx) := by
        have := h8 cx; rw [hset] at this; exact Option.some.inj this
      have hjl : j < en.size := by rw [← h3]; exact (List.getElem?_eq_some_iff.1 h9).1
      have hold := h4 j (ci, v') en[j] h9 (by simp [hjl])
      -- whichever key stays
      have hstay : ∃ (kk : Value) (d : Nat), (Instr.keyThatStays (((en[j]?).map (·.key)).getD (ρ i)) (ρ i)).run P w = .ok kk { w with drawn := d } ∧ VRel E ci kk := by
        unfold Instr.keyThatStays
        split
        · exact ⟨ρ i, w.drawn, rfl, hi⟩
        · simp only [Sem.run_bind, run_choose, Question.forced]
          simp only [Nat.reduceEqDiff, decide_false, Bool.false_eq_true, if_false, Result.andThen_ok, Sem.run_pure]
          refine ⟨_, w.drawn + 1, rfl, ?_⟩
          split
          · exact hi
          · simp only [Array.getElem?_eq_getElem hjl, Option.map_some, Option.getD_some]; exact hold.1
      obtain ⟨kk, d, hst, hkk⟩ := hstay
      have hRd : Rel Y E C { w with drawn := d } := hR.drew rfl
      obtain ⟨R1, G1⟩ := hRd.putMap (k := k) (r := q) (es' := es') (en' := en.modify j fun e => { e with key := kk, val := ρ x }) (clock' := cl) (w' := { { w with drawn := d } with heap := w.heap.setIfInBounds q (.map (en.modify j fun e => { e with key := kk, val := ρ x }) cl) })
        (.inr ⟨⟨_, hC⟩, hq⟩) rfl rfl rfl (by simp) (fun b hb hne => by simp [Array.getElem?_setIfInBounds_ne (Ne.symm hne)]) (by simp [hqlt]) (by rw [hes']; simp [h3]) (fun i' e m' he hm' => by
          rw [hes'] at he
          by_cases hj : i' = j
          · subst hj
            rw [List.getElem?_set_self (by omega)] at he
            cases he
            rw [Array.getElem?_modify, if_pos rfl] at hm'
            simp [hjl] at hm'
            subst hm'
            exact ⟨hkk, hx⟩
          · rw [List.getElem?_set_ne (Ne.symm hj)] at he
            rw [Array.getElem?_modify, if_neg (Ne.symm hj)] at hm'
            exact h4 i' e m' he hm')
      refine ⟨undef, _, _, .inr ⟨?_, rfl⟩, .tup [] #[] rfl (by simp), by rw [updC_set hS (.inl hC)]; exact R1, G1.undrew rfl rfl rfl rfl, Kept3.set _ hC hS⟩
      unfold execOp
      simp only [ho, hmv, Instr.mapUpdate, Sem.run_bind, run_underlying hu, Result.andThen_ok, hget, hcheck, h6, hst, hsetO { w with drawn := d } _ rfl, Sem.run_pure]

end
end Go.Proofs.XVai
