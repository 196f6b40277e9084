/- Operations that make, fill and store. -/
import Derived.Test.YtkcneecnniimdaaV3
namespace Go.Proofs.XVai
open Go
set_option linter.unusedVariables false
set_option linter.unusedSimpArgs false

def CellsRel (E : Env) (row : List HV) (cells : Array Value) : Prop := row.length = cells.size ∧ ∀ (j : Nat) (c : HV) (v : Value), row[j]? = some c → cells[j]? = some v → VRel E c v

theorem CellsRel.mono {E E' : Env} (h : E.le E') {row : List HV} {cells : Array Value} (k : CellsRel E row cells) : CellsRel E' row cells :=
  ⟨k.1, fun j c v h1 h2 => (k.2 j c v h1 h2).mono h⟩

theorem cells_of {E : Env} {x : HV} {v : Value} (h : VRel E x v) : CellsRel E x.cells v.cells := by
  cases h with
  | agg cs vs hl h => exact ⟨hl, h⟩
  | bool b => exact ⟨rfl, fun j c v h1 h2 => by cases j <;> simp_all [HV.cells, Value.cells]; subst h1; subst h2; exact .bool b⟩
  | int k n => exact ⟨rfl, fun j c v h1 h2 => by cases j <;> simp_all [HV.cells, Value.cells]; subst h1; subst h2; exact .int k n⟩
  | str s => exact ⟨rfl, fun j c v h1 h2 => by cases j <;> simp_all [HV.cells, Value.cells]; subst h1; subst h2; exact .str s⟩
  | tup cs vs hl h => exact ⟨rfl, fun j c v h1 h2 => by cases j <;> simp_all [HV.cells, Value.cells]; subst h1; subst h2; exact .tup cs vs hl h⟩
  | nils b => exact ⟨rfl, fun j c v h1 h2 => by cases j <;> simp_all [HV.cells, Value.cells]; subst h1; subst h2; exact .nils b⟩
  | lst0 b cap => exact ⟨rfl, fun j c v h1 h2 => by cases j <;> simp_all [HV.cells, Value.cells]; subst h1; subst h2; exact .lst0 b cap⟩
  | lst rows b o cap sz hn hc hz hp f hM hV => exact ⟨rfl, fun j c v h1 h2 => by cases j <;> simp_all [HV.cells, Value.cells]; subst h1; subst h2; exact .lst rows b o cap sz hn hc hz hp f hM hV⟩
  | sl k n sz base cap h hc => exact ⟨rfl, fun j c v h1 h2 => by cases j <;> simp_all [HV.cells, Value.cells]; subst h1; subst h2; exact .sl k n sz base cap h hc⟩
  | ptr k n i o sz B cap h => exact ⟨rfl, fun j c v h1 h2 => by cases j <;> simp_all [HV.cells, Value.cells]; subst h1; subst h2; exact .ptr k n i o sz B cap h⟩
  | iptr rows i o b off sz hz hp f hM hV => exact ⟨rfl, fun j c v h1 h2 => by cases j <;> simp_all [HV.cells, Value.cells]; subst h1; subst h2; exact .iptr rows i o b off sz hz hp f hM hV⟩
  | nilptr => exact ⟨rfl, fun j c v h1 h2 => by cases j <;> simp_all [HV.cells, Value.cells]; subst h1; subst h2; exact .nilptr⟩
  | nilmap => exact ⟨rfl, fun j c v h1 h2 => by cases j <;> simp_all [HV.cells, Value.cells]; subst h1; subst h2; exact .nilmap⟩
  | nilfn => exact ⟨rfl, fun j c v h1 h2 => by cases j <;> simp_all [HV.cells, Value.cells]; subst h1; subst h2; exact .nilfn⟩
  | map k r h => exact ⟨rfl, fun j c v h1 h2 => by cases j <;> simp_all [HV.cells, Value.cells]; subst h1; subst h2; exact .map k r h⟩
  | fn f caps vs hl h => exact ⟨rfl, fun j c v h1 h2 => by cases j <;> simp_all [HV.cells, Value.cells]; subst h1; subst h2; exact .fn f caps vs hl h⟩
  | gp g => exact ⟨rfl, fun j c v h1 h2 => by cases j <;> simp_all [HV.cells, Value.cells]; subst h1; subst h2; exact .gp g⟩

theorem zero_rel {E : Env} {z : Value} (h : z.cells.toList.all okCell = true) : CellsRel E (z.cells.toList.map ofCell) z.cells :=
  ⟨by simp, fun j c v h1 h2 => by
    simp only [List.getElem?_map, Array.getElem?_toList, h2, Option.map_some, Option.some.injEq] at h1
    subst h1
    exact okCell_rel (List.all_eq_true.1 h v (by simpa using Array.mem_of_getElem? h2))⟩

theorem setCells_length (cs row : List HV) (off : Nat) : (setCells row off cs).length = row.length := by
  induction cs generalizing row off with
  | nil => rfl
  | cons c cs ih => simp [setCells, ih]

theorem setCells_rel {E : Env} {xs : List HV} {vs : List Value} : ∀ {row : List HV} {cells : Array Value} (off : Nat), CellsRel E row cells → xs.length = vs.length →
    (∀ (j : Nat) (c : HV) (v : Value), xs[j]? = some c → vs[j]? = some v → VRel E c v) →
    CellsRel E (setCells row off xs) ((vs.zipIdx).foldl (fun cs (c, j) => cs.setIfInBounds (off + j) c) cells) := by
  have key : ∀ (xs : List HV) (vs : List Value) (row : List HV) (cells : Array Value) (off n : Nat), CellsRel E row cells → xs.length = vs.length →
      (∀ (j : Nat) (c : HV) (v : Value), xs[j]? = some c → vs[j]? = some v → VRel E c v) →
      CellsRel E (setCells row (off + n) xs) ((vs.zipIdx n).foldl (fun cs (c, j) => cs.setIfInBounds (off + j) c) cells) := by
    intro xs
    induction xs with
    | nil => intro vs row cells off n h hl _; cases vs <;> simp_all [setCells]
    | cons x xs ih =>
      intro vs row cells off n h hl hr
      cases vs with
      | nil => simp at hl
      | cons v vs =>
        simp only [setCells, List.zipIdx_cons, List.foldl_cons]
        have := ih vs (row.set (off + n) x) (cells.setIfInBounds (off + n) v) off (n + 1) ⟨by simp [h.1], fun j c u h1 h2 => ?_⟩ (by simpa using hl)
          (fun j c u h1 h2 => hr (j + 1) c u (by simpa using h1) (by simpa using h2))
        · rw [show off + n + 1 = off + (n + 1) by omega]; exact this
        · by_cases hj : off + n = j
          · subst hj
            rw [List.getElem?_set] at h1
            simp only [Array.getElem?_setIfInBounds, if_true] at h1 h2
            split at h1
            · split at h2
              · cases h1; cases h2; exact hr 0 _ _ rfl rfl
              · cases h2
            · cases h1
          · rw [List.getElem?_set_ne hj] at h1
            rw [Array.getElem?_setIfInBounds_ne hj] at h2
            exact h.2 j c u h1 h2
  intro row cells off h hl hr
  have := key xs vs row cells off 0 h hl hr
  simpa using this

theorem fill_rel {Y : Sys} {E : Env} {sh : Sh} {pl : Nat → Option (Nat × Nat)} (hpl : ∀ i p, place Y sh i = some p → pl i = some p) :
    ∀ {parts : List (Nat × HV)} {vs : List (Nat × Value)} {row row' : List HV} {cells : Array Value}, parts.length = vs.length →
    (∀ (j : Nat) (p : Nat × HV) (q : Nat × Value), parts[j]? = some p → vs[j]? = some q → p.1 = q.1 ∧ VRel E p.2 q.2) → CellsRel E row cells →
    fillC Y sh parts row = some row' → ∃ cells', Instr.fill pl cells vs = some cells' ∧ CellsRel E row' cells' := by
  intro parts
  induction parts with
  | nil => intro vs row row' cells hl _ h hf; cases vs <;> simp_all [fillC, Instr.fill]
  | cons p parts ih =>
    intro vs row row' cells hl hr h hf
    cases vs with
    | nil => simp at hl
    | cons q vs =>
      obtain ⟨i, x⟩ := p
      obtain ⟨i', v⟩ := q
      obtain ⟨rfl, hx⟩ := hr 0 _ _ rfl rfl
      simp only [fillC] at hf
      split at hf
      · rename_i off z hp
        split at hf
        · rename_i hc
          have hcx := cells_of hx
          have h2 := setCells_rel (E := E) (xs := x.cells) (vs := v.cells.toList) off h (by simp [hcx.1]) (fun j c u h1 h2 => hcx.2 j c u h1 (by simpa using h2))
          obtain ⟨cells', h3, h4⟩ := ih (by simpa using hl) (fun j p q h1 h2 => hr (j + 1) p q (by simpa using h1) (by simpa using h2)) h2 hf
          refine ⟨cells', ?_, h4⟩
          simp only [Instr.fill, hpl _ _ hp]
          rw [if_neg]
          · have : (v.cells.zipIdx.foldl (fun cs (c, j) => cs.setIfInBounds (off + j) c) cells) = (v.cells.toList.zipIdx.foldl (fun cs (c, j) => cs.setIfInBounds (off + j) c) cells) := by
              rw [← Array.foldl_toList]; simp
            rw [this]; exact h3
          · have h1 : x.cells.length = v.cells.size := hcx.1
            have h0 := h.1
            have h5 : x.cells.length = z := hc.1
            have h6 : off + z ≤ row.length := hc.2
            simp only [Bool.or_eq_true, bne_iff_ne, ne_eq, decide_eq_true_eq, not_or, Classical.not_not]
            omega
        · cases hf
      · cases hf

theorem Env.le_setHd {E : Env} {Y : Sys} {C : Nat → Option Ob} {w : World} (hR : Rel Y E C w) {k n : Nat} {h : Nat × Option Nat × Nat} (hk : C k = none) : E.le (setHd E k n h) :=
  ⟨fun k1 n1 h1 hh => by
    simp only [setHd]
    by_cases e : k1 = k ∧ n1 = n
    · obtain ⟨_, _, h2, _⟩ := hR.hdC _ _ _ hh
      rw [e.1, hk] at h2; cases h2
    · rw [if_neg e]; exact hh, fun _ _ h => h, fun _ _ _ h => h⟩

/-- A new block for a new object. -/
theorem alloc_rel {Y : Sys} {E : Env} {C : Nat → Option Ob} {w : World} (hR : Rel Y E C w) {k : Nat} (hk : C k = none) (fr : Bool) (rows : List (List HV)) (sz : Nat) (cs : Array Value) (ty : TypeId)
    (hz : ∀ r ∈ rows, r.length = sz) (hsz : cs.size = rows.length * sz)
    (hv : ∀ (i j : Nat) (r : List HV) (c : HV), rows[i]? = some r → r[j]? = some c → ∃ v, cs[i * sz + j]? = some v ∧ VRel E c v) :
    Rel Y (setHd E k rows.length (sz, some w.heap.size, rows.length)) (setC C k (.cells fr rows)) { w with heap := w.heap.push (.cells cs ty) } ∧
      Go1 E w (setHd E k rows.length (sz, some w.heap.size, rows.length)) { w with heap := w.heap.push (.cells cs ty) } := by
  refine hR.putCells k fr rows sz (some w.heap.size) rows.length (.inl hk) rfl rfl rfl (by simp) (fun b hb _ => ?_) (fun B hB => ?_) (Nat.le_refl _) hz (fun h => by simp [h]) (fun h => by cases h) fun B hB => ?_
  · simp [Array.getElem?_push]; omega
  · cases hB; exact ⟨.inl (Nat.le_refl _), by simp⟩
  · cases hB
    refine ⟨cs, ty, by simp, hsz, fun i j r c h1 h2 => ?_, fun o v h1 => ?_⟩
    · obtain ⟨v, h3, h4⟩ := hv i j r c h1 h2
      exact ⟨v, h3, h4.mono (Env.le_setHd hR hk)⟩
    · have hm := hR.mem _ _ _ h1
      unfold World.cell? at hm
      simp at hm

/-- A row of one's own that has no block yet. -/
theorem ghost_rel {Y : Sys} {E : Env} {C : Nat → Option Ob} {w : World} (hR : Rel Y E C w) {k : Nat} (hk : C k = none) (fr : Bool) :
    Rel Y (setHd E k 0 (0, none, 0)) (setC C k (.cells fr [])) w ∧ Go1 E w (setHd E k 0 (0, none, 0)) w :=
  hR.putCells k fr [] 0 none 0 (.inl hk) rfl rfl rfl (Nat.le_refl _) (fun _ _ _ => rfl) (fun B hB => by cases hB) (Nat.le_refl _) (by simp) (fun _ => rfl) (fun _ => rfl) fun B hB => by cases hB

open Classical in
noncomputable def updC (C : Nat → Option Ob) (S S' : St) : Nat → Option Ob := fun k => if S'[k]? = S[k]? then C k else S'[k]?

theorem updC_same (C : Nat → Option Ob) (S : St) : updC C S S = C := by funext k; simp [updC]

theorem updC_push {C : Nat → Option Ob} {S : St} (h : ∀ k, S.length ≤ k → C k = none) (o : Ob) : updC C S (S ++ [o]) = setC C S.length o := by
  funext k
  simp only [updC, setC]
  by_cases hk : k = S.length
  · subst hk; simp
  · rw [if_neg hk]
    rcases Nat.lt_or_ge k S.length with h1 | h1
    · rw [List.getElem?_append_left h1, if_pos rfl]
    · rw [List.getElem?_eq_none (l := S ++ [o]) (by simp; omega), List.getElem?_eq_none (l := S) h1, if_pos rfl]

theorem updC_set {C : Nat → Option Ob} {S : St} {k : Nat} {old o : Ob} (h : S[k]? = some old) (hc : C k = some old ∨ o ≠ old) : updC C S (S.set k o) = setC C k o := by
  have hlt := (List.getElem?_eq_some_iff.1 h).1
  funext j
  simp only [updC, setC]
  by_cases hj : j = k
  · subst hj
    rw [if_pos rfl, List.getElem?_set_self hlt, h]
    by_cases he : o = old
    · subst he; rw [if_pos rfl]; rcases hc with hc | hc
      · exact hc
      · exact absurd rfl hc
    · rw [if_neg (by simpa using he)]
  · rw [if_neg hj, List.getElem?_set_ne (Ne.symm hj), if_pos rfl]

/-- Where a new object may go. -/
def NewOk (C : Nat → Option Ob) (S : St) (pl : Option Nat) : Prop := match pl with
  | none => ∀ k, S.length ≤ k → C k = none
  | some s => C s = none ∧ S[s]? = some .dummy

theorem newOb_k {C : Nat → Option Ob} {S : St} {pl : Option Nat} (h : NewOk C S pl) (o : Ob) : C (newOb pl S o).1 = none := by
  cases pl with
  | none => exact h _ (Nat.le_refl _)
  | some s => exact h.1
theorem newOb_C {C : Nat → Option Ob} {S : St} {pl : Option Nat} (h : NewOk C S pl) {o : Ob} (ho : o ≠ .dummy) : updC C S (newOb pl S o).2 = setC C (newOb pl S o).1 o := by
  cases pl with
  | none => exact updC_push h o
  | some s => exact updC_set h.2 (.inr ho)

end Go.Proofs.XVai
