/- Slice literals, stores, addresses. -/
import Derived.Test.YtkcneecnniimdaaV6
namespace Go.Proofs.XVai
open Go
set_option linter.unusedVariables false
set_option linter.unusedSimpArgs false

theorem flatten_get {α : Type} {z : Nat} : ∀ {rows : List (List α)}, (∀ r ∈ rows, r.length = z) → ∀ (i j : Nat) (r : List α) (c : α), rows[i]? = some r → r[j]? = some c → rows.flatten[i * z + j]? = some c := by
  intro rows
  induction rows with
  | nil => intro _ i j r c h; simp at h
  | cons r0 rest ih =>
    intro hz i j r c hi hj
    have h0 : r0.length = z := hz r0 (by simp)
    cases i with
    | zero =>
      simp at hi; subst hi
      rw [List.flatten_cons, Nat.zero_mul, Nat.zero_add, List.getElem?_append_left (List.getElem?_eq_some_iff.1 hj).1]
      exact hj
    | succ i =>
      rw [List.flatten_cons, List.getElem?_append_right (by rw [h0, Nat.succ_mul]; omega)]
      have := ih (fun r hr => hz r (by simp [hr])) i j r c (by simpa using hi) hj
      rw [h0, show (i + 1) * z + j - z = i * z + j by rw [Nat.succ_mul]; omega]
      exact this

theorem flatten_len {α : Type} {z : Nat} : ∀ {rows : List (List α)}, (∀ r ∈ rows, r.length = z) → rows.flatten.length = rows.length * z := by
  intro rows
  induction rows with
  | nil => intro _; simp
  | cons r0 rest ih =>
    intro hz
    rw [List.flatten_cons, List.length_append, ih (fun r hr => hz r (by simp [hr])), hz r0 (by simp), List.length_cons, Nat.succ_mul, Nat.add_comm]

theorem setCells_append_left (cs : List HV) : ∀ (a b : List HV) (off : Nat), off + cs.length ≤ a.length → setCells (a ++ b) off cs = setCells a off cs ++ b := by
  induction cs with
  | nil => intro a b off _; rfl
  | cons c cs ih =>
    intro a b off h
    simp only [setCells, List.length_cons] at h ⊢
    rw [List.set_append_left _ _ (by omega), ih _ _ _ (by simp; omega)]
theorem setCells_append_right (cs : List HV) : ∀ (a b : List HV) (off : Nat), setCells (a ++ b) (a.length + off) cs = a ++ setCells b off cs := by
  induction cs with
  | nil => intro a b off; rfl
  | cons c cs ih =>
    intro a b off
    simp only [setCells]
    rw [List.set_append_right _ _ (by omega), show a.length + off - a.length = off by omega, Nat.add_assoc, ih]
theorem setCells_whole (cs : List HV) : ∀ (a : List HV), a.length = cs.length → setCells a 0 cs = cs := by
  have key : ∀ (cs pre a : List HV), a.length = cs.length → setCells (pre ++ a) pre.length cs = pre ++ cs := by
    intro cs
    induction cs with
    | nil => intro pre a h; have : a = [] := List.eq_nil_of_length_eq_zero h; subst this; rfl
    | cons c cs ih =>
      intro pre a h
      cases a with
      | nil => simp at h
      | cons x a =>
        simp only [setCells]
        rw [List.set_append_right _ _ (Nat.le_refl _), Nat.sub_self, List.set_cons_zero]
        have := ih (pre ++ [c]) a (by simpa using h)
        simpa using this
  intro a h
  have := key cs [] a h
  simpa using this

theorem set_flatten {z : Nat} (v : List HV) (hv : v.length = z) : ∀ (rows : List (List HV)) (i : Nat), (∀ r ∈ rows, r.length = z) → i < rows.length → (rows.set i v).flatten = setCells rows.flatten (i * z) v := by
  intro rows
  induction rows with
  | nil => intro i _ h; simp at h
  | cons r0 rest ih =>
    intro i hz hi
    have h0 : r0.length = z := hz r0 (by simp)
    cases i with
    | zero =>
      rw [List.set_cons_zero, List.flatten_cons, List.flatten_cons, Nat.zero_mul, setCells_append_left _ _ _ _ (by omega), setCells_whole v r0 (by omega)]
    | succ i =>
      rw [List.set_cons_succ, List.flatten_cons, List.flatten_cons, ih i (fun r hr => hz r (by simp [hr])) (by simpa using hi)]
      have := setCells_append_right v r0 rest.flatten (i * z)
      rw [h0] at this
      rw [← this, Nat.succ_mul, Nat.add_comm]

theorem fillS_flat {Y : Sys} {el z n : Nat} (hz : tsize Y el = some z) : ∀ (parts : List (Nat × HV)) (rows rows' : List (List HV)), (∀ r ∈ rows, r.length = z) → fillS z parts rows = some rows' →
    fillC Y (.arr n el) parts rows.flatten = some rows'.flatten ∧ (∀ r ∈ rows', r.length = z) ∧ rows'.length = rows.length := by
  intro parts
  induction parts with
  | nil => intro rows rows' h hf; simp only [fillS, Option.some.injEq] at hf; subst hf; exact ⟨rfl, h, rfl⟩
  | cons p parts ih =>
    intro rows rows' h hf
    obtain ⟨i, v⟩ := p
    simp only [fillS] at hf
    split at hf
    · rename_i hc
      have hset : ∀ r ∈ rows.set i v.cells, r.length = z := fun r hr => (List.mem_or_eq_of_mem_set hr).elim (h r) (fun e => e ▸ hc.1)
      obtain ⟨h1, h2, h3⟩ := ih _ _ hset hf
      refine ⟨?_, h2, by simpa using h3⟩
      simp only [fillC, place, hz, Option.map_some]
      rw [if_pos, ← set_flatten v.cells hc.1 rows i h hc.2]
      · exact h1
      · refine ⟨hc.1, ?_⟩
        rw [flatten_len h]
        have : i * z + z ≤ rows.length * z := by rw [← Nat.succ_mul]; exact Nat.mul_le_mul_right _ hc.2
        exact this
    · cases hf

section
variable {P : Program} {Y : Sys} {E : Env} {C : Nat → Option Ob} {w : World}

theorem push_rel (hR : Rel Y E C w) (o : Obj) : Rel Y E C { w with heap := w.heap.push o } ∧ Go1 E w E { w with heap := w.heap.push o } := by
  have hget : ∀ b, b < w.heap.size → (w.heap.push o)[b]? = w.heap[b]? := fun b hb => by simp [Array.getElem?_push]; omega
  refine ⟨⟨hR.hdC, hR.mpC, ?_, ?_, hR.inj, hR.injm, hR.hdm, ?_, ?_, hR.glob, hR.nodummy⟩, ⟨.refl _, rfl, rfl, rfl, by simp, fun b hb _ => hget b hb, fun b h => .inl h⟩⟩
  · intro k fr rows h
    obtain ⟨sz, base, cap, h1, h2, h3, h4, h5, h6⟩ := hR.cells k fr rows h
    refine ⟨sz, base, cap, h1, h2, h3, h4, h5, fun B hB => ?_⟩
    obtain ⟨cs, ty, g1, g2⟩ := h6 B hB
    exact ⟨cs, ty, by show (w.heap.push o)[B]? = _; rw [hget B (Array.getElem?_eq_some_iff.1 g1).1]; exact g1, g2⟩
  · intro k es h
    obtain ⟨r, en, cl, h1, h2, h3⟩ := hR.maps k es h
    exact ⟨r, en, cl, h1, by show (w.heap.push o)[r]? = _; rw [hget r (Array.getElem?_eq_some_iff.1 h2).1]; exact h2, h3⟩
  · intro k n sz B cap h
    have := hR.bound _ _ _ _ _ h
    simp; omega
  · intro b p v h
    have hm := hR.mem _ _ _ h
    unfold World.cell? at hm ⊢
    have hb : b < w.heap.size := by
      rcases Nat.lt_or_ge b w.heap.size with h | h
      · exact h
      · simp [Array.getElem?_eq_none h] at hm
    show (match (w.heap.push o)[b]? with | some (.cells c _ _) => if (none : Option Nat).isSome then none else c[p]? | _ => none) = some v
    rw [hget b hb]; exact hm

/-- A new block of immutable memory. -/
theorem imm_rel (hR : Rel Y E C w) (cs : Array Value) (ty : TypeId) :
    let E' : Env := { E with M := fun b o => if b = w.heap.size then cs[o]? else E.M b o }
    let w' : World := { w with heap := w.heap.push (.cells cs ty) }
    Rel Y E' C w' ∧ Go1 E w E' w' := by
  intro E' w'
  obtain ⟨R, G⟩ := push_rel hR (.cells cs ty)
  have hlt : ∀ b o v, E.M b o = some v → b < w.heap.size := fun b o v h => by
    have hm := hR.mem _ _ _ h
    unfold World.cell? at hm
    rcases Nat.lt_or_ge b w.heap.size with h | h
    · exact h
    · simp [Array.getElem?_eq_none h] at hm
  have hle : E.le E' := ⟨fun _ _ _ h => h, fun _ _ h => h, fun b o v h => by
    show (if b = w.heap.size then cs[o]? else E.M b o) = some v
    rw [if_neg (by have := hlt b o v h; omega)]; exact h⟩
  refine ⟨⟨R.hdC, R.mpC, ?_, ?_, R.inj, R.injm, R.hdm, R.bound, ?_, ?_, R.nodummy⟩, ⟨hle, G.os, G.tape, G.output, G.size, G.frame, G.fresh⟩⟩
  · intro k fr rows h
    obtain ⟨sz, base, cap, h1, h2, h3, h4, h5, h6⟩ := R.cells k fr rows h
    refine ⟨sz, base, cap, h1, h2, h3, h4, h5, fun B hB => ?_⟩
    obtain ⟨cs1, ty1, g1, g2, g3, g4⟩ := h6 B hB
    refine ⟨cs1, ty1, g1, g2, fun i j r c hi hj => ?_, fun o v hv => ?_⟩
    · obtain ⟨v, hv, hr⟩ := g3 i j r c hi hj; exact ⟨v, hv, hr.mono hle⟩
    · replace hv : (if B = w.heap.size then cs[o]? else E.M B o) = some v := hv
      rw [if_neg (by subst hB; have := hR.bound _ _ _ _ _ h1; omega)] at hv
      exact g4 o v hv
  · intro k es h
    obtain ⟨r, en, cl, h1, h2, h3, h4⟩ := R.maps k es h
    exact ⟨r, en, cl, h1, h2, h3, fun i e m he hm => ⟨((h4 i e m he hm).1).mono hle, ((h4 i e m he hm).2).mono hle⟩⟩
  · intro b o v h
    replace h : (if b = w.heap.size then cs[o]? else E.M b o) = some v := h
    split at h
    · rename_i hb; subst hb; simp [World.cell?, w', h]
    · exact R.mem b o v h
  · intro g row hg
    obtain ⟨h1, f, h2⟩ := R.glob g row hg
    exact ⟨h1, f, fun j c hj => ⟨hle.M _ _ _ (h2 j c hj).1, ((h2 j c hj).2).mono hle⟩⟩

/-- What of a state is agreed on: all of it, or what an operation that changes nothing looks at. -/
def AgreeFor (C : Nat → Option Ob) (S : St) (o : Oper) (T : Tm) (slot : Option Nat) (S' : St) : Prop :=
  (∀ k, AgreeAt C S k) ∨ (∃ s, slot = some s ∧ isE o = false ∧ (∀ k ∈ reads o T, AgreeAt C S k) ∧ quietOp o T s S S' ∧ (∃ N, ∀ k, N ≤ k → C k = none) ∧ S[s]? = some .dummy)

theorem AgreeFor.at {S S' : St} {o : Oper} {T : Tm} {slot : Option Nat} (h : AgreeFor C S o T slot S') : ∀ k ∈ reads o T, AgreeAt C S k :=
  h.elim (fun h k _ => h k) (fun ⟨_, _, _, h, _⟩ => h)

theorem zeros_flat (z : List HV) (n : Nat) : (List.replicate n z).flatten.length = n * z.length := by
  induction n with
  | zero => simp
  | succ n ih => simp [List.replicate_succ, Nat.succ_mul, Nat.add_comm] at ih ⊢

theorem zeroRow_rel {E : Env} {z : Value} (hok : z.cells.toList.all okCell = true) (n : Nat) :
    CellsRel E (List.replicate n (z.cells.toList.map ofCell)).flatten ((Array.range (n * z.cells.size)).map (fun i => z.cells[i % z.cells.size]!)) := by
  have hz : ∀ r ∈ List.replicate n (z.cells.toList.map ofCell), r.length = z.cells.size := fun r hr => by rw [List.eq_of_mem_replicate hr]; simp
  refine ⟨by rw [flatten_len hz]; simp, fun j c v h1 h2 => ?_⟩
  have hj : j < n * z.cells.size := by
    have := (List.getElem?_eq_some_iff.1 h1).1
    rw [flatten_len hz] at this; simpa using this
  have hzp : 0 < z.cells.size := by
    rcases Nat.eq_zero_or_pos z.cells.size with h | h
    · rw [h] at hj; omega
    · exact h
  have hmod : j % z.cells.size < z.cells.size := Nat.mod_lt _ hzp
  have hdiv : j / z.cells.size < n := by rw [Nat.div_lt_iff_lt_mul hzp]; exact hj
  have hg := flatten_get hz (j / z.cells.size) (j % z.cells.size) (z.cells.toList.map ofCell) (ofCell z.cells[j % z.cells.size]) (by simp [List.getElem?_replicate, hdiv]) (by simp [hmod])
  rw [Nat.mul_comm, Nat.div_add_mod] at hg
  rw [hg] at h1
  cases h1
  simp only [Array.getElem?_map, Array.getElem?_range, hj, if_true, Option.map_some, Option.some.injEq] at h2
  subst h2
  have hb : z.cells[j % z.cells.size]! = z.cells[j % z.cells.size] := getElem!_pos z.cells _ hmod
  rw [hb]
  exact okCell_rel (List.all_eq_true.1 hok _ (by simp))

theorem sim_buildSlice (hY : SysOk Y P) (hR : Rel Y E C w) {S S1 : St} {slot : Option Nat} {T : Tm} {t el len : Nat} {ti te : TI} (ht : Y.tab t = some ti) (hsh : ti.sh = .slice el) (hte : Y.tab el = some te)
    {parts : Array (Nat × Operand)} {o : Oper} (ho : o.op = .buildSlice t len parts) (ρ : Operand → Value) (hA : AgreeFor C S o T slot S1) (hx : ∀ p ∈ parts.toList, VRel E (ev T p.2) (ρ p.2))
    {rows rows' : List (List HV)} (hlen : len ≠ 0) (hlim : len * te.size ≤ 16777216) (hf : fillS te.size (parts.toList.map fun (i, x) => (i, ev T x)) (List.replicate len te.zero) = some rows)
    (hm : mapMS (mapMS (frzC 0 6)) rows S = some (rows', S1)) (hp : rows'.all (fun r => r.all pureC) = true) : Sim P Y E C w S S1 slot o ρ (.lst rows') := by
  have hT := hY.tab _ _ ht
  have hu := hT.sh
  rw [hsh] at hu
  have hE := hY.tab _ _ hte
  obtain ⟨z, hz, hok, hzero, hsz⟩ := hE.run_zero w
  have hse := hE.run_size w
  have hzl := hE.zlen
  obtain ⟨_, _, _, _, _, _, _, _, _, hpos⟩ := hE.info
  have hr0 : ∀ r ∈ List.replicate len te.zero, r.length = te.size := fun r hr => by rw [List.eq_of_mem_replicate hr]; exact hzl
  obtain ⟨hfC, hrz, hrl⟩ := fillS_flat (Y := Y) (el := el) (n := 0) (by simp [tsize, hte]) _ _ _ hr0 hf
  have hprt := parts_rel (E := E) (T := T) (ρ := ρ) hx
  have hzr := zeroRow_rel (E := E) hok len
  rw [← hzero] at hzr
  obtain ⟨cells', hfill, hcr⟩ := fill_rel (Y := Y) (E := E) (sh := .arr 0 el) (pl := fun i => some (i * te.size, te.size)) (fun i p hpi => by
    simp only [place, tsize, hte, Option.map_some, Option.some.injEq] at hpi
    rw [← hpi]) hprt.1 hprt.2 hzr hfC
  have hcsz : cells'.size = len * te.size := by rw [← hcr.1, flatten_len hrz, hrl]; simp
  -- the rows' values
  let vss : List (List Value) := (List.range rows.length).map fun i => (List.range te.size).map fun j => (cells'[i * te.size + j]?).getD undef
  have hv : LRel (LRel VRel) E rows vss := by
    refine ⟨by simp [vss], fun i r vs hi hvs => ?_⟩
    have hi' : i < rows.length := (List.getElem?_eq_some_iff.1 hi).1
    simp only [vss, List.getElem?_map, List.getElem?_range hi', Option.map_some, Option.some.injEq] at hvs
    subst hvs
    have hrs := hrz r (List.mem_of_getElem? hi)
    refine ⟨by simp [hrs], fun j c v hj hvj => ?_⟩
    have hj' : j < te.size := by rw [← hrs]; exact (List.getElem?_eq_some_iff.1 hj).1
    simp only [List.getElem?_map, List.getElem?_range hj', Option.map_some, Option.some.injEq] at hvj
    have hg := flatten_get hrz i j r c hi hj
    have hlt : i * te.size + j < cells'.size := by rw [← hcr.1]; exact (List.getElem?_eq_some_iff.1 hg).1
    have := hcr.2 _ c cells'[i * te.size + j] hg (by simp [hlt])
    rw [Array.getElem?_eq_getElem hlt] at hvj
    simp at hvj; subst hvj; exact this
  have hstep : FStep Y w (LRel (LRel VRel)) (mapMS (mapMS (frzC 0 6))) :=
    FStep.list (fun E E' x v h hx => ⟨hx.1, fun i a b ha hb => (hx.2 i a b ha hb).mono h⟩) (FStep.list (fun E E' x v h hx => hx.mono h) (frzC_sim 0 6))
  have hfrz : ∃ E1, LRel (LRel VRel) E1 rows' vss ∧ Rel Y E1 (updC C S S1) w ∧ Go1 E w E1 w ∧ Kept3 C S S1 slot := by
    rcases hA with hA | ⟨s, _, hE', _, hq, ⟨N, hN⟩, _⟩
    · obtain ⟨E1, h1, h2, h3, _, h4⟩ := hstep _ _ _ _ E C vss hm hR hA hv
      exact ⟨E1, h1, h2, h3, Kept3.flag h4⟩
    · have hq2 := (hq hE').2.2
      rw [ho] at hq2
      simp only at hq2
      -- the cells are plain: the state is not looked at
      have hcells : ∀ r ∈ rows, ∀ c ∈ r, pureC c = true ∨ c = .nils := by
        have key : ∀ (ps : List (Nat × HV)) (rows rows' : List (List HV)), (∀ p ∈ ps, ∀ c ∈ p.2.cells, pureC c = true ∨ c = .nils) → (∀ r ∈ rows, ∀ c ∈ r, pureC c = true ∨ c = .nils) → fillS te.size ps rows = some rows' → ∀ r ∈ rows', ∀ c ∈ r, pureC c = true ∨ c = .nils := by
          intro ps
          induction ps with
          | nil => intro rows rows' _ h hf; simp only [fillS, Option.some.injEq] at hf; subst hf; exact h
          | cons p ps ih =>
            intro rows rows' hps h hf
            obtain ⟨i, v⟩ := p
            simp only [fillS] at hf
            split at hf
            · refine ih _ _ (fun p hp => hps p (by simp [hp])) (fun r hr => ?_) hf
              rcases List.mem_or_eq_of_mem_set hr with h1 | h1
              · exact h r h1
              · rw [h1]; exact hps (i, v) (by simp)
            · cases hf
        refine key _ _ _ (fun p hp => ?_) (fun r hr => ?_) hf
        · simp only [List.mem_map] at hp
          obtain ⟨⟨i, x⟩, h1, h2⟩ := hp
          subst h2
          exact hq2 (i, x) h1
        · rw [List.eq_of_mem_replicate hr, hzero]
          intro c hc
          simp only [List.mem_map] at hc
          obtain ⟨v, hv, rfl⟩ := hc
          have := List.all_eq_true.1 hok v hv
          unfold okCell at this
          split at this <;> simp [ofCell, pureC] at this ⊢
      obtain ⟨rows2, h2⟩ := mapMS_quiet (f := mapMS (frzC 0 6)) (xs := rows) (fun r hr => mapMS_quiet (f := frzC 0 6) (xs := r) fun c hc => frzC_quiet (hcells r hr c hc))
      have h3 := h2 S
      rw [hm] at h3
      simp only [Option.some.injEq, Prod.mk.injEq] at h3
      obtain ⟨rfl, rfl⟩ := h3
      obtain ⟨E1, h4, h5, h6, _⟩ := hstep _ _ _ _ E C vss (h2 (listOf C N)) hR (listOf_agree hN) hv
      rw [updC_same] at h5 ⊢
      exact ⟨E1, h4, h5, h6, Kept3.same _ _ _⟩
  obtain ⟨E1, r1, R1, G1, K1⟩ := hfrz
  obtain ⟨R2, G2⟩ := imm_rel R1 cells' el
  have hrl' : rows'.length = len := by rw [mapMS_len hm, hrl]; simp
  have hrz' : ∀ r ∈ rows', r.length = te.size := by
    intro r hr
    obtain ⟨i, hi⟩ := List.getElem?_of_mem hr
    obtain ⟨x, a, b, hx1, hx2⟩ := mapMS_get hm i r hi
    rw [mapMS_len hx2]; exact hrz x (List.mem_of_getElem? hx1)
  refine ⟨.slice (some ⟨w.heap.size, 0, none⟩) len len, _, _, .inl ?_, ?_, R2, G1.trans G2, K1⟩
  · unfold execOp
    have hne : len * te.size ≠ 0 := Nat.mul_ne_zero hlen (by omega)
    rw [hsz] at hfill
    simp only [ho, Instr.buildSlice, Sem.run_bind, run_underlying hu, Result.andThen_ok, hse, Sem.run_ite]
    rw [if_neg (by omega), if_neg hne]
    simp only [Sem.run_bind, hz, Result.andThen_ok, Sem.run_pure, hsz, hfill, newRow, run_newObj]
  · have hvv : ∀ (i j : Nat) (r : List HV) (c : HV), rows'[i]? = some r → r[j]? = some c → i * te.size + j < cells'.size ∧ VRel E1 c ((cells'[i * te.size + j]?).getD undef) := by
      intro i j r c hi hj
      have hi' : i < rows.length := by rw [← mapMS_len hm]; exact (List.getElem?_eq_some_iff.1 hi).1
      have hj' : j < te.size := by
        have := (List.getElem?_eq_some_iff.1 hj).1
        rw [hrz' r (List.mem_of_getElem? hi)] at this; exact this
      have hvs : vss[i]? = some ((List.range te.size).map fun j => (cells'[i * te.size + j]?).getD undef) := by
        simp only [vss, List.getElem?_map, List.getElem?_range hi', Option.map_some]
      have h8 := (r1.2 i r _ hi hvs).2 j c ((cells'[i * te.size + j]?).getD undef) hj (by simp only [List.getElem?_map, List.getElem?_range hj', Option.map_some])
      refine ⟨?_, h8⟩
      have h9 : i < len := by rw [hrl] at hi'; simpa using hi'
      have : i * te.size + te.size ≤ len * te.size := by rw [← Nat.succ_mul]; exact Nat.mul_le_mul_right _ h9
      omega
    have hnn : rows' ≠ [] := fun h => by rw [h] at hrl'; exact hlen hrl'.symm
    have := VRel.lst (E := { E1 with M := fun b o => if b = w.heap.size then cells'[o]? else E1.M b o }) rows' w.heap.size 0 rows'.length te.size hnn (Nat.le_refl _) hrz'
      (fun r hr c hc => List.all_eq_true.1 (List.all_eq_true.1 hp r hr) c hc) (fun i j => (cells'[i * te.size + j]?).getD undef)
      (fun i j r c hi hj => by
        have h1 := (hvv i j r c hi hj).1
        simp [h1])
      (fun i j r c hi hj => ((hvv i j r c hi hj).2).mono G2.le)
    rw [hrl'] at this
    exact this

theorem sim_emptySlice (hY : SysOk Y P) (hR : Rel Y E C w) {S : St} {t el : Nat} {ti te : TI} (ht : Y.tab t = some ti) (hsh : ti.sh = .slice el) (hte : Y.tab el = some te)
    {parts : Array (Nat × Operand)} (hpe : parts.isEmpty = true) {o : Oper} (ho : o.op = .buildSlice t 0 parts) (ρ : Operand → Value) (pl : Option Nat) : Sim P Y E C w S S pl o ρ .nils := by
  have hu := (hY.tab _ _ ht).sh
  rw [hsh] at hu
  have hse := (hY.tab _ _ hte).run_size w
  have hp : parts = #[] := by simpa using hpe
  obtain ⟨R1, G1⟩ := push_rel hR (.cells #[] el)
  refine ⟨.slice (some ⟨w.heap.size, 0, none⟩) 0 0, _, E, .inl ?_, .nils _, by rw [updC_same]; exact R1, G1, Kept3.same _ _ _⟩
  unfold execOp
  have h0 : ∀ f : Nat → Value, Array.map f (Array.range 0) = #[] := fun f => by apply Array.ext <;> simp
  simp [ho, Instr.buildSlice, run_underlying hu, hse, hp, Instr.fill, newRow, h0]

end
end Go.Proofs.XVai
