/- Rows that are appended to, and made. -/
import Derived.Test.YtkcneecnniimdaaV9
namespace Go.Proofs.XVai
open Go
set_option linter.unusedVariables false
set_option linter.unusedSimpArgs false

theorem growBy_le (need : Nat) : ∀ (r c : Nat), c ≤ 2 * need + 1000 → Builtin.growBy need r c ≤ 2 * need + 1000
  | 0, c, h => h
  | r + 1, c, h => by
    unfold Builtin.growBy
    split
    · exact h
    · exact growBy_le need r _ (by omega)

theorem nextcap_le {need cap : Nat} (h : cap < need) : Builtin.nextslicecap need cap ≤ 2 * need + 1000 := by
  unfold Builtin.nextslicecap
  split
  · omega
  · split
    · omega
    · exact growBy_le _ _ _ (by omega)

theorem flat_of {z : Nat} {us : List Value} {rows : List (List HV)} {E : Env} (hl : us.length = rows.length * z) (hz : ∀ r ∈ rows, r.length = z)
    (hv : ∀ (i j : Nat) (r : List HV) (c : HV) (u : Value), rows[i]? = some r → r[j]? = some c → us[i * z + j]? = some u → VRel E c u) {i j : Nat} {r : List HV} {c : HV} (hi : rows[i]? = some r) (hj : r[j]? = some c) :
    ∃ u, us[i * z + j]? = some u ∧ VRel E c u := by
  have h1 : i < rows.length := (List.getElem?_eq_some_iff.1 hi).1
  have h2 : j < z := by rw [← hz r (List.mem_of_getElem? hi)]; exact (List.getElem?_eq_some_iff.1 hj).1
  have h3 : i * z + z ≤ rows.length * z := by rw [← Nat.succ_mul]; exact Nat.mul_le_mul_right _ h1
  have h4 : i * z + j < us.length := by omega
  exact ⟨us[i * z + j], by simp [h4], hv i j r c _ hi hj (by simp [h4])⟩

section
variable {P : Program} {Y : Sys} {E : Env} {C : Nat → Option Ob} {w : World}

/-- The cells of n values of z cells each, read one by one. -/
theorem read_cells {rows : List (List HV)} {z b q : Nat} (hz : ∀ r ∈ rows, r.length = z) (h : ∀ (i j : Nat) (r : List HV) (c : HV), rows[i]? = some r → r[j]? = some c → ∃ u, w.cell? ⟨b, q + (i * z + j), none⟩ = some u ∧ VRel E c u) :
    ∃ us : List Value, us.length = rows.length * z ∧ (∀ w' : World, w'.heap = w.heap → (loadCells ⟨b, q, none⟩ (rows.length * z)).run P w' = .ok us.toArray w') ∧
      (∀ (i j : Nat) (r : List HV) (c : HV) (u : Value), rows[i]? = some r → r[j]? = some c → us[i * z + j]? = some u → VRel E c u) ∧ ∀ (p : Nat) (u : Value), us[p]? = some u → w.cell? ⟨b, q + p, none⟩ = some u := by
  have hzp : ∀ p, p < rows.length * z → 0 < z := fun p hp => by
    rcases Nat.eq_zero_or_pos z with h0 | h0
    · rw [h0] at hp; omega
    · exact h0
  obtain ⟨us, hl, hu⟩ := exists_list (rows.length * z) (fun p u => w.cell? ⟨b, q + p, none⟩ = some u ∧ ∀ r c, rows[p / z]? = some r → r[p % z]? = some c → VRel E c u) (fun p hp => by
    have hz0 := hzp p hp
    have h1 : p / z < rows.length := by rw [Nat.div_lt_iff_lt_mul hz0]; exact hp
    have h2 : p % z < rows[p / z].length := by rw [hz _ (by simp)]; exact Nat.mod_lt _ hz0
    obtain ⟨u, h3, h4⟩ := h (p / z) (p % z) rows[p / z] rows[p / z][p % z] (by simp [h1]) (by simp [h2])
    have h5 : p / z * z + p % z = p := by rw [Nat.mul_comm]; exact Nat.div_add_mod p z
    rw [h5] at h3
    refine ⟨u, h3, fun r c hr hc => ?_⟩
    rw [List.getElem?_eq_getElem h1] at hr
    cases hr
    rw [List.getElem?_eq_getElem h2] at hc
    cases hc
    exact h4)
  have hrun : ∀ w' : World, w'.heap = w.heap → (loadCells ⟨b, q, none⟩ (rows.length * z)).run P w' = .ok us.toArray w' := fun w' hw' => by
    have := run_loadCells_list (P := P) w' ⟨b, q, none⟩ us (fun p u hpu => by
      rw [addr_add]
      have h1 := (hu p u hpu).1
      unfold World.cell? at h1 ⊢
      rw [hw']; exact h1)
    rw [hl] at this
    exact this
  refine ⟨us, hl, hrun, fun i j r c u hi hj hu' => ?_, fun p u hpu => (hu p u hpu).1⟩
  have hj' : j < z := by rw [← hz r (List.mem_of_getElem? hi)]; exact (List.getElem?_eq_some_iff.1 hj).1
  have h1 : (i * z + j) / z = i := by
    rw [Nat.mul_comm, Nat.mul_add_div (by omega), Nat.div_eq_of_lt hj', Nat.add_zero]
  have h2 : (i * z + j) % z = j := by rw [Nat.mul_comm, Nat.mul_add_mod, Nat.mod_eq_of_lt hj']
  exact (hu _ u hu').2 r c (by rw [h1]; exact hi) (by rw [h2]; exact hj)

/-- What is appended is read. -/
theorem src_sim (hR : Rel Y E C w) {S : St} (hA : ∀ k, AgreeAt C S k) {y : HV} {v : Value} (hy : VRel E y v) {rs : List (List HV)} {z : Nat} (hr : rowsOf S y = some rs) (hz : ∀ r ∈ rs, r.length = z) :
    ∃ us : List Value, us.length = rs.length * z ∧ (∀ w, (Builtin.lenOf v).run P w = .ok rs.length w) ∧ (∀ w' : World, w'.heap = w.heap → (Builtin.firstCells z rs.length v).run P w' = .ok us.toArray w') ∧
      (∀ (i j : Nat) (r : List HV) (c : HV) (u : Value), rs[i]? = some r → r[j]? = some c → us[i * z + j]? = some u → VRel E c u) := by
  cases hy with
  | nils b =>
    simp only [rowsOf, Option.some.injEq] at hr
    subst hr
    refine ⟨[], by simp, fun _ => rfl, fun w' _ => ?_, by simp⟩
    cases b <;> simp [Builtin.firstCells, loadCells, loadCellsFrom]
  | lst0 b cap =>
    simp only [rowsOf, Option.some.injEq] at hr
    subst hr
    refine ⟨[], by simp, fun _ => rfl, fun w' _ => ?_, by simp⟩
    cases b <;> simp [Builtin.firstCells, loadCells, loadCellsFrom]
  | lst rows b o cap sz hn hcap hz' hp f hM hV =>
    simp only [rowsOf, Option.some.injEq] at hr
    subst hr
    have hszz : sz = z := by
      cases rows with
      | nil => exact absurd rfl hn
      | cons r0 rest => rw [← hz' r0 (by simp), ← hz r0 (by simp)]
    subst hszz
    obtain ⟨us, h1, h2, h3, _⟩ := read_cells (P := P) (E := E) (w := w) (b := b) (q := o) hz (fun i j r c hi hj => ⟨f i j, by rw [← Nat.add_assoc]; exact hR.mem _ _ _ (hM i j r c hi hj), hV i j r c hi hj⟩)
    exact ⟨us, h1, fun _ => rfl, fun w' hw' => by simpa [Builtin.firstCells] using h2 w' hw', h3⟩
  | sl k n sz base cap hd hcap =>
    simp only [rowsOf] at hr
    split at hr
    · rename_i fr rows hS
      split at hr
      · rename_i hn
        simp only [Option.some.injEq] at hr
        subst hr; subst hn
        obtain ⟨fr0, rows0, hC0, _⟩ := hR.hdC _ _ _ hd
        have hC : C k = some (.cells fr rows) := by
          rcases hA k _ hC0 with h1 | h1 <;> rw [hS] at h1 <;> cases h1
          exact hC0
        obtain ⟨sz', base', cap', h1, h2, h3, h4, h5, h6⟩ := hR.cells _ _ _ hC
        rw [hd] at h1
        simp only [Option.some.injEq, Prod.mk.injEq] at h1
        obtain ⟨rfl, rfl, rfl⟩ := h1
        cases base with
        | none =>
          have hc0 := h5 rfl
          have hr0 : rows = [] := List.eq_nil_of_length_eq_zero (by omega)
          subst hr0
          exact ⟨[], by simp, fun _ => rfl, fun w' _ => by simp [Builtin.firstCells], by simp⟩
        | some B =>
          obtain ⟨cs, ty, g1, g2, g3, g4⟩ := h6 B rfl
          by_cases hemp : rows = []
          · subst hemp
            exact ⟨[], by simp, fun _ => rfl, fun w' _ => by simp [Builtin.firstCells, loadCells, loadCellsFrom], by simp⟩
          · have hszz : sz = z := by
              cases rows with
              | nil => exact absurd rfl hemp
              | cons r0 rest => rw [← h3 r0 (by simp), ← hz r0 (by simp)]
            subst hszz
            obtain ⟨us, e1, e2, e3, _⟩ := read_cells (P := P) (E := E) (w := w) (b := B) (q := 0) h3 (fun i j r c hi hj => by
              obtain ⟨u, hu, hr⟩ := g3 i j r c hi hj
              exact ⟨u, by rw [Nat.zero_add, cell_of_row w B _ cs ty _ g1]; exact hu, hr⟩)
            exact ⟨us, e1, fun _ => rfl, fun w' hw' => by simpa [Builtin.firstCells] using e2 w' hw', e3⟩
      · cases hr
    · cases hr
  | _ => simp [rowsOf] at hr

theorem zero_cells_size {z : Value} {n : Nat} : (Builtin.zeroCells z.cells n).size = n * z.cells.size := by simp [Builtin.zeroCells]

theorem appendCap_cut (need cap t elem : Nat) : need ≤ (Question.appendCap need cap elem).cut t := by simp [Question.cut]

theorem run_append {w : World} {t t2 ty el : TypeId} {te : TI} (hY : SysOk Y P) (hu : P.underlying t = some (.slice el)) (hte : Y.tab el = some te) (hu2 : ∃ e2, P.underlying t2 = some (.slice e2))
    {base : Option Addr} {sLen cap n : Nat} {v : Value} {us old : List Value} (hlen : ∀ w, (Builtin.lenOf v).run P w = .ok n w) (hus : ∀ w' : World, w'.heap = w.heap → (Builtin.firstCells te.size n v).run P w' = .ok us.toArray w')
    (hl : us.length = n * te.size) (hol : old.length = sLen * te.size) (hold : ∀ w' : World, w'.heap = w.heap → (Builtin.firstCells te.size sLen (.slice base sLen cap)).run P w' = .ok old.toArray w') (hlim : sLen + n ≤ lim) (hcap : sLen ≤ cap) :
    (sLen + n ≤ cap → (Builtin.append_ #[t, t2] ty #[.slice base sLen cap, v]).run P w =
      ((match base with | some a => storeCells (a.add (sLen * te.size)) us | none => pure ()).run P w).andThen fun _ w' => .ok (.slice base (sLen + n) cap) w') ∧
    (cap < sLen + n → ∃ (newCap : Nat) (rest : Array Value) (d : Nat), sLen + n ≤ newCap ∧ rest.size = (newCap - (sLen + n)) * te.size ∧
      (Builtin.append_ #[t, t2] ty #[.slice base sLen cap, v]).run P w = .ok (.slice (some ⟨w.heap.size, 0, none⟩) (sLen + n) newCap)
        { { w with drawn := d } with heap := w.heap.push (.cells (old.toArray ++ us.toArray ++ rest) el) }) := by
  have hT := hY.tab _ _ hte
  obtain ⟨i, z, h1, h2, h3, h4, _, _, h7, _⟩ := hT.info
  have hse := hT.run_size
  obtain ⟨e2, hu2⟩ := hu2
  have hinfo : ∀ w, (typeInfo el).run P w = .ok i w := fun w => by simp [typeInfo, h1]
  have hzero : ∀ w, (zeroValue el).run P w = .ok z w := fun w => by simp [zeroValue, typeInfo, h1, h4]
  have hzeros : ∀ w, (underlying t2).run P w = .ok (.slice e2) w := fun w => run_underlying hu2 w
  refine ⟨fun hc => ?_, fun hc => ?_⟩
  · simp only [Builtin.append_, List.getElem?_toArray, List.getElem?_cons_zero, List.getElem?_cons_succ, Sem.run_bind, run_underlying hu, Result.andThen_ok, hse, hzeros, Sem.run_pure, hlen]
    simp only [Bool.false_eq_true, if_false, hlen, Result.andThen_ok, Bool.not_false, if_true, hc, Sem.run_bind, hus w rfl]
    cases base with
    | none => simp
    | some a => simp
  · have hb : ¬ Builtin.nextslicecap (sLen + n) cap * i.bytes > 2 ^ 48 := by
      have h9 : Builtin.nextslicecap (sLen + n) cap * i.bytes ≤ (2 * (sLen + n) + 1000) * 4096 := Nat.mul_le_mul (nextcap_le hc) h3
      unfold lim at hlim
      omega
    refine ⟨(Question.appendCap (sLen + n) cap el).cut (w.tape w.drawn (.appendCap (sLen + n) cap el)), Builtin.zeroCells z.cells ((Question.appendCap (sLen + n) cap el).cut (w.tape w.drawn (.appendCap (sLen + n) cap el)) - (sLen + n)), w.drawn + 1, appendCap_cut _ _ _ _, by rw [zero_cells_size, h7], ?_⟩
    simp only [Builtin.append_, List.getElem?_toArray, List.getElem?_cons_zero, List.getElem?_cons_succ, Sem.run_bind, run_underlying hu, Result.andThen_ok, hse, hzeros, Sem.run_pure, hlen]
    simp only [Bool.false_eq_true, if_false, hlen, Result.andThen_ok, Bool.not_false, if_true, Nat.not_le.2 hc, Sem.run_bind, Sem.run_ite, hinfo, hb, run_choose, Question.forced, run_askRoom]
    have h63 : ¬ ((((sLen + n : Nat)) : Int) > IntKind.i64.max ∧ (False ∨ i.bytes = 0)) := by
      rintro ⟨h, _⟩
      unfold lim at hlim
      simp [IntKind.max, IntKind.signed, IntKind.bits] at h
      omega
    rw [if_neg h63, hold { w with drawn := w.drawn + 1 } rfl, Result.andThen_ok, hus { w with drawn := w.drawn + 1 } rfl, Result.andThen_ok, hzero, Result.andThen_ok]
    rfl

theorem Go1.undrew {E E' : Env} {w w1 w' : World} (h : Go1 E w1 E' w') (h1 : w1.heap = w.heap) (h2 : w1.os = w.os) (h3 : w1.tape = w.tape) (h4 : w1.output = w.output) : Go1 E w E' w' where
  le := h.le
  os := h.os.trans h2
  tape := h.tape.trans h3
  output := h.output.trans h4
  size := by rw [← h1]; exact h.size
  frame := by rw [← h1]; exact h.frame
  fresh := by rw [← h1]; exact h.fresh

theorem getElem?_join {z : Nat} {a b : List Value} {c : Array Value} {n i j : Nat} (ha : a.length = n * z) (hj : j < z) :
    (a.toArray ++ b.toArray ++ c)[i * z + j]? = if i < n then a[i * z + j]? else if i * z + j < n * z + b.length then b[(i - n) * z + j]? else c[i * z + j - (n * z + b.length)]? := by
  by_cases hi : i < n
  · rw [if_pos hi]
    have h3 : i * z + z ≤ n * z := by rw [← Nat.succ_mul]; exact Nat.mul_le_mul_right _ hi
    rw [Array.getElem?_append_left (by simp; omega), Array.getElem?_append_left (by simp; omega)]
    simp
  · rw [if_neg hi]
    have h3 : n * z ≤ i * z := Nat.mul_le_mul_right _ (by omega)
    by_cases h4 : i * z + j < n * z + b.length
    · rw [if_pos h4, Array.getElem?_append_left (by simp; omega), Array.getElem?_append_right (by simp; omega)]
      simp only [List.size_toArray, List.getElem?_toArray]
      congr 1
      rw [Nat.sub_mul]; omega
    · rw [if_neg h4, Array.getElem?_append_right (by simp; omega)]
      simp [ha]

/-- The rows of both, one behind the other. -/
theorem rows_join {z : Nat} {rows rs : List (List HV)} {a b : List Value} (hz : ∀ r ∈ rows, r.length = z) (hz2 : ∀ r ∈ rs, r.length = z) (ha : a.length = rows.length * z) (hb : b.length = rs.length * z)
    (hva : ∀ (i j : Nat) (r : List HV) (c : HV) (u : Value), rows[i]? = some r → r[j]? = some c → a[i * z + j]? = some u → VRel E c u)
    (hvb : ∀ (i j : Nat) (r : List HV) (c : HV) (u : Value), rs[i]? = some r → r[j]? = some c → b[i * z + j]? = some u → VRel E c u) (rest : Array Value)
    (i j : Nat) (r : List HV) (c : HV) (hi : (rows ++ rs)[i]? = some r) (hj : r[j]? = some c) : ∃ v, (a.toArray ++ b.toArray ++ rest)[i * z + j]? = some v ∧ VRel E c v := by
  by_cases h : i < rows.length
  · rw [List.getElem?_append_left h] at hi
    have hj' : j < z := by rw [← hz r (List.mem_of_getElem? hi)]; exact (List.getElem?_eq_some_iff.1 hj).1
    rw [getElem?_join ha hj', if_pos h]
    exact flat_of ha hz hva hi hj
  · rw [List.getElem?_append_right (by omega)] at hi
    have hj' : j < z := by rw [← hz2 r (List.mem_of_getElem? hi)]; exact (List.getElem?_eq_some_iff.1 hj).1
    have hlt := (List.getElem?_eq_some_iff.1 hi).1
    have h3 : (i - rows.length) * z + z ≤ rs.length * z := by rw [← Nat.succ_mul]; exact Nat.mul_le_mul_right _ hlt
    have h4 : i * z = rows.length * z + (i - rows.length) * z := by rw [← Nat.add_mul]; congr 1; omega
    rw [getElem?_join ha hj', if_neg h, if_pos (by omega)]
    exact flat_of hb hz2 hvb hi hj

theorem sim_append (hY : SysOk Y P) (hR : Rel Y E C w) {mu : Bool} {S S1 : St} {pl : Option Nat} (hN : NewOk C S pl) (hA : ∀ k, AgreeAt C S k) {x y : Operand} {t t2 el e2 : Nat} {ti ti2 te : TI} {o : Oper}
    (ho : o.op = .call { callee := .builtin .append, args := #[x, y], argTypes := #[t, t2] }) (ht : Y.tab t = some ti) (hs : ti.sh = .slice el) (ht2 : Y.tab t2 = some ti2) (hs2 : ti2.sh = .slice e2) (hte : Y.tab el = some te)
    (ρ : Operand → Value) {cx cy c : HV} (hx : VRel E cx (ρ x)) (hy : VRel E cy (ρ y)) (hc : cappend mu pl S te.size cx cy = some (c, S1)) : Sim P Y E C w S S1 pl o ρ c := by
  have hu := (hY.tab _ _ ht).sh
  rw [hs] at hu
  have hu2 := (hY.tab _ _ ht2).sh
  rw [hs2] at hu2
  have hexec : ∀ r w', (Builtin.append_ #[t, t2] o.type #[ρ x, ρ y]).run P w = .ok r w' → (execOp ρ o).run P w = .ok (.value r) w' := by
    intro r w' h
    unfold execOp
    simp only [ho, resolve, Sem.run_bind, Sem.run_pure, Result.andThen_ok, invoke, builtin]
    simp [h]
  simp only [cappend] at hc
  split at hc
  · cases hc
  · rename_i rs hrs
    split at hc
    · rename_i hall
      have hz : ∀ r ∈ rs, r.length = te.size := fun r hr => by
        have := List.all_eq_true.1 hall r hr
        simp only [Bool.and_eq_true, beq_iff_eq] at this
        exact this.1
      have hcell : ∀ r ∈ rs, ∀ c ∈ r, isCell c = true := fun r hr c hc => by
        have := List.all_eq_true.1 hall r hr
        simp only [Bool.and_eq_true] at this
        exact List.all_eq_true.1 this.2 c hc
      obtain ⟨us, hul, hlen, hus, huv⟩ := src_sim (P := P) hR hA hy hrs hz
      split at hc
      · -- nothing yet
        generalize hv : ρ x = v at hx
        cases hx with
        | nils b =>
          have hold : ∀ w' : World, w'.heap = w.heap → (Builtin.firstCells te.size 0 (.slice b 0 0)).run P w' = .ok ([] : List Value).toArray w' := fun w' _ => by
            cases b <;> simp [Builtin.firstCells, loadCells, loadCellsFrom]
          split at hc
          · rename_i hemp
            simp only [Option.some.injEq, Prod.mk.injEq] at hc
            obtain ⟨rfl, rfl⟩ := hc
            have hr0 : rs = [] := by simpa using hemp
            subst hr0
            have hu0 : us = [] := List.eq_nil_of_length_eq_zero (by simpa using hul)
            subst hu0
            have hrun := (run_append (w := w) (ty := o.type) hY hu hte ⟨e2, hu2⟩ (base := b) (sLen := 0) (cap := 0) (n := 0) (v := ρ y) hlen hus (by simp) (by simp) hold (by simp [lim]) (Nat.le_refl _)).1 (Nat.le_refl _)
            refine Sim.same hR (v := .slice b 0 0) (hexec _ _ ?_) (.nils b)
            rw [hv, hrun]
            cases b <;> simp [storeCells]
          · rename_i hemp
            split at hc
            · rename_i hl
              simp only [Option.some.injEq, Prod.mk.injEq] at hc
              obtain ⟨rfl, rfl⟩ := hc
              have hpos : 0 < rs.length := by
                cases rs with
                | nil => simp at hemp
                | cons a b => simp
              obtain ⟨newCap, rest, d, h1, h2, hrun⟩ := (run_append (w := w) (ty := o.type) hY hu hte ⟨e2, hu2⟩ (base := b) (sLen := 0) (cap := 0) (n := rs.length) (v := ρ y) hlen hus hul (by simp) hold (by simpa using hl) (Nat.le_refl _)).2 (by omega)
              have hRd : Rel Y E C { w with drawn := d } := hR.drew rfl
              have hk := newOb_k hN (.cells (!mu) rs)
              have hput := hRd.putCells (w' := { { w with drawn := d } with heap := w.heap.push (.cells (([] : List Value).toArray ++ us.toArray ++ rest) el) }) (newOb pl S (.cells (!mu) rs)).1 (!mu) rs te.size (some w.heap.size) newCap (.inl hk) rfl rfl rfl (by simp)
                (fun b' hb' _ => by simp [Array.getElem?_push]; have : b' < w.heap.size := hb'; omega) (fun B hB => by cases hB; exact ⟨.inl (Nat.le_refl _), by simp⟩) (by omega) hz (fun h => by rw [h] at hpos; simp at hpos) (fun h => by cases h)
                (fun B hB => by
                  cases hB
                  refine ⟨([] : List Value).toArray ++ us.toArray ++ rest, el, by simp, by simp only [Array.size_append, List.size_toArray, List.length_nil, Nat.zero_add, hul, h2]; rw [← Nat.add_mul]; congr 1; omega, fun i j r c hi hj => ?_, fun q u hq => ?_⟩
                  · obtain ⟨u, hu', hr'⟩ := rows_join (E := E) (rows := []) (rs := rs) (a := []) (b := us) (by simp) hz (by simp) hul (by simp) huv rest i j r c (by simpa using hi) hj
                    exact ⟨u, hu', hr'.mono (Env.le_setHd hR hk)⟩
                  · have hm := hR.mem _ _ _ hq
                    unfold World.cell? at hm
                    simp at hm)
              rw [Nat.zero_add] at hrun
              refine ⟨.slice (some ⟨w.heap.size, 0, none⟩) rs.length newCap, _, _, .inl (hexec _ _ (by rw [hv]; exact hrun)), ?_, by rw [newOb_C hN (by simp)]; exact hput.1, hput.2.undrew rfl rfl rfl rfl, Kept3.new _ _ _ _⟩
              exact .sl _ _ te.size (some w.heap.size) newCap (by simp [setHd]) (by omega)
            · cases hc
      · -- rows of one's own
        rename_i k n
        split at hc
        · rename_i fr rows hS
          split at hc
          · rename_i hcc
            obtain ⟨hn, hl, hall2⟩ := hcc
            simp only [Option.some.injEq, Prod.mk.injEq] at hc
            obtain ⟨rfl, rfl⟩ := hc
            subst hn
            have hz2 : ∀ r ∈ rows, r.length = te.size := fun r hr => by have := List.all_eq_true.1 hall2 r hr; simpa using this
            obtain ⟨olds, hol, hlo, hold, hov⟩ := src_sim (P := P) hR hA hx (rs := rows) (z := te.size) (by simp [rowsOf, hS]) hz2
            generalize hv : ρ x = v at hx hlo hold
            cases hx with
            | sl k n sz base cap hd hcap =>
              obtain ⟨fr0, rows0, hC0, _⟩ := hR.hdC _ _ _ hd
              have hC : C k = some (.cells fr rows) := by
                rcases hA k _ hC0 with h1 | h1 <;> rw [hS] at h1 <;> cases h1
                exact hC0
              obtain ⟨sz', base', cap', h1, h2, h3, h4, h5, h6⟩ := hR.cells _ _ _ hC
              rw [hd] at h1
              simp only [Option.some.injEq, Prod.mk.injEq] at h1
              obtain ⟨rfl, rfl, rfl⟩ := h1
              have hra := run_append (w := w) (ty := o.type) hY hu hte ⟨e2, hu2⟩ (base := base.map fun B => ⟨B, 0, none⟩) (sLen := rows.length) (cap := cap) (n := rs.length) (v := ρ y) hlen hus hul hol hold hl hcap
              have hz3 : ∀ r ∈ rows ++ rs, r.length = te.size := fun r hr => (List.mem_append.1 hr).elim (hz2 r) (hz r)
              by_cases hfit : rows.length + rs.length ≤ cap
              · -- in place
                have hrun := hra.1 hfit
                cases base with
                | none =>
                  have hc0 := h5 rfl
                  have hr0 : rows = [] := List.eq_nil_of_length_eq_zero (by omega)
                  have hr1 : rs = [] := List.eq_nil_of_length_eq_zero (by omega)
                  subst hr0; subst hr1
                  refine ⟨.slice none 0 cap, w, E, .inl (hexec _ _ (by rw [hv, hrun]; simp)), by simpa using VRel.sl k 0 sz none cap hd (Nat.zero_le _), ?_, Go1.refl _ _, Kept3.set _ hC hS⟩
                  rw [updC_set hS (.inl hC)]
                  simp only [List.append_nil]
                  rw [setC_self hC]; exact hR
                | some B =>
                  obtain ⟨cs, ty, g1, g2, g3, g4⟩ := h6 B rfl
                  by_cases hrs0 : rs = []
                  · subst hrs0
                    have hu0 : us = [] := List.eq_nil_of_length_eq_zero (by simpa using hul)
                    subst hu0
                    refine ⟨.slice (some ⟨B, 0, none⟩) rows.length cap, w, E, .inl (hexec _ _ (by rw [hv, hrun]; simp [storeCells])), by simpa using VRel.sl k rows.length sz (some B) cap hd hcap, ?_, Go1.refl _ _, Kept3.set _ hC hS⟩
                    rw [updC_set hS (.inl hC)]
                    simp only [List.append_nil]
                    rw [setC_self hC]; exact hR
                  · have hszz : sz = te.size := by
                      cases rows with
                      | nil => have := h4 rfl; have h0 : 0 < rs.length := List.length_pos_iff.2 hrs0; simp at hfit; omega
                      | cons r0 rest => rw [← h3 r0 (by simp), ← hz2 r0 (by simp)]
                    subst hszz
                    have hbnd : rows.length * te.size + us.length ≤ cs.size := by rw [hul, g2, ← Nat.add_mul]; exact Nat.mul_le_mul_right _ hfit
                    have hone : ∀ u ∈ us, u.oneCell' = true := fun u hu' => by
                      obtain ⟨p, hp⟩ := List.getElem?_of_mem hu'
                      have hpl : p < rs.length * te.size := by rw [← hul]; exact (List.getElem?_eq_some_iff.1 hp).1
                      have hz0 : 0 < te.size := by
                        rcases Nat.eq_zero_or_pos te.size with h0 | h0
                        · rw [h0] at hpl; omega
                        · exact h0
                      have e1 : p / te.size < rs.length := by rw [Nat.div_lt_iff_lt_mul hz0]; exact hpl
                      have e2 : p % te.size < rs[p / te.size].length := by rw [hz _ (by simp)]; exact Nat.mod_lt _ hz0
                      have e3 : p / te.size * te.size + p % te.size = p := by rw [Nat.mul_comm]; exact Nat.div_add_mod p te.size
                      exact isCell_one (huv _ _ _ _ u (List.getElem?_eq_getElem e1) (List.getElem?_eq_getElem e2) (by rw [e3]; exact hp)) (hcell _ (List.getElem_mem e1) _ (List.getElem_mem e2))
                    have hst := run_storeCells_at P B (rows.length * te.size) ty us 0 cs w g1 (by simpa using hbnd) hone
                    simp only [Nat.add_zero] at hst
                    have hsp := splice_get cs.toList us (rows.length * te.size)
                    let cs' : Array Value := (cs.toList.take (rows.length * te.size) ++ us ++ cs.toList.drop (rows.length * te.size + us.length)).toArray
                    have hget : ∀ q, cs'[q]? = if q < rows.length * te.size then cs[q]? else if q < rows.length * te.size + us.length then us[q - rows.length * te.size]? else cs[q]? := by
                      intro q
                      have := hsp q (by simpa using hbnd)
                      simp only [Array.getElem?_toList] at this
                      simp only [cs', List.getElem?_toArray]
                      exact this
                    have hsz' : cs'.size = cs.size := by
                      simp only [cs', List.size_toArray, List.length_append, List.length_take, List.length_drop, Array.length_toList]
                      omega
                    have hlen3 : (rows ++ rs).length = rows.length + rs.length := by simp
                    have hpos : 0 < rs.length := List.length_pos_iff.2 hrs0
                    have hput := hR.putCells (w' := w.setRow B cs') k fr (rows ++ rs) te.size (some B) cap (.inr ⟨_, _, hC, by omega, fun h => by omega⟩) rfl rfl rfl
                      (by rw [setRow_size]; exact Nat.le_refl _) (fun b hb hne => setRow_ne w B b cs' (fun e => hne (by rw [e])))
                      (fun B' hB' => by cases hB'; exact ⟨.inr ⟨_, _, _, hd⟩, by rw [setRow_size]; exact hR.bound _ _ _ _ _ hd⟩) (by omega) hz3 (fun h => by rw [h] at hlen3; simp at hlen3; omega) (fun h => by cases h)
                      (fun B' hB' => by
                        cases hB'
                        have hle : E.le (setHd E k (rows ++ rs).length (te.size, some B, cap)) := by
                          refine ⟨fun k1 n1 h1 hh => ?_, fun _ _ h => h, fun _ _ _ h => h⟩
                          simp only [setHd]
                          split
                          · rename_i he
                            obtain ⟨_, _, e1, e2⟩ := hR.hdC _ _ _ hh
                            rw [he.1, hC] at e1; cases e1; omega
                          · exact hh
                        refine ⟨cs', ty, setRow_heap w B cs cs' ty _ g1, by rw [hsz', g2], fun i j r c hi hj => ?_, fun q u hq => ?_⟩
                        · have hj' : j < te.size := by rw [← hz3 r (List.mem_of_getElem? hi)]; exact (List.getElem?_eq_some_iff.1 hj).1
                          by_cases hii : i < rows.length
                          · rw [List.getElem?_append_left hii] at hi
                            obtain ⟨u, e1, e2⟩ := g3 i j r c hi hj
                            have e3 : i * te.size + te.size ≤ rows.length * te.size := by rw [← Nat.succ_mul]; exact Nat.mul_le_mul_right _ hii
                            exact ⟨u, by rw [hget, if_pos (by omega)]; exact e1, e2.mono hle⟩
                          · rw [List.getElem?_append_right (by omega)] at hi
                            obtain ⟨u, e1, e2⟩ := flat_of hul hz huv hi hj
                            have e4 : i * te.size = rows.length * te.size + (i - rows.length) * te.size := by rw [← Nat.add_mul]; congr 1; omega
                            have e5 := (List.getElem?_eq_some_iff.1 e1).1
                            refine ⟨u, ?_, e2.mono hle⟩
                            rw [hget, if_neg (by omega), if_pos (by omega), show i * te.size + j - rows.length * te.size = (i - rows.length) * te.size + j by omega]
                            exact e1
                        · obtain ⟨e1, e2⟩ := g4 q u hq
                          refine ⟨e1, by rw [hlen3, Nat.add_mul]; omega, ?_⟩
                          rw [hget, if_pos e2]
                          have := hR.mem _ _ _ hq
                          rw [cell_of_row w B q cs ty _ g1] at this
                          exact this)
                    refine ⟨.slice (some ⟨B, 0, none⟩) (rows.length + rs.length) cap, w.setRow B cs', _, .inl (hexec _ _ ?_), ?_, by rw [updC_set hS (.inl hC)]; exact hput.1, hput.2, Kept3.set _ hC hS⟩
                    · rw [hv, hrun]
                      simp only [Option.map_some, addr_add, Nat.zero_add]
                      rw [hst]
                      rfl
                    · rw [← hlen3]
                      exact .sl _ _ te.size (some B) cap (by simp [setHd]) (by omega)
              · -- elsewhere
                obtain ⟨newCap, rest, d, h7, h8, hrun⟩ := hra.2 (by omega)
                have hRd : Rel Y E C { w with drawn := d } := hR.drew rfl
                have hpos : 0 < rs.length := by omega
                have hlen3 : (rows ++ rs).length = rows.length + rs.length := by simp
                have hput := hRd.putCells (w' := { { w with drawn := d } with heap := w.heap.push (.cells (olds.toArray ++ us.toArray ++ rest) el) }) k fr (rows ++ rs) te.size (some w.heap.size) newCap
                  (.inr ⟨_, _, hC, by omega, fun h => by omega⟩) rfl rfl rfl (by simp)
                  (fun b' hb' _ => by simp [Array.getElem?_push]; have : b' < w.heap.size := hb'; omega) (fun B hB => by cases hB; exact ⟨.inl (Nat.le_refl _), by simp⟩) (by omega) hz3 (fun h => by rw [h] at hlen3; simp at hlen3; omega) (fun h => by cases h)
                  (fun B hB => by
                    cases hB
                    refine ⟨olds.toArray ++ us.toArray ++ rest, el, by simp, by simp only [Array.size_append, List.size_toArray, hul, h8, hol]; rw [← Nat.add_mul, ← Nat.add_mul]; congr 1; omega, fun i j r c hi hj => ?_, fun q u hq => ?_⟩
                    · obtain ⟨u, hu', hr'⟩ := rows_join (E := E) (rows := rows) (rs := rs) (a := olds) (b := us) hz2 hz hol hul hov huv rest i j r c hi hj
                      have hle : E.le (setHd E k (rows ++ rs).length (te.size, some w.heap.size, newCap)) := by
                        refine ⟨fun k1 n1 h1 hh => ?_, fun _ _ h => h, fun _ _ _ h => h⟩
                        simp only [setHd]
                        split
                        · rename_i he
                          obtain ⟨_, _, e1, e2⟩ := hR.hdC _ _ _ hh
                          rw [he.1, hC] at e1; cases e1; omega
                        · exact hh
                      exact ⟨u, hu', hr'.mono hle⟩
                    · have hm := hR.mem _ _ _ hq
                      unfold World.cell? at hm
                      simp at hm)
                refine ⟨.slice (some ⟨w.heap.size, 0, none⟩) (rows.length + rs.length) newCap, _, _, .inl (hexec _ _ (by rw [hv]; exact hrun)), ?_, by rw [updC_set hS (.inl hC)]; exact hput.1, hput.2.undrew rfl rfl rfl rfl, Kept3.set _ hC hS⟩
                rw [← hlen3]
                exact .sl _ _ te.size (some w.heap.size) newCap (by simp [setHd]) (by omega)
          · cases hc
        · cases hc
      · cases hc
    · cases hc

end
end Go.Proofs.XVai
