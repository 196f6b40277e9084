/- Stores, addresses, cuts. -/
import Derived.Test.YtkcneecnniimdaaV7
namespace Go.Proofs.XVai
open Go
set_option linter.unusedVariables false
set_option linter.unusedSimpArgs false

theorem splice_get {α : Type} (l vs : List α) (o q : Nat) (h : o + vs.length ≤ l.length) :
    (l.take o ++ vs ++ l.drop (o + vs.length))[q]? = if q < o then l[q]? else if q < o + vs.length then vs[q - o]? else l[q]? := by
  have h1 : (l.take o).length = o := by simp; omega
  by_cases hq : q < o
  · rw [if_pos hq, List.append_assoc, List.getElem?_append_left (by omega), List.getElem?_take_of_lt hq]
  · rw [if_neg hq]
    by_cases hq2 : q < o + vs.length
    · rw [if_pos hq2, List.getElem?_append_left (by simp; omega), List.getElem?_append_right (by omega), h1]
    · rw [if_neg hq2, List.getElem?_append_right (by simp; omega), List.getElem?_drop]
      congr 1
      simp
      omega

theorem setCells_get (xs : List HV) : ∀ (row : List HV) (off j : Nat), off + xs.length ≤ row.length →
    (setCells row off xs)[j]? = if off ≤ j ∧ j < off + xs.length then xs[j - off]? else row[j]? := by
  induction xs with
  | nil => intro row off j _; simp only [setCells]; rw [if_neg (by simp only [List.length_nil]; omega)]
  | cons x xs ih =>
    intro row off j h
    simp only [setCells, List.length_cons] at h ⊢
    rw [ih _ _ _ (by simp; omega)]
    by_cases h1 : off + 1 ≤ j ∧ j < off + 1 + xs.length
    · rw [if_pos h1, if_pos (by omega), show j - off = (j - (off + 1)) + 1 by omega, List.getElem?_cons_succ]
    · rw [if_neg h1]
      by_cases h2 : off = j
      · subst h2
        rw [if_pos (by omega), List.getElem?_set_self (by omega), Nat.sub_self]; rfl
      · rw [if_neg (by omega), List.getElem?_set_ne h2]

theorem setRow_ne (w : World) (g b : Nat) (cs : Array Value) (h : b ≠ g) : (w.setRow g cs).heap[b]? = w.heap[b]? := by
  unfold World.setRow
  simp only [Array.getElem?_modify]
  rw [if_neg (Ne.symm h)]
theorem setRow_size (w : World) (g : Nat) (cs : Array Value) : (w.setRow g cs).heap.size = w.heap.size := by
  unfold World.setRow; simp

section
variable {P : Program} {Y : Sys} {E : Env} {C : Nat → Option Ob} {w : World}

theorem isCell_one {E : Env} {c : HV} {v : Value} (h : VRel E c v) (hc : isCell c = true) : v.oneCell' = true := by
  cases h <;> first | rfl | (simp [isCell] at hc)

theorem sim_store (hY : SysOk Y P) (hR : Rel Y E C w) {S S1 : St} {pl : Option Nat} {t : Nat} {x v : Operand} {o : Oper} (ho : o.op = .store t x v) (ρ : Operand → Value) {cx cv : HV} (hA : ∀ k, AgreeAt C S k)
    (hx : VRel E cx (ρ x)) (hv : VRel E cv (ρ v)) (hs : cstore Y S t cx cv = some S1) : Sim P Y E C w S S1 pl o ρ (.tup []) := by
  generalize hu : ρ x = ux at hx
  cases hx with
  | ptr k n i off sz B cap hd =>
    simp only [cstore, tsize] at hs
    cases ht : Y.tab t with
    | none => simp [ht] at hs
    | some ti =>
      simp only [ht, Option.map_some] at hs
      split at hs
      · rename_i z rows hz hS
        simp only [Option.some.injEq] at hz
        subst hz
        split at hs
        · rename_i row hrow
          split at hs
          · rename_i hc
            obtain ⟨hn, hvl, hoff, hcell⟩ := hc
            simp only [Option.some.injEq] at hs
            subst hs; subst hn
            obtain ⟨fr0, rows0, hC0, _⟩ := hR.hdC _ _ _ hd
            have hC : C k = some (.cells false rows) := by
              rcases hA k _ hC0 with h1 | h1 <;> rw [hS] at h1 <;> cases h1
              exact hC0
            obtain ⟨sz', base', cap', h1, h2, h3, h4, h5, h6⟩ := hR.cells _ _ _ hC
            rw [hd] at h1
            simp only [Option.some.injEq, Prod.mk.injEq] at h1
            obtain ⟨rfl, rfl, rfl⟩ := h1
            obtain ⟨cs, ty, g1, g2, g3, g4⟩ := h6 B rfl
            have hcv := cells_of hv
            have hi : i < rows.length := (List.getElem?_eq_some_iff.1 hrow).1
            have hrl : row.length = sz := h3 row (List.mem_of_getElem? hrow)
            have hbnd : i * sz + sz ≤ cs.size := by
              rw [g2, ← Nat.succ_mul]; exact Nat.mul_le_mul_right _ (by omega)
            have hvs : (ρ v).cells.toList.length = ti.size := by simp [← hcv.1, hvl]
            have hfit : i * sz + off + (ρ v).cells.toList.length ≤ cs.toList.length := by rw [hvs]; simp; omega
            have hst := run_storeCells_at P B (i * sz + off) ty (ρ v).cells.toList 0 cs w g1 (by simpa using hfit) (fun u hu => by
              obtain ⟨j, hj⟩ := List.getElem?_of_mem hu
              have hj' : j < cv.cells.length := by rw [hcv.1]; have := (List.getElem?_eq_some_iff.1 hj).1; simpa using this
              exact isCell_one (hcv.2 j cv.cells[j] u (by simp [hj']) (by simpa using hj)) (List.all_eq_true.1 hcell _ (by simp)))
            simp only [Nat.add_zero] at hst
            let cs' : Array Value := (cs.toList.take (i * sz + off) ++ (ρ v).cells.toList ++ cs.toList.drop (i * sz + off + (ρ v).cells.toList.length)).toArray
            have hget : ∀ q, cs'[q]? = if q < i * sz + off then cs[q]? else if q < i * sz + off + ti.size then (ρ v).cells[q - (i * sz + off)]? else cs[q]? := by
              intro q
              have := splice_get cs.toList (ρ v).cells.toList (i * sz + off) q hfit
              simp only [hvs, Array.getElem?_toList] at this
              simp only [cs', List.getElem?_toArray, hvs]
              exact this
            have hsz' : cs'.size = cs.size := by
              simp only [cs', List.size_toArray, List.length_append, List.length_take, List.length_drop]
              simp at hfit ⊢; omega
            have hput := hR.putCells (w' := w.setRow B cs') k false (rows.set i (setCells row off cv.cells)) sz (some B) cap (.inr ⟨_, _, hC, by simp, fun _ => hd⟩) rfl rfl rfl
              (by rw [setRow_size]; exact Nat.le_refl _) (fun b hb hne => setRow_ne w B b cs' (fun e => hne (by rw [e])))
              (fun B' hB' => by cases hB'; exact ⟨.inr ⟨_, _, _, hd⟩, by rw [setRow_size]; exact hR.bound _ _ _ _ _ hd⟩) (by simpa using h2)
              (fun r hr => (List.mem_or_eq_of_mem_set hr).elim (h3 r) (fun e => by rw [e, setCells_length]; exact hrl)) (fun h => h4 (by simpa using h)) (fun h => by cases h)
              (fun B' hB' => by
                cases hB'
                refine ⟨cs', ty, setRow_heap w B cs cs' ty _ g1, by rw [hsz', g2], fun i' j r c hi' hj => ?_, fun q u hu => by
                  have := g4 q u hu; cases this.1⟩
                have hle : E.le (setHd E k (rows.set i (setCells row off cv.cells)).length (sz, some B, cap)) := by
                  refine ⟨fun k1 n1 h1 hh => ?_, fun _ _ h => h, fun _ _ _ h => h⟩
                  simp only [setHd]
                  split
                  · rename_i he; rw [he.1, he.2, List.length_set, hd] at hh; rw [hh]
                  · exact hh
                by_cases hii : i = i'
                · subst hii
                  rw [List.getElem?_set_self hi] at hi'
                  cases hi'
                  rw [setCells_get _ _ _ _ (by omega)] at hj
                  rw [hget]
                  split at hj
                  · rename_i hjj
                    have hj1 : j - off < (ρ v).cells.size := by rw [← hcv.1]; omega
                    rw [if_neg (by omega), if_pos (by omega), show i * sz + j - (i * sz + off) = j - off by omega]
                    exact ⟨(ρ v).cells[j - off], by simp [hj1], (hcv.2 _ _ _ hj (by simp [hj1])).mono hle⟩
                  · rename_i hjj
                    obtain ⟨u, hu, hr⟩ := g3 i j row c hrow hj
                    refine ⟨u, ?_, hr.mono hle⟩
                    split
                    · exact hu
                    · rw [if_neg (by omega)]; exact hu
                · rw [List.getElem?_set_ne hii] at hi'
                  obtain ⟨u, hu, hr⟩ := g3 i' j r c hi' hj
                  have hj' : j < sz := by
                    have := (List.getElem?_eq_some_iff.1 hj).1
                    rw [h3 r (List.mem_of_getElem? hi')] at this; exact this
                  refine ⟨u, ?_, hr.mono hle⟩
                  rw [hget]
                  rcases Nat.lt_or_ge i' i with hlt | hge
                  · have : i' * sz + sz ≤ i * sz := by rw [← Nat.succ_mul]; exact Nat.mul_le_mul_right _ hlt
                    rw [if_pos (by omega)]; exact hu
                  · have : i * sz + sz ≤ i' * sz := by rw [← Nat.succ_mul]; exact Nat.mul_le_mul_right _ (by omega)
                    rw [if_neg (by omega), if_neg (by omega)]; exact hu)
            refine ⟨undef, w.setRow B cs', _, .inr ⟨?_, rfl⟩, .tup [] #[] rfl (by simp), by rw [updC_set hS (.inl hC)]; exact hput.1, hput.2, Kept3.set _ hC hS⟩
            unfold execOp
            have hsize := (hY.tab _ _ ht).run_size w
            simp only [ho, hu, Instr.storeAt, Instr.sureAddr, Sem.run_bind, Sem.run_pure, Result.andThen_ok, storeVar, hsize, Sem.run_ite]
            rw [if_neg (by simp [← hcv.1, hvl])]
            rw [hst]
            rfl
          · cases hs
        · cases hs
      · cases hs
  | _ => simp [cstore] at hs

theorem sim_fieldAddr (hY : SysOk Y P) (hR : Rel Y E C w) {S : St} {pl : Option Nat} {t f : Nat} {x : Operand} {o : Oper} (ho : o.op = .fieldAddr t x f) (ρ : Operand → Value) {cx c : HV}
    (hx : VRel E cx (ρ x)) (hc : cfieldAddr Y t cx f = some c) : Sim P Y E C w S S pl o ρ c := by
  unfold cfieldAddr at hc
  split at hc
  · rename_i ti ht
    have hsh := (hY.tab _ _ ht).sh
    split at hc
    · rename_i fs hs
      rw [hs] at hsh
      obtain ⟨fields, hu, hfl, hff⟩ := hsh
      split at hc
      · rename_i ft off z hf
        split at hc
        · cases hc
        · rename_i hz
          have hi : f < fields.size := by rw [hfl]; exact (List.getElem?_eq_some_iff.1 hf).1
          obtain ⟨j, h3, h4⟩ := hff f fields[f] (by simp [hi])
          rw [hf] at h4
          simp only [Option.some.injEq, Prod.mk.injEq] at h4
          obtain ⟨h5, h6, h7⟩ := h4
          have hsz : ∀ w, (sizeOf fields[f].type).run P w = .ok j.size w := fun w => by simp [sizeOf, typeInfo, h3]
          have hrun : ∀ (a : Addr), ρ x = .pointer (some a) → a.spot = none → (execOp ρ o).run P w = .ok (.value (.pointer (some ⟨a.block, a.off + off, none⟩))) w := by
            intro a ha hsp
            obtain ⟨b, q, s⟩ := a
            simp only at hsp
            subst hsp
            unfold execOp
            simp only [ho, ha, Instr.fieldAt, Sem.run_bind, run_underlying hu, Result.andThen_ok, Instr.sureAddr, Sem.run_pure, fieldPlace]
            simp [hi, hsz, ← h7, hz, addr_add, ← h6]
          generalize hv : ρ x = v at hx
          cases hx with
          | ptr k n i q sz B cap hd =>
            simp only [Option.some.injEq] at hc
            subst hc
            exact Sim.same hR (hrun _ hv rfl) (by
              have := VRel.ptr (E := E) k n i (q + off) sz B cap hd
              simpa [Nat.add_assoc] using this)
          | iptr rows i q b r0 sz hz' hp g hM hV =>
            simp only [Option.some.injEq] at hc
            subst hc
            exact Sim.same hR (hrun _ hv rfl) (by
              have := VRel.iptr (E := E) rows i (q + off) b r0 sz hz' hp g hM hV
              simpa [Nat.add_assoc] using this)
          | _ => simp at hc
      · cases hc
    · cases hc
  · cases hc

theorem asNat_some {n : Int} {j : Nat} (h : asNat n = some j) : 0 ≤ n ∧ n.toNat = j := by
  unfold asNat at h
  split at h
  · rename_i h1; exact ⟨h1, by simpa using h⟩
  · cases h

theorem sim_indexAddr (hY : SysOk Y P) (hR : Rel Y E C w) {S : St} {pl : Option Nat} {t : Nat} {x i : Operand} {o : Oper} (ho : o.op = .indexAddr t x i) (ρ : Operand → Value) {cx ci c : HV} (hA : ∀ k ∈ idOf cx, AgreeAt C S k)
    (hx : VRel E cx (ρ x)) (hi : VRel E ci (ρ i)) (hc : cindexAddr Y S t cx ci = some c) : Sim P Y E C w S S pl o ρ c := by
  unfold cindexAddr at hc
  split at hc
  · rename_i kk n
    generalize hiv : ρ i = iv at hi
    cases hi
    split at hc
    · rename_i ti ht
      have hsh := (hY.tab _ _ ht).sh
      generalize hxv : ρ x = xv at hx
      split at hc
      · -- an immutable slice
        rename_i e rows hs
        rw [hs] at hsh
        split at hc
        · rename_i j hj
          split at hc
          · rename_i hcc
            simp only [Option.some.injEq] at hc
            subst hc
            obtain ⟨h0, hjj⟩ := asNat_some hj
            cases hx with
            | lst0 b cap => simp at hcc
            | lst rows b q cap sz hn hcap hz hp f hM hV =>
              have hlt := hcc.1
              have hsz : tsize Y e = some sz := by
                have := hcc.2
                rw [List.getElem?_eq_getElem hlt] at this
                rw [← this, Option.map_some, hz _ (by simp)]
              simp only [tsize, Option.map_eq_some_iff] at hsz
              obtain ⟨te, hte, hsz⟩ := hsz
              have hse := (hY.tab _ _ hte).run_size w
              refine Sim.same hR (v := .pointer (some ⟨b, q + j * sz + 0, none⟩)) ?_ (.iptr rows j 0 b q sz hz hp f hM hV)
              unfold execOp
              simp only [ho, hxv, hiv, Instr.indexAt, asIntOf, Sem.run_bind, Sem.run_pure, Result.andThen_ok, run_underlying hsh]
              have h2 : n < (rows.length : Int) := by omega
              simp [h0, h2, hse, addr_add, hsz, hjj]
          · cases hc
        · cases hc
      · -- a row of one's own
        rename_i e k m hs
        rw [hs] at hsh
        split at hc
        · rename_i j fr rows hj hS
          split at hc
          · rename_i hcc
            simp only [Option.some.injEq] at hc
            subst hc
            obtain ⟨h0, hjj⟩ := asNat_some hj
            obtain ⟨hm, hjm, hrow⟩ := hcc
            subst hm
            cases hx with
            | sl k n sz base cap hd hcap =>
              obtain ⟨fr0, rows0, hC0, _⟩ := hR.hdC _ _ _ hd
              have hC : C k = some (.cells fr rows) := by
                rcases hA k (by simp [idOf]) _ hC0 with h1 | h1 <;> rw [hS] at h1 <;> cases h1
                exact hC0
              obtain ⟨sz', base', cap', h1, h2, h3, h4, h5, h6⟩ := hR.cells _ _ _ hC
              rw [hd] at h1
              simp only [Option.some.injEq, Prod.mk.injEq] at h1
              obtain ⟨rfl, rfl, rfl⟩ := h1
              have hne : base ≠ none := fun h => by have := h5 h; omega
              obtain ⟨B, rfl⟩ := Option.ne_none_iff_exists'.1 hne
              have hsz : tsize Y e = some sz := by
                rw [List.getElem?_eq_getElem hjm] at hrow
                rw [← hrow, Option.map_some, h3 _ (by simp)]
              simp only [tsize, Option.map_eq_some_iff] at hsz
              obtain ⟨te, hte, hsz⟩ := hsz
              have hse := (hY.tab _ _ hte).run_size w
              refine Sim.same hR (v := .pointer (some ⟨B, j * sz + 0, none⟩)) ?_ (.ptr k rows.length j 0 sz B cap hd)
              unfold execOp
              simp only [ho, hxv, hiv, Instr.indexAt, asIntOf, Sem.run_bind, Sem.run_pure, Result.andThen_ok, run_underlying hsh]
              have h8 : n < (rows.length : Int) := by omega
              simp [h0, h8, hse, addr_add, hsz, hjj]
          · cases hc
        · cases hc
      · -- an array of one's own
        rename_i len e k m r q hs
        rw [hs] at hsh
        split at hc
        · rename_i j z hj hz
          split at hc
          · rename_i hcc
            simp only [Option.some.injEq] at hc
            subst hc
            obtain ⟨h0, hjj⟩ := asNat_some hj
            simp only [tsize, Option.map_eq_some_iff] at hz
            obtain ⟨te, hte, hz⟩ := hz
            have hse := (hY.tab _ _ hte).run_size w
            cases hx with
            | ptr k n' i' o' sz B cap hd =>
              refine Sim.same hR (v := .pointer (some ⟨B, r * sz + (q + j * z), none⟩)) ?_ (.ptr k m r (q + j * z) sz B cap hd)
              unfold execOp
              simp only [ho, hxv, hiv, Instr.indexAt, asIntOf, Sem.run_bind, Sem.run_pure, Result.andThen_ok, run_underlying hsh, Instr.sureAddr]
              have h8 : n < (len : Int) := by omega
              simp [h0, h8, hse, addr_add, hz, hjj, Nat.add_assoc]
          · cases hc
        · cases hc
      · rename_i len e rows r q hs
        rw [hs] at hsh
        split at hc
        · rename_i j z hj hz
          split at hc
          · rename_i hcc
            simp only [Option.some.injEq] at hc
            subst hc
            obtain ⟨h0, hjj⟩ := asNat_some hj
            simp only [tsize, Option.map_eq_some_iff] at hz
            obtain ⟨te, hte, hz⟩ := hz
            have hse := (hY.tab _ _ hte).run_size w
            cases hx with
            | iptr rows i' o' b r0 sz hz' hp g hM hV =>
              refine Sim.same hR (v := .pointer (some ⟨b, r0 + r * sz + (q + j * z), none⟩)) ?_ (.iptr rows r (q + j * z) b r0 sz hz' hp g hM hV)
              unfold execOp
              simp only [ho, hxv, hiv, Instr.indexAt, asIntOf, Sem.run_bind, Sem.run_pure, Result.andThen_ok, run_underlying hsh, Instr.sureAddr]
              have h8 : n < (len : Int) := by omega
              simp [h0, h8, hse, addr_add, hz, hjj, Nat.add_assoc]
          · cases hc
        · cases hc
      · cases hc
    · cases hc
  · cases hc

end
end Go.Proofs.XVai
