/- Types, and what is read: loads, addresses, numbers. -/
import Derived.Test.YtkcneecnniimdaaV2
import Derived.Laws.CopyRow
import Derived.Laws.Rows
import Derived.Laws.Entries
namespace Go.Proofs.XVai
open Go
set_option linter.unusedVariables false
set_option linter.unusedSimpArgs false

def okCell : Value → Bool
  | .bool _ | .int _ _ | .string _ | .pointer none | .slice none 0 0 | .map none | .nilFunc => true
  | _ => false
def okVal : Value → Bool
  | .agg cs => cs.toList.all okCell
  | v => okCell v

theorem okCell_rel {E : Env} {v : Value} (h : okCell v = true) : VRel E (ofCell v) v := by
  unfold okCell at h
  split at h <;> first | (cases h; done) | skip
  · exact .bool _
  · exact .int _ _
  · exact .str _
  · exact .nilptr
  · exact .nils _
  · exact .nilmap
  · exact .nilfn

theorem okCell_oneCell {v : Value} (h : okCell v = true) : v.oneCell' = true := by
  unfold okCell at h
  split at h <;> first | (cases h; done) | rfl

theorem okVal_rel {E : Env} {v : Value} (h : okVal v = true) : VRel E (ofVal v) v := by
  cases v with
  | agg cs =>
    refine .agg _ _ (by simp) fun i c u h1 h2 => ?_
    simp only [List.getElem?_map, Array.getElem?_toList, h2, Option.map_some, Option.some.injEq] at h1
    subst h1
    exact okCell_rel (by
      have := List.all_eq_true.1 h u (by simpa using Array.mem_of_getElem? h2)
      exact this)
  | _ => exact okCell_rel (by simpa [okVal] using h)

structure TyOk (P : Program) (Y : Sys) (t : Nat) (ti : TI) : Prop where
  info : ∃ i z, P.info? t = some i ∧ i.size = ti.size ∧ i.bytes ≤ 4096 ∧ i.zero = some z ∧ z.cells.toList.all okCell = true ∧
    ti.zero = z.cells.toList.map ofCell ∧ z.cells.size = ti.size ∧ 0 < ti.size
  agg : ∃ d, P.underlying t = some d ∧ ti.agg = (match d with | .struct _ | .array _ _ => true | _ => false)
  sh : match ti.sh with
    | .int k => P.underlying t = some (.int k)
    | .bool => P.underlying t = some .bool
    | .str => P.underlying t = some .string
    | .strct fs => ∃ fields, P.underlying t = some (.struct fields) ∧ fields.size = fs.length ∧
        ∀ (i : Nat) (f : Field), fields[i]? = some f → ∃ j, P.info? f.type = some j ∧ fs[i]? = some (f.type, f.offset, j.size)
    | .arr n e => P.underlying t = some (.array n e)
    | .slice e => P.underlying t = some (.slice e)
    | .map k e => P.underlying t = some (.map k e)
    | .ptr e => P.underlying t = some (.pointer e)
    | .func => True
  eqok : ti.eqok = true → ∀ (x y : HV) (E : Env) (u v : Value) (w : World) (b : Bool), x.cells.length = ti.size → y.cells.length = ti.size → VRel E x u → VRel E y v → (ti.agg = true → ∃ l m, x = .agg l ∧ y = .agg m) → (ti.agg = false → isCell x = true ∧ isCell y = true) →
    eqL x.cells y.cells = some b → (Op.equal t u v).run P w = .ok b w
  zagg : ∀ z, (P.info? t).bind (·.zero) = some z → ((∃ cs, z = .agg cs) ↔ ti.agg = true)
  guard : ti.eqok = true → ti.agg = true → P.eqGuardType P.depth t = false
  key : ti.eqok = true → ∀ (x : HV) (E : Env) (u : Value) (w : World) (b : Bool), x.cells.length = ti.size → VRel E x u → (ti.agg = true → ∃ l, x = .agg l) → (ti.agg = false → isCell x = true) →
    (Instr.checkKey b 10000 t u).run P w = .ok () w

structure SysOk (Y : Sys) (P : Program) : Prop where
  tab : ∀ t ti, Y.tab t = some ti → TyOk P Y t ti
  mixed : P.follows .mixedOrders = true

section
variable {P : Program} {Y : Sys} {t : Nat} {ti : TI} (w : World)

theorem TyOk.run_size (h : TyOk P Y t ti) : (sizeOf t).run P w = .ok ti.size w := by
  obtain ⟨i, z, h1, h2, _⟩ := h.info
  simp [sizeOf, typeInfo, h1, h2]
theorem TyOk.run_zero (h : TyOk P Y t ti) : ∃ z, (zeroValue t).run P w = .ok z w ∧ z.cells.toList.all okCell = true ∧ ti.zero = z.cells.toList.map ofCell ∧ z.cells.size = ti.size := by
  obtain ⟨i, z, h1, h2, _, h4, h5, h6, h7, _⟩ := h.info
  exact ⟨z, by simp [zeroValue, typeInfo, h1, h4], h5, h6, h7⟩
theorem TyOk.run_agg (h : TyOk P Y t ti) : (isAgg t).run P w = .ok ti.agg w := by
  obtain ⟨d, h1, h2⟩ := h.agg
  unfold isAgg
  rw [Sem.run_bind, run_underlying h1 w, Result.andThen_ok, h2]
  cases d <;> rfl
theorem TyOk.zlen (h : TyOk P Y t ti) : ti.zero.length = ti.size := by
  obtain ⟨i, z, h1, h2, _, h4, h5, h6, h7, _⟩ := h.info
  rw [h6]; simp [h7]
end

theorem addr_add (b o n : Nat) : (⟨b, o, none⟩ : Addr).add n = ⟨b, o + n, none⟩ := by
  unfold Addr.add; split <;> simp_all

/-- What is agreed on of the objects that are looked at. -/
def AgreeAt (C : Nat → Option Ob) (S : St) (k : Nat) : Prop := ∀ o, C k = some o → S[k]? = some o ∨ S[k]? = some .dummy

def idOf : HV → List Nat | .ptr k .. => [k] | .sl k _ => [k] | .map k => [k] | _ => []

/-- A row that is looked at lies in memory. -/
theorem getRow_mem {P : Program} {Y : Sys} {E : Env} {C : Nat → Option Ob} {S : St} {w : World} {x : HV} {v : Value} {row : List HV} {o : Nat}
    (hR : Rel Y E C w) (hx : VRel E x v) (hg : getRow Y S x = some (row, o)) (hA : ∀ k ∈ idOf x, AgreeAt C S k) :
    ∃ b r0, v = .pointer (some ⟨b, r0 + o, none⟩) ∧ ∀ (j : Nat) (c : HV), row[j]? = some c → ∃ u, w.cell? ⟨b, r0 + j, none⟩ = some u ∧ VRel E c u := by
  cases hx with
  | ptr k n i o' sz B cap h =>
    simp only [getRow] at hg
    obtain ⟨fr, rows, hC, _⟩ := hR.hdC _ _ _ h
    rcases hA k (by simp [idOf]) _ hC with hS | hS
    · rw [hS] at hg
      simp only at hg
      by_cases hn : rows.length = n
      · rw [if_pos hn] at hg
        obtain ⟨r, hr, he⟩ := Option.map_eq_some_iff.1 hg
        simp only [Prod.mk.injEq] at he
        obtain ⟨rfl, rfl⟩ := he
        subst hn
        obtain ⟨sz', base', cap', h1, _, hz, _, _, hB⟩ := hR.cells _ _ _ hC
        rw [h] at h1
        simp only [Option.some.injEq, Prod.mk.injEq] at h1
        obtain ⟨rfl, rfl, rfl⟩ := h1
        obtain ⟨cs, ty, hh, _, hv, _⟩ := hB B rfl
        refine ⟨B, i * sz, rfl, fun j c hj => ?_⟩
        obtain ⟨u, hu, hr'⟩ := hv i j r c hr hj
        exact ⟨u, by rw [cell_of_row w B (i * sz + j) cs ty _ hh]; exact hu, hr'⟩
      · rw [if_neg hn] at hg; cases hg
    · rw [hS] at hg; cases hg
  | iptr rows i o' b off sz hz hp f hM hV =>
    simp only [getRow] at hg
    obtain ⟨r, hr, he⟩ := Option.map_eq_some_iff.1 hg
    simp only [Prod.mk.injEq] at he
    obtain ⟨rfl, rfl⟩ := he
    exact ⟨b, off + i * sz, rfl, fun j c hj => ⟨f i j, hR.mem _ _ _ (hM i j r c hr hj), hV i j r c hr hj⟩⟩
  | gp g =>
    simp only [getRow] at hg
    obtain ⟨r, hr, he⟩ := Option.map_eq_some_iff.1 hg
    simp only [Prod.mk.injEq] at he
    obtain ⟨rfl, rfl⟩ := he
    obtain ⟨_, f, hf⟩ := hR.glob _ _ hr
    exact ⟨g, 0, rfl, fun j c hj => ⟨f j, by simpa using hR.mem _ _ _ (hf j c hj).1, (hf j c hj).2⟩⟩
  | _ => simp [getRow] at hg

/-- A list of values out of pointwise ones. -/
theorem exists_list {α : Type} (n : Nat) (p : Nat → α → Prop) (h : ∀ j, j < n → ∃ u, p j u) : ∃ l : List α, l.length = n ∧ ∀ (j : Nat) (u : α), l[j]? = some u → p j u := by
  induction n with
  | zero => exact ⟨[], rfl, by simp⟩
  | succ n ih =>
    obtain ⟨l, hl, hp⟩ := ih fun j hj => h j (by omega)
    obtain ⟨u, hu⟩ := h n (by omega)
    refine ⟨l ++ [u], by simp [hl], fun j v hv => ?_⟩
    by_cases hj : j < l.length
    · rw [List.getElem?_append_left hj] at hv; exact hp j v hv
    · rw [List.getElem?_append_right (by omega)] at hv
      have : j - l.length = 0 := by
        rcases Nat.eq_zero_or_pos (j - l.length) with h0 | h0
        · exact h0
        · rw [List.getElem?_eq_none (by simp; omega)] at hv; cases hv
      rw [this] at hv
      simp at hv
      subst hv
      have : j = n := by omega
      rw [this]; exact hu

theorem load_sim {P : Program} {Y : Sys} (hY : SysOk Y P) {E : Env} {C : Nat → Option Ob} {S : St} {w : World} {x c : HV} {v : Value} {t : Nat}
    (hR : Rel Y E C w) (hx : VRel E x v) (hA : ∀ k ∈ idOf x, AgreeAt C S k) (hl : cload Y S t x = some c) :
    ∃ u, (Instr.loadAt t v).run P w = .ok u w ∧ VRel E c u := by
  unfold cload at hl
  split at hl
  · rename_i ti row o ht hg
    obtain ⟨b, r0, rfl, hc⟩ := getRow_mem (P := P) hR hx hg hA
    have hT := hY.tab _ _ ht
    simp only [Instr.loadAt, Instr.sureAddr, Sem.run_bind, Sem.run_pure, Result.andThen_ok, loadVar, hT.run_agg, hT.run_size]
    unfold part at hl
    by_cases ha : ti.agg = true
    · rw [if_pos ha] at hl
      by_cases hz : o + ti.size ≤ row.length
      · rw [if_pos hz] at hl
        cases hl
        obtain ⟨l, hll, hlp⟩ := exists_list ti.size (fun j u => w.cell? ⟨b, r0 + o + j, none⟩ = some u ∧ ∀ c, row[o + j]? = some c → VRel E c u) (fun j hj => by
          obtain ⟨u, hu, hr⟩ := hc (o + j) row[o + j] (List.getElem?_eq_getElem (by omega))
          refine ⟨u, by rw [Nat.add_assoc]; exact hu, fun c' hc' => ?_⟩
          rw [List.getElem?_eq_getElem (by omega)] at hc'
          cases hc'; exact hr)
        have hrun := run_loadCells_list (P := P) w ⟨b, r0 + o, none⟩ l (fun j u hu => by rw [addr_add]; exact (hlp j u hu).1)
        rw [hll] at hrun
        refine ⟨.agg l.toArray, ?_, .agg _ _ (by simp [hll, List.length_take, List.length_drop]; omega) fun i c' u h1 h2 => ?_⟩
        · simp [ha, hrun, hT.run_size]
        · have h2' : l[i]? = some u := by simpa using h2
          have hi : i < ti.size := by
            have := (List.getElem?_eq_some_iff.1 h2').1; omega
          rw [List.getElem?_take_of_lt hi, List.getElem?_drop] at h1
          exact (hlp i u h2').2 c' h1
      · rw [if_neg hz] at hl; cases hl
    · rw [if_neg ha] at hl
      obtain ⟨u, hu, hr⟩ := hc o c hl
      refine ⟨u, ?_, hr⟩
      simp [ha, hu]
  · cases hl

end Go.Proofs.XVai
