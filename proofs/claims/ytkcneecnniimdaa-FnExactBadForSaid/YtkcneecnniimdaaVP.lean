/- A literal type table and a set of functions, by a check. -/
import Derived.Test.YtkcneecnniimdaaVO
namespace Go.Proofs.XVai
open Go
set_option linter.unusedVariables false
set_option linter.unusedSimpArgs false

def zeroEq : List HV → List Value → Bool
  | [], [] => true
  | .bool a :: xs, .bool b :: ys => a == b && zeroEq xs ys
  | .int k a :: xs, .int k' b :: ys => k == k' && a == b && zeroEq xs ys
  | .str a :: xs, .string b :: ys => a.size == 0 && b.size == 0 && zeroEq xs ys
  | .nilptr :: xs, .pointer none :: ys => zeroEq xs ys
  | .nils :: xs, .slice none 0 0 :: ys => zeroEq xs ys
  | .nilmap :: xs, .map none :: ys => zeroEq xs ys
  | .nilfn :: xs, .nilFunc :: ys => zeroEq xs ys
  | _, _ => false

theorem zeroEq_spec : ∀ (xs : List HV) (ys : List Value), zeroEq xs ys = true → xs = ys.map ofCell ∧ ys.all okCell = true := by
  intro xs
  induction xs with
  | nil => intro ys h; cases ys <;> simp_all [zeroEq]
  | cons x xs ih =>
    intro ys h
    cases ys with
    | nil => cases x <;> simp [zeroEq] at h
    | cons y ys =>
      have step : zeroEq xs ys = true → x = ofCell y → okCell y = true → x :: xs = (y :: ys).map ofCell ∧ (y :: ys).all okCell = true := fun h1 h2 h3 => by
        obtain ⟨a, b⟩ := ih ys h1
        exact ⟨by rw [List.map_cons, ← a, h2], by simp [b, h3]⟩
      unfold zeroEq at h
      split at h
      · rename_i h1 _; cases h1
      · rename_i h1 h2; cases h1; cases h2
        simp only [Bool.and_eq_true, beq_iff_eq] at h
        exact step h.2 (by rw [h.1]; rfl) rfl
      · rename_i h1 h2; cases h1; cases h2
        simp only [Bool.and_eq_true, beq_iff_eq] at h
        exact step h.2 (by rw [h.1.1, h.1.2]; rfl) rfl
      · rename_i a _ b _ h1 h2; cases h1; cases h2
        simp only [Bool.and_eq_true, beq_iff_eq] at h
        refine step h.2 ?_ rfl
        have e : a = b := by
          obtain ⟨⟨la⟩⟩ := a
          obtain ⟨⟨lb⟩⟩ := b
          have h1 : la.length = 0 := h.1.1
          have h2 : lb.length = 0 := h.1.2
          rw [List.eq_nil_of_length_eq_zero h1, List.eq_nil_of_length_eq_zero h2]
        rw [e]; rfl
      · rename_i h1 h2; cases h1; cases h2; exact step h rfl rfl
      · rename_i h1 h2; cases h1; cases h2; exact step h rfl rfl
      · rename_i h1 h2; cases h1; cases h2; exact step h rfl rfl
      · rename_i h1 h2; cases h1; cases h2; exact step h rfl rfl
      · cases h

def shChk (P : Program) (sh : Sh) (d : TypeDesc) : Bool := match sh, d with
  | .int k, .int k' => k == k'
  | .bool, .bool => true
  | .str, .string => true
  | .strct fs, .struct fields => fields.size == fs.length && (fields.toList.zip fs).all fun (f, g) => g.1 == f.type && g.2.1 == f.offset && (match P.info? f.type with | some j => j.size == g.2.2 | none => false)
  | .arr n e, .array n' e' => n == n' && e == e'
  | .slice e, .slice e' => e == e'
  | .map k e, .map k' e' => k == k' && e == e'
  | .ptr e, .pointer e' => e == e'
  | .func, _ => true
  | _, _ => false
def aggD (d : TypeDesc) : Bool := match d with | .struct _ | .array _ _ => true | _ => false
def aggV (z : Value) : Bool := match z with | .agg _ => true | _ => false
def tyChk (P : Program) (t : Nat) (ti : TI) : Bool := match P.info? t, P.underlying t with
  | some i, some d => match i.zero with
    | some z => i.size == ti.size && decide (i.bytes ≤ 4096) && zeroEq ti.zero z.cells.toList && z.cells.size == ti.size && decide (0 < ti.size) && ti.agg == aggD d && aggV z == ti.agg && shChk P ti.sh d && !ti.eqok
    | none => false
  | _, _ => false

theorem tyOk_of_chk {P : Program} {Y : Sys} {t : Nat} {ti : TI} (h : tyChk P t ti = true) : TyOk P Y t ti := by
  unfold tyChk at h
  split at h
  · rename_i i d hi hd
    split at h
    · rename_i z hz
      simp only [Bool.and_eq_true, beq_iff_eq, decide_eq_true_eq, Bool.not_eq_true'] at h
      obtain ⟨⟨⟨⟨⟨⟨⟨⟨h1, h2⟩, h3⟩, h4⟩, h5⟩, h6⟩, h7⟩, h8⟩, h9⟩ := h
      obtain ⟨h3a, h3b⟩ := zeroEq_spec _ _ h3
      refine ⟨⟨i, z, hi, h1, h2, hz, h3b, h3a, h4, h5⟩, ⟨d, hd, by rw [h6]; rfl⟩, ?_, (fun h => by rw [h9] at h; cases h), ?_, (fun h => by rw [h9] at h; cases h), (fun h => by rw [h9] at h; cases h)⟩
      · generalize ti.sh = sh at h8
        unfold shChk at h8
        split at h8
        · simp only [beq_iff_eq] at h8; simp only [hd, h8]
        · exact hd
        · exact hd
        · rename_i fs fields
          simp only [Bool.and_eq_true, beq_iff_eq, List.all_eq_true] at h8
          refine ⟨fields, hd, h8.1, fun k f hf => ?_⟩
          have hk : k < fs.length := by rw [← h8.1]; exact (Array.getElem?_eq_some_iff.1 hf).1
          have hmem : (f, fs[k]) ∈ fields.toList.zip fs := by
            refine List.mem_of_getElem? (i := k) ?_
            rw [List.getElem?_zip_eq_some]
            exact ⟨by simpa using hf, by simp⟩
          have := h8.2 _ hmem
          simp only [Bool.and_eq_true, beq_iff_eq] at this
          obtain ⟨⟨a1, a2⟩, a3⟩ := this
          split at a3
          · rename_i j hj
            simp only [beq_iff_eq] at a3
            refine ⟨j, hj, ?_⟩
            rw [a3, ← a1, ← a2, List.getElem?_eq_getElem hk]
          · cases a3
        · simp only [Bool.and_eq_true, beq_iff_eq] at h8; simp only [hd, h8.1, h8.2]
        · simp only [beq_iff_eq] at h8; simp only [hd, h8]
        · simp only [Bool.and_eq_true, beq_iff_eq] at h8; simp only [hd, h8.1, h8.2]
        · simp only [beq_iff_eq] at h8; simp only [hd, h8]
        · trivial
        · cases h8
      · intro z' hz'
        rw [hi] at hz'
        simp only [Option.bind_some, hz, Option.some.injEq] at hz'
        subst hz'
        rw [← h7]
        cases z <;> simp [aggV]
    · cases h
  · cases h

def fnChk (fn : Func) : Bool := (fn.name != "runtime.NumGoroutine") && (match fn.body with | some c => codeOk fn.ntmps c | none => true)
theorem fnOk_of_chk {P : Program} {f : Nat} {fn : Func} (h1 : P.funcs[f]? = some fn) (h2 : fnChk fn = true) : FnOk P f fn := by
  simp only [fnChk, Bool.and_eq_true, bne_iff_ne, ne_eq] at h2
  refine ⟨h1, by simpa using h2.1, fun c hc => ?_⟩
  have := h2.2
  rw [hc] at this; exact this

end Go.Proofs.XVai
