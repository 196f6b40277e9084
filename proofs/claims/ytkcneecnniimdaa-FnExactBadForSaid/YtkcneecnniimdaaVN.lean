/- From a call's arguments in memory to the canonical machine, and back. -/
import Derived.Test.YtkcneecnniimdaaVM
import Derived.ChangeArms
import Derived.ChangeShapes
import Derived.DataReads
namespace Go.Proofs.XVai
open Go
open Go.ChangeShapes Go.RowKit
set_option linter.unusedVariables false
set_option linter.unusedSimpArgs false

/-- All of memory as it is, immutable. -/
def memEnv (w : World) : Env := ⟨fun _ _ => none, fun _ => none, fun b o => w.cell? ⟨b, o, none⟩⟩

theorem memEnv_rel {Y : Sys} (hg : ∀ g, Y.glob g = none) (w : World) : Rel Y (memEnv w) (fun _ => none) w where
  hdC k n h hh := by cases hh
  mpC k r hh := by cases hh
  cells k fr rows h := by cases h
  maps k es h := by cases h
  inj k n sz B cap k' n' sz' cap' h := by cases h
  injm k k' r h := by cases h
  hdm k n sz B cap k' h := by cases h
  bound k n sz B cap h := by cases h
  mem b o v h := h
  glob g row h := by rw [hg g] at h; cases h
  nodummy k h := by cases h

theorem close {P : Program} {Y : Sys} (hY : SysOk Y P) (hF : ∀ f fn, Y.fn f = some fn → FnOk P f fn) (hg : ∀ g, Y.glob g = none) {f : Nat} {args : List HV} {v : HV} {S' : St} (hev : Ev Y f args [] v S') {w : World} {cargs : Array Value}
    (hl : args.length = cargs.size) (ha : ∀ (i : Nat) (c : HV) (u : Value), args[i]? = some c → cargs[i]? = some u → VRel (memEnv w) c u) :
    Calls P f cargs w (fun e w' => (∃ cv E', e = .returned cv ∧ VRel E' v cv) ∧ Below w.heap.size w w') := by
  obtain ⟨m, hm⟩ := hev
  refine Calls.mono ((ccall_ok hY hF m).sim f args [] v S' (memEnv w) (fun _ => none) w cargs hm (memEnv_rel hg w) (fun k o h => by cases h) (fun k _ => rfl) hl ha) fun e w' h => ?_
  obtain ⟨cv, E', C', rfl, h1, h2, h3, h4⟩ := h
  refine ⟨⟨cv, E', rfl, h1⟩, ⟨h4.os, h4.tape, h4.output, h4.size, fun k hk => h4.frame k hk ?_⟩⟩
  rintro (⟨k', n, sz, cap, h⟩ | ⟨k', h⟩) <;> cases h

/-- Cells of a plain type. -/
inductive Typed (Y : Sys) : Nat → List HV → Prop
  | int {t : Nat} {ti : TI} {k : IntKind} {n : Int} (ht : Y.tab t = some ti) (hs : ti.sh = .int k) (hw : (Lit.int k n).wf = true) : Typed Y t [.int k n]
  | bool {t : Nat} {ti : TI} {b : Bool} (ht : Y.tab t = some ti) (hs : ti.sh = .bool) : Typed Y t [.bool b]
  | str {t : Nat} {ti : TI} {s : ByteArray} (ht : Y.tab t = some ti) (hs : ti.sh = .str) (hz : s.size ≤ maxLen) : Typed Y t [.str s]
  | slice {t e : Nat} {ti : TI} {rows : List (List HV)} (ht : Y.tab t = some ti) (hs : ti.sh = .slice e) (hl : rows.length ≤ maxLen) (hr : ∀ r ∈ rows, Typed Y e r) : Typed Y t [.lst rows]
  | strct {t : Nat} {ti : TI} {fs : List (Nat × Nat × Nat)} {cs : List HV} (ht : Y.tab t = some ti) (hs : ti.sh = .strct fs) (hl : cs.length = ti.size)
      (hf : ∀ (i : Nat) (f : Nat × Nat × Nat), fs[i]? = some f → Typed Y f.1 ((cs.drop f.2.1).take f.2.2)) : Typed Y t cs

/-- The fields lie one behind the other. -/
def contig : Nat → List (Nat × Nat × Nat) → Nat → Bool
  | off, [], size => off == size
  | off, (_, o, z) :: fs, size => o == off && contig (off + z) fs size
theorem contig_le : ∀ (fs : List (Nat × Nat × Nat)) (off size : Nat), contig off fs size = true → off ≤ size ∧ ∀ f ∈ fs, off ≤ f.2.1 := by
  intro fs
  induction fs with
  | nil => intro off size h; simp [contig] at h; exact ⟨by omega, by simp⟩
  | cons f fs ih =>
    intro off size h
    obtain ⟨t, o, z⟩ := f
    simp only [contig, Bool.and_eq_true, beq_iff_eq] at h
    obtain ⟨h1, h2⟩ := ih _ _ h.2
    refine ⟨by omega, fun f hf => ?_⟩
    rcases List.mem_cons.1 hf with rfl | hf
    · simp; omega
    · have := h2 f hf; omega

/-- Plain types: numbers, truths, strings, slices and structs of such. -/
def plainT (Y : Sys) : Nat → Nat → Bool
  | 0, _ => false
  | n + 1, t => match Y.tab t with
    | some ti => match ti.sh with
      | .int _ => !ti.agg && ti.size == 1
      | .bool => !ti.agg && ti.size == 1
      | .str => !ti.agg && ti.size == 1
      | .slice e => !ti.agg && ti.size == 1 && plainT Y n e
      | .strct fs => ti.agg && fs.all (fun f => plainT Y n f.1) && contig 0 fs ti.size
      | _ => false
    | none => false

section
variable {P : Program} {Y : Sys} {w : World}

theorem TyOk.cellsOf {t : Nat} {ti : TI} (h : TyOk P Y t ti) : P.cellsOf t = ti.size := by
  obtain ⟨i, z, h1, h2, _⟩ := h.info
  simp [Program.cellsOf, h1, h2]

theorem cells_get {base : Nat} {a : Addr} {n : Nat} {cs : List Value} (h : w.cells? base a n = some cs) : cs.length = n ∧ ∀ (j : Nat) (v : Value), cs[j]? = some v → w.cell? (a.add j) = some v := by
  unfold World.cells? at h
  split at h
  · refine ⟨by have := mapM_some_length h; simpa using this, fun j v hj => ?_⟩
    have hlen : cs.length = n := by have := mapM_some_length h; simpa using this
    have hlt : j < n := by rw [← hlen]; exact (List.getElem?_eq_some_iff.1 hj).1
    have := mapM_some_get h j j (by simp [hlt])
    rw [this]; exact hj
  · cases h

theorem spot_none {a : Addr} {v : Value} (h : w.cell? a = some v) : a.spot = none := by
  unfold World.cell? at h
  split at h
  · split at h
    · cases h
    · rename_i hs; cases hq : a.spot <;> simp_all
  · cases h

theorem fields_rel {E : Env} {cs : List Value} {size : Nat} (hlen : cs.length = size) : ∀ (fs : List (Nat × Nat × Nat)) (off : Nat), contig off fs size = true →
    (∀ f ∈ fs, ∃ hf, LRel VRel E hf ((cs.drop f.2.1).take f.2.2) ∧ Typed Y f.1 hf ∧ ∀ c ∈ hf, pureC c = true) →
    ∃ hs, LRel VRel E hs (cs.drop off) ∧ (∀ c ∈ hs, pureC c = true) ∧ ∀ (i : Nat) (f : Nat × Nat × Nat), fs[i]? = some f → Typed Y f.1 ((hs.drop (f.2.1 - off)).take f.2.2) := by
  intro fs
  induction fs with
  | nil =>
    intro off hc _
    simp only [contig, beq_iff_eq] at hc
    exact ⟨[], ⟨by simp; omega, by simp⟩, by simp, by simp⟩
  | cons f fs ih =>
    intro off hc hf
    obtain ⟨t, o, z⟩ := f
    simp only [contig, Bool.and_eq_true, beq_iff_eq] at hc
    obtain ⟨rfl, hc⟩ := hc
    obtain ⟨hle, hmin⟩ := contig_le _ _ _ hc
    obtain ⟨h0, r0, t0, p0⟩ := hf (t, o, z) (by simp)
    obtain ⟨hs, r1, p1, t1⟩ := ih (o + z) hc fun f h => hf f (by simp [h])
    have hl0 : h0.length = z := by have := r0.1; simp at this; omega
    refine ⟨h0 ++ hs, ⟨?_, fun i c v hi hv => ?_⟩, fun c hc => (List.mem_append.1 hc).elim (p0 c) (p1 c), fun i f hi => ?_⟩
    · have := r1.1
      simp at this ⊢; omega
    · rw [List.getElem?_drop] at hv
      rcases Nat.lt_or_ge i z with h | h
      · rw [List.getElem?_append_left (by omega)] at hi
        exact r0.2 i c v hi (by rw [List.getElem?_take_of_lt h, List.getElem?_drop]; exact hv)
      · rw [List.getElem?_append_right (by omega)] at hi
        exact r1.2 (i - h0.length) c v hi (by rw [List.getElem?_drop, hl0, show o + z + (i - z) = o + i by omega]; exact hv)
    · cases i with
      | zero =>
        simp only [List.getElem?_cons_zero, Option.some.injEq] at hi
        subst hi
        simp only [Nat.sub_self, List.drop_zero]
        rw [List.take_append_of_le_length (by omega), List.take_of_length_le (by omega)]
        exact t0
      | succ i =>
        have hi' : fs[i]? = some f := by simpa using hi
        have hmem := hmin f (List.mem_of_getElem? hi')
        have := t1 i f hi'
        rw [List.drop_append, List.drop_of_length_le (by omega), List.nil_append, hl0, show f.2.1 - o - z = f.2.1 - (o + z) by omega]
        exact this

theorem open_typed (hY : SysOk Y P) {H : Type} {enc : TypeId × Value → H} {base : Nat} {held : Bool} : ∀ (fuel t : Nat) (cs : List Value) (x : DataW H × List MemPlace) (n : Nat),
    DataW.trod enc P w base (fun _ => true) held fuel t cs = some x → plainT Y n t = true → ∃ hs, LRel VRel (memEnv w) hs cs ∧ Typed Y t hs ∧ ∀ c ∈ hs, pureC c = true := by
  intro fuel
  induction fuel with
  | zero => intro t cs x n h; simp [DataW.trod] at h
  | succ fuel ih =>
    intro t cs x n h hp
    cases n with
    | zero => simp [plainT] at hp
    | succ n =>
      simp only [plainT] at hp
      split at hp
      · rename_i ti ht
        have hT := hY.tab _ _ ht
        have hsh := hT.sh
        have one : ∀ (c : HV) (v : Value), VRel (memEnv w) c v → LRel VRel (memEnv w) [c] [v] := fun c v h => ⟨rfl, fun i c' v' h1 h2 => by
          cases i with
          | zero => simp at h1 h2; subst h1; subst h2; exact h
          | succ i => simp at h1⟩
        split at hp
        · rename_i k hs
          rw [hs] at hsh
          obtain ⟨m, rfl, _, hw⟩ := DataW.trod_int hsh h
          exact ⟨[.int k m], one _ _ (.int _ _), .int ht hs hw, by simp [pureC]⟩
        · rename_i hs
          rw [hs] at hsh
          obtain ⟨b, rfl, _⟩ := DataW.trod_bool hsh h
          exact ⟨[.bool b], one _ _ (.bool _), .bool ht hs, by simp [pureC]⟩
        · rename_i hs
          rw [hs] at hsh
          obtain ⟨b, rfl, _, hz⟩ := DataW.trod_string hsh h
          exact ⟨[.str b], one _ _ (.str _), .str ht hs hz, by simp [pureC]⟩
        · rename_i e hs
          rw [hs] at hsh
          simp only [Bool.and_eq_true] at hp
          have hpe := hp.2
          rcases DataW.trod_slice hsh h with ⟨rfl, _⟩ | ⟨a, len, cap, elems, rest, m, hfu, rfl, _, _, hlc, hcm, hel, hget, _, _⟩
          · exact ⟨[.lst []], one _ _ (.lst0 _ _), .slice ht hs (by simp) (by simp), by simp [pureC]⟩
          · cases hfu
            rcases Nat.eq_zero_or_pos len with h0 | h0
            · subst h0
              exact ⟨[.lst []], one _ _ (.lst0 _ _), .slice ht hs (by simp) (by simp), by simp [pureC]⟩
            · have hte : ∃ te, Y.tab e = some te := by
                cases n with
                | zero => simp [plainT] at hpe
                | succ n =>
                  simp only [plainT] at hpe
                  split at hpe
                  · exact ⟨_, by assumption⟩
                  · cases hpe
              obtain ⟨te, hte⟩ := hte
              have hTe := hY.tab _ _ hte
              have hce := hTe.cellsOf
              have hpos : 0 < te.size := by obtain ⟨_, _, _, _, _, _, _, _, _, hp⟩ := hTe.info; exact hp
              have each : ∀ i, i < len → ∃ hs : List HV, (hs.length = te.size ∧ Typed Y e hs ∧ (∀ c ∈ hs, pureC c = true)) ∧ ∃ vs : List Value, vs.length = te.size ∧ (∀ (j : Nat) (v : Value), vs[j]? = some v → w.cell? ((a.add (i * te.size)).add j) = some v) ∧ LRel VRel (memEnv w) hs vs := by
                intro i hi
                have hg := hget i hi
                rw [hce] at hg
                have hsome : ∃ x, elems[i]? = some x := ⟨elems[i]'(by omega), by simp⟩
                obtain ⟨x, hx⟩ := hsome
                rw [hx] at hg
                obtain ⟨vs, hv, ht'⟩ := Option.bind_eq_some_iff.1 hg
                obtain ⟨hl, hcell⟩ := cells_get hv
                obtain ⟨hs, r, ty, pu⟩ := ih e vs x n ht' hpe
                exact ⟨hs, ⟨by rw [r.1, hl], ty, pu⟩, vs, hl, hcell, r⟩
              have hspot : a.spot = none := by
                obtain ⟨hs, _, vs, hl, hcell, _⟩ := each 0 h0
                have h1 : vs[0]? = some (vs[0]'(by omega)) := by simp
                have := hcell 0 _ h1
                simp only [Nat.zero_mul] at this
                have e1 : (a.add 0).add 0 = a := by simp [Addr.add]
                rw [e1] at this
                exact spot_none this
              obtain ⟨b, o, sp⟩ := a
              simp only at hspot
              subst hspot
              obtain ⟨rows, hrl, hrows⟩ := exists_list len (fun i (r : List HV) => (r.length = te.size ∧ Typed Y e r ∧ (∀ c ∈ r, pureC c = true)) ∧ ∃ vs : List Value, vs.length = te.size ∧ (∀ (j : Nat) (v : Value), vs[j]? = some v → w.cell? (((⟨b, o, none⟩ : Addr).add (i * te.size)).add j) = some v) ∧ LRel VRel (memEnv w) r vs) each
              have hmem : ∀ r ∈ rows, r.length = te.size ∧ Typed Y e r ∧ (∀ c ∈ r, pureC c = true) := fun r hr => by
                obtain ⟨i, hi⟩ := List.getElem?_of_mem hr
                exact (hrows i r hi).1
              have hcellv : ∀ (i j : Nat) (r : List HV) (c : HV), rows[i]? = some r → r[j]? = some c → ∃ v, w.cell? ⟨b, o + i * te.size + j, none⟩ = some v ∧ VRel (memEnv w) c v := by
                intro i j r c hi hj
                obtain ⟨⟨hrz, _⟩, vs, hl, hcell, hr⟩ := hrows i r hi
                have hjl : j < vs.length := by rw [hl, ← hrz]; exact (List.getElem?_eq_some_iff.1 hj).1
                have h1 : vs[j]? = some vs[j] := by simp
                refine ⟨vs[j], ?_, hr.2 j c _ hj h1⟩
                have := hcell j _ h1
                rw [addr_add, addr_add] at this
                exact this
              refine ⟨[.lst rows], one _ _ ?_, .slice ht hs (by omega) fun r hr => (hmem r hr).2.1, by simp [pureC]⟩
              have hlst := VRel.lst (E := memEnv w) rows b o cap te.size (by intro e; rw [e] at hrl; simp at hrl; omega) (by omega) (fun r hr => (hmem r hr).1) (fun r hr => (hmem r hr).2.2) (fun i j => (w.cell? ⟨b, o + i * te.size + j, none⟩).getD undef)
                (fun i j r c hi hj => by
                  obtain ⟨v, hv, _⟩ := hcellv i j r c hi hj
                  show w.cell? ⟨b, o + i * te.size + j, none⟩ = _
                  rw [hv]; rfl)
                (fun i j r c hi hj => by
                  obtain ⟨v, hv, hr⟩ := hcellv i j r c hi hj
                  rw [hv]; exact hr)
              rw [hrl] at hlst
              exact hlst
        · rename_i fs hs
          rw [hs] at hsh
          simp only [Bool.and_eq_true, List.all_eq_true] at hp
          obtain ⟨fields, hu, hfl, hff⟩ := hsh
          obtain ⟨xs, m, hfu, _, hcl, hxl, hfx⟩ := DataW.trod_struct hu h
          cases hfu
          rw [hT.cellsOf] at hcl
          obtain ⟨hs', r, pu, tf⟩ := fields_rel (Y := Y) (E := memEnv w) hcl fs 0 hp.2 fun f hf => by
            obtain ⟨i, hi⟩ := List.getElem?_of_mem hf
            have hil : i < fields.size := by rw [hfl]; exact (List.getElem?_eq_some_iff.1 hi).1
            obtain ⟨j, h3, h4⟩ := hff i fields[i] (by simp [hil])
            rw [hi] at h4
            simp only [Option.some.injEq] at h4
            subst h4
            have hx := hfx i fields[i] (by simp [hil])
            have hcf : P.cellsOf fields[i].type = j.size := by simp [Program.cellsOf, h3]
            rw [hcf] at hx
            have hsome : xs[i]? = some (xs[i]'(by omega)) := by simp
            rw [hsome] at hx
            exact ih _ _ _ n hx (hp.1.2 _ hf)
          refine ⟨hs', by simpa using r, .strct ht hs (by have := r.1; simp at this; omega) fun i f hi => by simpa using tf i f hi, pu⟩
        · cases hp
      · cases hp
end
end Go.Proofs.XVai
