/- How the canonical machine's values and objects stand in the model's memory. -/
import Derived.Test.YtkcneecnniimdaaV1
namespace Go.Proofs.XVai
open Go
set_option linter.unusedVariables false

structure Env where
  hd : Nat → Nat → Option (Nat × Option Nat × Nat)
  mp : Nat → Option Nat
  M : Nat → Nat → Option Value

structure Env.le (E E' : Env) : Prop where
  hd : ∀ k n h, E.hd k n = some h → E'.hd k n = some h
  mp : ∀ k r, E.mp k = some r → E'.mp k = some r
  M : ∀ b o v, E.M b o = some v → E'.M b o = some v

theorem Env.le.refl (E : Env) : E.le E := ⟨fun _ _ _ h => h, fun _ _ h => h, fun _ _ _ h => h⟩
theorem Env.le.trans {A B C : Env} (h : A.le B) (k : B.le C) : A.le C :=
  ⟨fun _ _ _ x => k.hd _ _ _ (h.hd _ _ _ x), fun _ _ x => k.mp _ _ (h.mp _ _ x), fun _ _ _ x => k.M _ _ _ (h.M _ _ _ x)⟩

inductive VRel (E : Env) : HV → Value → Prop
  | bool (b : Bool) : VRel E (.bool b) (.bool b)
  | int (k : IntKind) (n : Int) : VRel E (.int k n) (.int k n)
  | str (s : ByteArray) : VRel E (.str s) (.string s)
  | agg (cs : List HV) (vs : Array Value) (hl : cs.length = vs.size) (h : ∀ (i : Nat) (c : HV) (v : Value), cs[i]? = some c → vs[i]? = some v → VRel E c v) : VRel E (.agg cs) (.agg vs)
  | tup (cs : List HV) (vs : Array Value) (hl : cs.length = vs.size) (h : ∀ (i : Nat) (c : HV) (v : Value), cs[i]? = some c → vs[i]? = some v → VRel E c v) : VRel E (.tup cs) (.tuple vs)
  | nils (b : Option Addr) : VRel E .nils (.slice b 0 0)
  | lst0 (b : Option Addr) (cap : Nat) : VRel E (.lst []) (.slice b 0 cap)
  | lst (rows : List (List HV)) (b o cap sz : Nat) (hn : rows ≠ []) (hc : rows.length ≤ cap) (hz : ∀ r ∈ rows, r.length = sz)
      (hp : ∀ r ∈ rows, ∀ c ∈ r, pureC c = true) (f : Nat → Nat → Value)
      (hM : ∀ (i j : Nat) (r : List HV) (c : HV), rows[i]? = some r → r[j]? = some c → E.M b (o + i * sz + j) = some (f i j))
      (hV : ∀ (i j : Nat) (r : List HV) (c : HV), rows[i]? = some r → r[j]? = some c → VRel E c (f i j)) :
      VRel E (.lst rows) (.slice (some ⟨b, o, none⟩) rows.length cap)
  | sl (k n sz : Nat) (base : Option Nat) (cap : Nat) (h : E.hd k n = some (sz, base, cap)) (hc : n ≤ cap) :
      VRel E (.sl k n) (.slice (base.map fun B => ⟨B, 0, none⟩) n cap)
  | ptr (k n i o sz B cap : Nat) (h : E.hd k n = some (sz, some B, cap)) : VRel E (.ptr k n i o) (.pointer (some ⟨B, i * sz + o, none⟩))
  | iptr (rows : List (List HV)) (i o b off sz : Nat) (hz : ∀ r ∈ rows, r.length = sz)
      (hp : ∀ r ∈ rows, ∀ c ∈ r, pureC c = true) (f : Nat → Nat → Value)
      (hM : ∀ (i j : Nat) (r : List HV) (c : HV), rows[i]? = some r → r[j]? = some c → E.M b (off + i * sz + j) = some (f i j))
      (hV : ∀ (i j : Nat) (r : List HV) (c : HV), rows[i]? = some r → r[j]? = some c → VRel E c (f i j)) :
      VRel E (.iptr rows i o) (.pointer (some ⟨b, off + i * sz + o, none⟩))
  | nilptr : VRel E .nilptr (.pointer none)
  | nilmap : VRel E .nilmap (.map none)
  | nilfn : VRel E .nilfn .nilFunc
  | map (k r : Nat) (h : E.mp k = some r) : VRel E (.map k) (.map (some r))
  | fn (f : Nat) (caps : List HV) (vs : Array Value) (hl : caps.length = vs.size) (h : ∀ (i : Nat) (c : HV) (v : Value), caps[i]? = some c → vs[i]? = some v → VRel E c v) :
      VRel E (.fn f caps) (.func (.func f) #[] vs)
  | gp (g : Nat) : VRel E (.gp g) (.pointer (some ⟨g, 0, none⟩))

theorem VRel.mono {E E' : Env} (hE : E.le E') {c : HV} {v : Value} (h : VRel E c v) : VRel E' c v := by
  induction h with
  | bool b => exact .bool b
  | int k n => exact .int k n
  | str s => exact .str s
  | agg cs vs hl _ ih => exact .agg cs vs hl ih
  | tup cs vs hl _ ih => exact .tup cs vs hl ih
  | nils b => exact .nils b
  | lst0 b c => exact .lst0 b c
  | lst rows b o cap sz hn hc hz hp f hM _ ih => exact .lst rows b o cap sz hn hc hz hp f (fun i j r c h1 h2 => hE.M _ _ _ (hM i j r c h1 h2)) ih
  | sl k n sz base cap h hc => exact .sl k n sz base cap (hE.hd _ _ _ h) hc
  | ptr k n i o sz B cap h => exact .ptr k n i o sz B cap (hE.hd _ _ _ h)
  | iptr rows i o b off sz hz hp f hM _ ih => exact .iptr rows i o b off sz hz hp f (fun i j r c h1 h2 => hE.M _ _ _ (hM i j r c h1 h2)) ih
  | nilptr => exact .nilptr
  | nilmap => exact .nilmap
  | nilfn => exact .nilfn
  | map k r h => exact .map k r (hE.mp _ _ h)
  | fn f caps vs hl _ ih => exact .fn f caps vs hl ih
  | gp g => exact .gp g

/-- What holds no number of an object hangs on the immutable memory alone. -/
theorem VRel.pure {E E' : Env} (hM' : ∀ b o v, E.M b o = some v → E'.M b o = some v) {c : HV} {v : Value} (h : VRel E c v) (hp : pureC c = true) : VRel E' c v := by
  induction h with
  | bool b => exact .bool b
  | int k n => exact .int k n
  | str s => exact .str s
  | lst0 b c => exact .lst0 b c
  | lst rows b o cap sz hn hc hz hpp f hM _ ih =>
    exact .lst rows b o cap sz hn hc hz hpp f (fun i j r c h1 h2 => hM' _ _ _ (hM i j r c h1 h2))
      (fun i j r c h1 h2 => ih i j r c h1 h2 (hpp r (List.mem_of_getElem? h1) c (List.mem_of_getElem? h2)))
  | nilptr => exact .nilptr
  | nilmap => exact .nilmap
  | nilfn => exact .nilfn
  | gp g => exact .gp g
  | _ => simp [pureC] at hp

/-- What holds but numbers below n0 stands where those stand. -/
theorem VRel.under {E E' : Env} {n0 : Nat} (hM' : ∀ b o v, E.M b o = some v → E'.M b o = some v) (hh : ∀ k n h, k < n0 → E.hd k n = some h → E'.hd k n = some h)
    (hm : ∀ k r, k < n0 → E.mp k = some r → E'.mp k = some r) {c : HV} {v : Value} (h : VRel E c v) (hc : idC n0 c = true) : VRel E' c v := by
  cases h with
  | bool b => exact .bool b
  | int k n => exact .int k n
  | str s => exact .str s
  | nils b => exact .nils b
  | lst0 b c => exact .lst0 b c
  | lst rows b o cap sz hn hcap hz hp f hM hV => exact VRel.pure hM' (.lst rows b o cap sz hn hcap hz hp f hM hV) rfl
  | sl k n sz base cap h hcap => exact .sl k n sz base cap (hh _ _ _ (by simpa [idC] using hc) h) hcap
  | ptr k n i o sz B cap h => exact .ptr k n i o sz B cap (hh _ _ _ (by simpa [idC] using hc) h)
  | iptr rows i o b off sz hz hp f hM hV =>
    exact .iptr rows i o b off sz hz hp f (fun i j r c h1 h2 => hM' _ _ _ (hM i j r c h1 h2))
      (fun i j r c h1 h2 => VRel.pure hM' (hV i j r c h1 h2) (hp r (List.mem_of_getElem? h1) c (List.mem_of_getElem? h2)))
  | nilptr => exact .nilptr
  | nilmap => exact .nilmap
  | nilfn => exact .nilfn
  | map k r h => exact .map k r (hm _ _ (by simpa [idC] using hc) h)
  | fn f caps vs hl h =>
    refine .fn f caps vs hl fun i c v h1 h2 => ?_
    have hq := h i c v h1 h2
    simp only [idC, List.all_eq_true] at hc
    have hcc := hc c (List.mem_of_getElem? h1)
    cases hq with
    | bool b => exact .bool b
    | int k n => exact .int k n
    | str s => exact .str s
    | nils b => exact .nils b
    | lst0 b c => exact .lst0 b c
    | lst rows b o cap sz hn hcap hz hp f hM hV => exact VRel.pure hM' (.lst rows b o cap sz hn hcap hz hp f hM hV) rfl
    | sl k n sz base cap h hcap => exact .sl k n sz base cap (hh _ _ _ (by simpa using hcc) h) hcap
    | ptr k n i o sz B cap h => exact .ptr k n i o sz B cap (hh _ _ _ (by simpa using hcc) h)
    | iptr rows i o b off sz hz hp f hM hV =>
      exact .iptr rows i o b off sz hz hp f (fun i j r c h1 h2 => hM' _ _ _ (hM i j r c h1 h2))
        (fun i j r c h1 h2 => VRel.pure hM' (hV i j r c h1 h2) (hp r (List.mem_of_getElem? h1) c (List.mem_of_getElem? h2)))
    | nilptr => exact .nilptr
    | nilmap => exact .nilmap
    | nilfn => exact .nilfn
    | map k r h => exact .map k r (hm _ _ (by simpa using hcc) h)
    | fn g caps' vs' hl' h' =>
      cases caps' with
      | nil => exact .fn g [] vs' hl' (fun i c v h1 _ => by simp at h1)
      | cons a b => simp at hcc
    | gp g => exact .gp g
    | agg => simp at hcc
    | tup => simp at hcc
  | gp g => exact .gp g
  | agg => simp [idC] at hc
  | tup => simp [idC] at hc

def owned (E : Env) (b : Nat) : Prop := (∃ k n sz cap, E.hd k n = some (sz, some b, cap)) ∨ ∃ k, E.mp k = some b

structure Rel (Y : Sys) (E : Env) (C : Nat → Option Ob) (w : World) : Prop where
  hdC : ∀ k n h, E.hd k n = some h → ∃ fr rows, C k = some (.cells fr rows) ∧ n ≤ rows.length
  mpC : ∀ k r, E.mp k = some r → ∃ es, C k = some (.map es)
  cells : ∀ k fr rows, C k = some (.cells fr rows) → ∃ sz base cap, E.hd k rows.length = some (sz, base, cap) ∧ rows.length ≤ cap ∧ (∀ r ∈ rows, r.length = sz) ∧
    (rows = [] → cap = 0) ∧ (base = none → cap = 0) ∧ ∀ B, base = some B → ∃ cs ty, w.heap[B]? = some (.cells cs ty (0, 0)) ∧ cs.size = cap * sz ∧
      (∀ (i j : Nat) (r : List HV) (c : HV), rows[i]? = some r → r[j]? = some c → ∃ v, cs[i * sz + j]? = some v ∧ VRel E c v) ∧
      (∀ o v, E.M B o = some v → fr = true ∧ o < rows.length * sz)
  maps : ∀ k es, C k = some (.map es) → ∃ r entries clock, E.mp k = some r ∧ w.heap[r]? = some (.map entries clock) ∧ es.length = entries.size ∧
    ∀ (i : Nat) (e : HV × HV) (m : MapEntry), es[i]? = some e → entries[i]? = some m → VRel E e.1 m.key ∧ VRel E e.2 m.val
  inj : ∀ k n sz B cap k' n' sz' cap', E.hd k n = some (sz, some B, cap) → E.hd k' n' = some (sz', some B, cap') → k = k'
  injm : ∀ k k' r, E.mp k = some r → E.mp k' = some r → k = k'
  hdm : ∀ k n sz B cap k', E.hd k n = some (sz, some B, cap) → E.mp k' ≠ some B
  bound : ∀ k n sz B cap, E.hd k n = some (sz, some B, cap) → B < w.heap.size
  mem : ∀ b o v, E.M b o = some v → w.cell? ⟨b, o, none⟩ = some v
  glob : ∀ g row, Y.glob g = some row → (∀ c ∈ row, pureC c = true) ∧ ∃ f : Nat → Value, ∀ (j : Nat) (c : HV), row[j]? = some c → E.M g j = some (f j) ∧ VRel E c (f j)
  nodummy : ∀ k, C k ≠ some .dummy

structure Go1 (E : Env) (w : World) (E' : Env) (w' : World) : Prop where
  le : E.le E'
  os : w'.os = w.os
  tape : w'.tape = w.tape
  output : w'.output = w.output
  size : w.heap.size ≤ w'.heap.size
  frame : ∀ b, b < w.heap.size → ¬ owned E b → w'.heap[b]? = w.heap[b]?
  fresh : ∀ b, owned E' b → owned E b ∨ w.heap.size ≤ b

theorem Go1.refl (E : Env) (w : World) : Go1 E w E w := ⟨.refl E, rfl, rfl, rfl, Nat.le_refl _, fun _ _ _ => rfl, fun _ h => .inl h⟩
theorem Go1.trans {E E1 E2 : Env} {w w1 w2 : World} (h : Go1 E w E1 w1) (k : Go1 E1 w1 E2 w2) : Go1 E w E2 w2 where
  le := h.le.trans k.le
  os := k.os.trans h.os
  tape := k.tape.trans h.tape
  output := k.output.trans h.output
  size := Nat.le_trans h.size k.size
  frame b hb ho := by
    have h1 : ¬ owned E1 b := fun h1 => (h.fresh b h1).elim ho (by omega)
    rw [k.frame b (Nat.lt_of_lt_of_le hb h.size) h1, h.frame b hb ho]
  fresh b hb := (k.fresh b hb).elim (fun h1 => h.fresh b h1) (fun h1 => .inr (Nat.le_trans h.size h1))

theorem Rel.drew {Y : Sys} {E : Env} {C : Nat → Option Ob} {w w' : World} (h : Rel Y E C w) (hh : w'.heap = w.heap) : Rel Y E C w' where
  hdC := h.hdC
  mpC := h.mpC
  cells := by rw [hh]; exact h.cells
  maps := by rw [hh]; exact h.maps
  inj := h.inj
  injm := h.injm
  hdm := h.hdm
  bound := by rw [hh]; exact h.bound
  mem b o v hv := by have := h.mem b o v hv; unfold World.cell? at this ⊢; rw [hh]; exact this
  glob := h.glob
  nodummy := h.nodummy

def setHd (E : Env) (k n : Nat) (h : Nat × Option Nat × Nat) : Env := { E with hd := fun k' n' => if k' = k ∧ n' = n then some h else E.hd k' n' }
def setC (C : Nat → Option Ob) (k : Nat) (o : Ob) : Nat → Option Ob := fun k' => if k' = k then some o else C k'

theorem setC_nd {C : Nat → Option Ob} (h : ∀ k, C k ≠ some .dummy) (k : Nat) {o : Ob} (ho : o ≠ .dummy) : ∀ j, setC C k o j ≠ some .dummy := by
  intro j; simp only [setC]; split
  · simpa using ho
  · exact h j

/-- An object's rows anew: a new object, a store, an append in place or elsewhere. -/
theorem Rel.putCells {Y : Sys} {E : Env} {C : Nat → Option Ob} {w w' : World} (hR : Rel Y E C w) (k : Nat) (fr' : Bool) (rows' : List (List HV)) (sz : Nat) (base' : Option Nat) (cap' : Nat)
    (hold : C k = none ∨ ∃ fr rows, C k = some (.cells fr rows) ∧ rows.length ≤ rows'.length ∧ (rows.length = rows'.length → E.hd k rows.length = some (sz, base', cap')))
    (hos : w'.os = w.os) (htape : w'.tape = w.tape) (hout : w'.output = w.output)
    (hsize : w.heap.size ≤ w'.heap.size) (hframe : ∀ b, b < w.heap.size → base' ≠ some b → w'.heap[b]? = w.heap[b]?)
    (hown : ∀ B, base' = some B → (w.heap.size ≤ B ∨ ∃ n sz cap, E.hd k n = some (sz, some B, cap)) ∧ B < w'.heap.size)
    (hcap : rows'.length ≤ cap') (hz : ∀ r ∈ rows', r.length = sz) (hnil : rows' = [] → cap' = 0) (hnone : base' = none → cap' = 0)
    (hB : ∀ B, base' = some B → ∃ cs ty, w'.heap[B]? = some (.cells cs ty (0, 0)) ∧ cs.size = cap' * sz ∧
      (∀ (i j : Nat) (r : List HV) (c : HV), rows'[i]? = some r → r[j]? = some c → ∃ v, cs[i * sz + j]? = some v ∧ VRel (setHd E k rows'.length (sz, base', cap')) c v) ∧
      (∀ o v, E.M B o = some v → fr' = true ∧ o < rows'.length * sz ∧ cs[o]? = some v)) :
    Rel Y (setHd E k rows'.length (sz, base', cap')) (setC C k (.cells fr' rows')) w' ∧ Go1 E w (setHd E k rows'.length (sz, base', cap')) w' := by
  have hdnone : C k = none → ∀ n h, E.hd k n ≠ some h := fun h0 n h hh => by
    obtain ⟨_, _, h1, _⟩ := hR.hdC _ _ _ hh
    rw [h0] at h1; cases h1
  have hmpnone : (∃ r, E.mp k = some r) → False := fun ⟨r, hr⟩ => by
    obtain ⟨es, h1⟩ := hR.mpC _ _ hr
    rcases hold with h0 | ⟨fr, rows, h0, _⟩ <;> rw [h0] at h1 <;> cases h1
  have hle : E.le (setHd E k rows'.length (sz, base', cap')) := by
    refine ⟨fun k1 n1 h1 hh => ?_, fun _ _ h => h, fun _ _ _ h => h⟩
    simp only [setHd]
    by_cases hk : k1 = k ∧ n1 = rows'.length
    · rw [if_pos hk]
      obtain ⟨rfl, rfl⟩ := hk
      rcases hold with h0 | ⟨fr, rows, h0, hlen, heq⟩
      · exact absurd hh (hdnone h0 _ _)
      · obtain ⟨fr1, rows1, h2, h3⟩ := hR.hdC _ _ _ hh
        rw [h0] at h2
        cases h2
        have : rows.length = rows'.length := by omega
        rw [← heq this, this, hh]
    · rw [if_neg hk]; exact hh
  have hdcase : ∀ k1 n1 h1, (setHd E k rows'.length (sz, base', cap')).hd k1 n1 = some h1 → E.hd k1 n1 = some h1 ∨ (k1 = k ∧ n1 = rows'.length ∧ h1 = (sz, base', cap')) := by
    intro k1 n1 h1 hh
    simp only [setHd] at hh
    split at hh
    · rename_i hk; cases hh; exact .inr ⟨hk.1, hk.2, rfl⟩
    · exact .inl hh
  have ownB : ∀ k1 n1 sz1 B cap1, (setHd E k rows'.length (sz, base', cap')).hd k1 n1 = some (sz1, some B, cap1) →
      (∃ n2 sz2 cap2, E.hd k1 n2 = some (sz2, some B, cap2)) ∨ (k1 = k ∧ w.heap.size ≤ B) := by
    intro k1 n1 sz1 B cap1 hh
    rcases hdcase _ _ _ hh with h | ⟨rfl, rfl, h⟩
    · exact .inl ⟨_, _, _, h⟩
    · simp only [Prod.mk.injEq] at h
      obtain ⟨_, hb, _⟩ := h
      rcases (hown B hb.symm).1 with h2 | h2
      · exact .inr ⟨rfl, h2⟩
      · exact .inl h2
  have framek : ∀ B k1 n1 sz1 cap1, k1 ≠ k → E.hd k1 n1 = some (sz1, some B, cap1) → w'.heap[B]? = w.heap[B]? := by
    intro B k1 n1 sz1 cap1 hk hh
    refine hframe B (hR.bound _ _ _ _ _ hh) fun hb => ?_
    rcases (hown B hb).1 with h2 | ⟨n2, sz2, cap2, h2⟩
    · have := hR.bound _ _ _ _ _ hh; omega
    · exact hk (hR.inj _ _ _ _ _ _ _ _ _ hh h2)
  refine ⟨⟨?_, ?_, ?_, ?_, ?_, ?_, ?_, ?_, ?_, ?_, setC_nd hR.nodummy k (by simp)⟩, ⟨hle, hos, htape, hout, hsize, ?_, ?_⟩⟩
  · intro k1 n1 h1 hh
    simp only [setC]
    by_cases hk : k1 = k
    · rw [if_pos hk]
      refine ⟨fr', rows', rfl, ?_⟩
      rcases hdcase _ _ _ hh with h | ⟨_, h, _⟩
      · subst hk
        rcases hold with h0 | ⟨fr, rows, h0, hlen, _⟩
        · exact absurd h (hdnone h0 _ _)
        · obtain ⟨_, _, h2, h3⟩ := hR.hdC _ _ _ h
          rw [h0] at h2; cases h2; omega
      · omega
    · rw [if_neg hk]
      rcases hdcase _ _ _ hh with h | ⟨h, _⟩
      · exact hR.hdC _ _ _ h
      · exact absurd h hk
  · intro k1 r hr
    have hk : k1 ≠ k := fun e => hmpnone ⟨r, e ▸ hr⟩
    simp only [setC, if_neg hk]
    exact hR.mpC _ _ hr
  · intro k1 fr1 rows1 hC1
    simp only [setC] at hC1
    by_cases hk : k1 = k
    · rw [if_pos hk] at hC1
      cases hC1
      refine ⟨sz, base', cap', by simp [setHd, hk], hcap, hz, hnil, hnone, fun B hb => ?_⟩
      obtain ⟨cs, ty, h1, h2, h3, h4⟩ := hB B hb
      exact ⟨cs, ty, h1, h2, h3, fun o v hv => ⟨(h4 o v hv).1, (h4 o v hv).2.1⟩⟩
    · rw [if_neg hk] at hC1
      obtain ⟨sz1, b1, c1, h1, h2, h3, h4, h5, h6⟩ := hR.cells _ _ _ hC1
      refine ⟨sz1, b1, c1, hle.hd _ _ _ h1, h2, h3, h4, h5, fun B hb => ?_⟩
      obtain ⟨cs, ty, g1, g2, g3, g4⟩ := h6 B hb
      subst hb
      refine ⟨cs, ty, by rw [framek B k1 _ _ _ hk h1]; exact g1, g2, fun i j r c hi hj => ?_, g4⟩
      obtain ⟨v, hv, hr⟩ := g3 i j r c hi hj
      exact ⟨v, hv, hr.mono hle⟩
  · intro k1 es hC1
    simp only [setC] at hC1
    by_cases hk : k1 = k
    · rw [if_pos hk] at hC1; cases hC1
    · rw [if_neg hk] at hC1
      obtain ⟨r, en, cl, h1, h2, h3, h4⟩ := hR.maps _ _ hC1
      have hrlt : r < w.heap.size := (Array.getElem?_eq_some_iff.1 h2).1
      refine ⟨r, en, cl, h1, ?_, h3, fun i e m he hm => ⟨((h4 i e m he hm).1).mono hle, ((h4 i e m he hm).2).mono hle⟩⟩
      rw [hframe r hrlt fun hb => ?_]
      · exact h2
      · rcases (hown r hb).1 with h5 | ⟨n2, sz2, cap2, h5⟩
        · omega
        · exact hR.hdm _ _ _ _ _ _ h5 h1
  · intro k1 n1 sz1 B cap1 k2 n2 sz2 cap2 h1 h2
    rcases ownB _ _ _ _ _ h1 with ⟨a1, a2, a3, ha⟩ | ⟨ha, hb⟩ <;> rcases ownB _ _ _ _ _ h2 with ⟨b1, b2, b3, hbb⟩ | ⟨hbb, hb2⟩
    · exact hR.inj _ _ _ _ _ _ _ _ _ ha hbb
    · have := hR.bound _ _ _ _ _ ha; omega
    · have := hR.bound _ _ _ _ _ hbb; omega
    · rw [ha, hbb]
  · exact hR.injm
  · intro k1 n1 sz1 B cap1 k2 h1 h2
    rcases ownB _ _ _ _ _ h1 with ⟨a1, a2, a3, ha⟩ | ⟨ha, hb⟩
    · exact hR.hdm _ _ _ _ _ _ ha h2
    · replace h2 : E.mp k2 = some B := h2
      obtain ⟨es, h3⟩ := hR.mpC _ _ h2
      obtain ⟨r, en, cl, h4, h5, _⟩ := hR.maps _ _ h3
      rw [h2] at h4
      cases h4
      have := (Array.getElem?_eq_some_iff.1 h5).1
      omega
  · intro k1 n1 sz1 B cap1 h1
    rcases hdcase _ _ _ h1 with h | ⟨_, _, h⟩
    · have := hR.bound _ _ _ _ _ h; omega
    · simp only [Prod.mk.injEq] at h
      exact (hown B h.2.1.symm).2
  · intro b o v hv
    have hv' : E.M b o = some v := hv
    by_cases hb : base' = some b
    · obtain ⟨cs, ty, h1, h2, h3, h4⟩ := hB b hb
      have := (h4 o v hv').2.2
      unfold World.cell?
      simp [h1, this]
    · have hm := hR.mem _ _ _ hv'
      have hlt : b < w.heap.size := by
        unfold World.cell? at hm
        rcases Nat.lt_or_ge b w.heap.size with h | h
        · exact h
        · simp [Array.getElem?_eq_none h] at hm
      unfold World.cell? at hm ⊢
      rw [hframe b hlt hb]
      exact hm
  · intro g row hg
    obtain ⟨h1, f, h2⟩ := hR.glob g row hg
    exact ⟨h1, f, fun j c hj => ⟨(h2 j c hj).1, ((h2 j c hj).2).mono hle⟩⟩
  · intro b hb ho
    refine hframe b hb fun hbb => ?_
    rcases (hown b hbb).1 with h2 | ⟨n2, sz2, cap2, h2⟩
    · omega
    · exact ho (.inl ⟨_, _, _, _, h2⟩)
  · intro b hb
    rcases hb with ⟨k1, n1, sz1, cap1, h1⟩ | ⟨k1, h1⟩
    · rcases ownB _ _ _ _ _ h1 with ⟨a1, a2, a3, ha⟩ | ⟨_, h⟩
      · exact .inl (.inl ⟨_, _, _, _, ha⟩)
      · exact .inr h
    · exact .inl (.inr ⟨k1, h1⟩)

end Go.Proofs.XVai
