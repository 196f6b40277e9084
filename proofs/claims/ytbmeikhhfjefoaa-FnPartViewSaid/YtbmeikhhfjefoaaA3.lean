/- The canonical machine on which the functions are run, and contracts of functions, part 3 of 6. Conditions: none. -/
import Derived.Test.YtbmeikhhfjefoaaA2
import Derived.Test.YtbmeikhhfjefoaaChecked
import Derived.KernelRfl
set_option linter.all false
section
namespace Go.Proofs.XVai
open Go
set_option linter.unusedVariables false
set_option linter.unusedSimpArgs false

/-- From the ix-th operation on of a region that draws its order; es: those ahead that changed something. -/
structure DW (Y : Sys) (fid : Nat) (ops : Array Oper) (bs ix : Nat) (es : List (Nat × (Nat → Prop))) (ns : List (Nat × Nat)) (l : List Oper) (T : Tm) (S : St) (K : Tm → St → Prop) : Prop where
  of : ∀ L : List Log, (∀ x ∈ L, x.idx < ix ∧ (x.reads = [] ∨ ∃ q, x.reads = [q] ∧ (x.idx, q) ∈ ns) ∧ ∀ A B, x.eff = some (A, B) → A = B ∨ ∃ P, (x.idx, P) ∈ es ∧ ∀ j, ¬ P j → A[j]? = B[j]?) → ∃ m T' S', copsD Y fid (ccall Y m) ops bs ix l L T S = some (T', S') ∧ K T' S'
/-- Those ahead look at something else, or the order is told. -/
def Nc (ops : Array Oper) (ns : List (Nat × Nat)) (ix : Nat) (P : Nat → Prop) : Prop := ∀ e ∈ ns, anc ops e.1 ix = true ∨ ¬ P e.2
/-- Those ahead change something else, or the order is told. -/
def Ne' (ops : Array Oper) (es : List (Nat × (Nat → Prop))) (ix q : Nat) : Prop := ∀ e ∈ es, anc ops e.1 ix = true ∨ ¬ e.2 q
theorem ncA {ops : Array Oper} {es : List (Nat × Nat)} {ix : Nat} {P : Nat → Prop} (h : (es.all fun e => anc ops e.1 ix) = true) : Nc ops es ix P := fun e he => .inl (List.all_eq_true.1 h e he)
theorem nc0 {ops : Array Oper} {ix : Nat} {P : Nat → Prop} : Nc ops [] ix P := fun e he => by cases he
theorem nc1 {ops : Array Oper} {es : List (Nat × Nat)} {ix q i k : Nat} (h : k ≠ q) (hs : Nc ops es ix (fun j => j = q)) : Nc ops ((i, k) :: es) ix (fun j => j = q) := fun e he => by
  rcases List.mem_cons.1 he with rfl | he
  · exact .inr h
  · exact hs e he
theorem nc2 {ops : Array Oper} {es : List (Nat × Nat)} {ix i k : Nat} {P : Nat → Prop} (h : anc ops i ix = true) (hs : Nc ops es ix P) : Nc ops ((i, k) :: es) ix P := fun e he => by
  rcases List.mem_cons.1 he with rfl | he
  · exact .inl h
  · exact hs e he
theorem nc3 {ops : Array Oper} {es : List (Nat × Nat)} {ix n i k : Nat} (h : k < n) (hs : Nc ops es ix (fun j => n ≤ j)) : Nc ops ((i, k) :: es) ix (fun j => n ≤ j) := fun e he => by
  rcases List.mem_cons.1 he with rfl | he
  · exact .inr (by simp only; omega)
  · exact hs e he
theorem neA {ops : Array Oper} {es : List (Nat × (Nat → Prop))} {ix q : Nat} (h : (es.all fun e => anc ops e.1 ix) = true) : Ne' ops es ix q := fun e he => .inl (List.all_eq_true.1 h e he)
theorem ne0 {ops : Array Oper} {ix q : Nat} : Ne' ops [] ix q := fun e he => by cases he
theorem ne1 {ops : Array Oper} {es : List (Nat × (Nat → Prop))} {ix q i k : Nat} (h : k ≠ q) (hs : Ne' ops es ix q) : Ne' ops ((i, fun j => j = k) :: es) ix q := fun e he => by
  rcases List.mem_cons.1 he with rfl | he
  · exact .inr (Ne.symm h)
  · exact hs e he
theorem ne2 {ops : Array Oper} {es : List (Nat × (Nat → Prop))} {ix q i : Nat} {P : Nat → Prop} (h : anc ops i ix = true) (hs : Ne' ops es ix q) : Ne' ops ((i, P) :: es) ix q := fun e he => by
  rcases List.mem_cons.1 he with rfl | he
  · exact .inl h
  · exact hs e he
theorem ne3 {ops : Array Oper} {es : List (Nat × (Nat → Prop))} {ix q i n : Nat} (h : q < n) (hs : Ne' ops es ix q) : Ne' ops ((i, fun j => n ≤ j) :: es) ix q := fun e he => by
  rcases List.mem_cons.1 he with rfl | he
  · exact .inr (by simp only; omega)
  · exact hs e he
def rdl (o : Op) (T : Tm) : List Nat := reads ⟨none, o, 0, "", #[], none⟩ T
def isEO (o : Op) : Bool := isE ⟨none, o, 0, "", #[], none⟩
/-- Parts that may be put into a row whatever else goes on. -/
def qparts (parts : Array (Nat × Operand)) (T : Tm) : Bool := parts.toList.all fun p => (ev T p.2).cells.all fun c => pureC c || (match c with | .nils => true | _ => false)
theorem qparts_spec {parts : Array (Nat × Operand)} {T : Tm} (h : qparts parts T = true) : ∀ p ∈ parts.toList, ∀ c ∈ (ev T p.2).cells, pureC c = true ∨ c = .nils := by
  intro p hp c hc
  have := List.all_eq_true.1 (List.all_eq_true.1 h p hp) c hc
  simp only [Bool.or_eq_true] at this
  rcases this with h | h
  · exact .inl h
  · right; cases c <;> simp at h; rfl

theorem hbs {S0 : St} {k b : Nat} {o : Ob} : S0.length + b = (S0.set k o).length + b := by simp
def quietTail (o : Op) (T : Tm) (S : St) : Prop := match o with
    | .buildSlice _ _ parts => ∀ p ∈ parts.toList, ∀ c ∈ (ev T p.2).cells, (pureC c = true ∨ c = .nils)
    | .slice _ x _ _ _ => ∀ k n fr rows, ev T x = .sl k n → S[k]? = some (.cells fr rows) → ∀ r ∈ rows, ∀ c ∈ r, pureC c = true
    | _ => True
section
variable {Y : Sys} {fid : Nat} {T : Tm} {S : St} {Q : Ex → Tm → St → Prop} {K : Tm → St → Prop} {ops : Array Oper} {l : List Oper} {S' : St} {dst : Option Tmp} {op : Op} {ty : TypeId} {pos : String} {after : Array Edge} {g0 : Option (Nat × Bool)} {bs ix : Nat} {es : List (Nat × (Nat → Prop))} {ns : List (Nat × Nat)} {v : HV}

theorem DW_put {es' : List (Nat × (Nat → Prop))} {ns' : List (Nat × Nat)} (hg : wantG ops g0 T = true) (h : ∃ m, cop Y fid (ccall Y m) (some (bs + ix)) ⟨dst, op, ty, pos, after, g0⟩ T S = some (v, S')) (hq : quietOp ⟨dst, op, ty, pos, after, g0⟩ T (bs + ix) S S')
    (ha : ∀ x : Log, x.idx < ix → (x.reads = [] ∨ ∃ q, x.reads = [q] ∧ (x.idx, q) ∈ ns) → (∀ A B, x.eff = some (A, B) → A = B ∨ ∃ P, (x.idx, P) ∈ es ∧ ∀ j, ¬ P j → A[j]? = B[j]?) → apartL ops x ⟨ix, if isEO op then [] else rdl op T, if isEO op then some (S, S') else none⟩)
    (he : es' = es ∨ ∃ P, es' = (ix, P) :: es) (hE : isEO op = true → S = S' ∨ ∃ P, es' = (ix, P) :: es ∧ ∀ j, ¬ P j → S[j]? = S'[j]?) (hn : ns' = ns ∨ ∃ q, ns' = (ix, q) :: ns) (hN : isEO op = false → rdl op T = [] ∨ ∃ q, rdl op T = [q] ∧ ns' = (ix, q) :: ns) (hk : DW Y fid ops bs (ix + 1) es' ns' l (put T dst v) S' K) : DW Y fid ops bs ix es ns (⟨dst, op, ty, pos, after, g0⟩ :: l) T S K := by
  refine ⟨fun L hL => ?_⟩
  obtain ⟨m1, h1⟩ := h
  have e1 : isE ⟨dst, op, ty, pos, after, g0⟩ = isEO op := rfl
  have e2 : reads ⟨dst, op, ty, pos, after, g0⟩ T = rdl op T := rfl
  obtain ⟨m, T2, S2, h2, h3⟩ := hk.of (L ++ [⟨ix, if isEO op then [] else rdl op T, if isEO op then some (S, S') else none⟩]) (fun x hx => by
    have sub : ∀ j, j ∈ es → j ∈ es' := fun j hj => by rcases he with rfl | ⟨q, rfl⟩ <;> simp [hj]
    have sun : ∀ j, j ∈ ns → j ∈ ns' := fun j hj => by rcases hn with rfl | ⟨q, rfl⟩ <;> simp [hj]
    rcases List.mem_append.1 hx with hx | hx
    · obtain ⟨a, c, b⟩ := hL x hx
      exact ⟨by omega, c.imp id (fun ⟨q, h1, h2⟩ => ⟨q, h1, sun _ h2⟩), fun A B h => (b A B h).imp id (fun ⟨q, h1, h2⟩ => ⟨q, sub _ h1, h2⟩)⟩
    · simp only [List.mem_singleton] at hx; subst hx
      refine ⟨by simp, ?_, fun A B hAB => ?_⟩
      · cases hE' : isEO op
        · simp only [Bool.false_eq_true, if_false]
          exact (hN hE').imp id fun ⟨q, h1, h2⟩ => ⟨q, h1, by rw [h2]; simp⟩
        · simp
      · cases hE' : isEO op <;> simp [hE'] at hAB
        rw [← hAB.1, ← hAB.2]
        exact (hE hE').imp id fun ⟨q, h1, h2⟩ => ⟨q, by rw [h1]; simp, h2⟩)
  refine ⟨max m1 m, T2, S2, ?_, h3⟩
  have hw : wantedC ops ⟨dst, op, ty, pos, after, g0⟩ T = true := hg
  simp only [copsD, hw, if_true]
  rw [cop_mono (ccall_mono (Nat.le_max_left m1 m)) h1]
  simp only [e1, e2]
  rw [if_pos ⟨hq, fun x hx => ha x (hL x hx).1 (hL x hx).2.1 (hL x hx).2.2⟩]
  exact copsD_mono (ccall_mono (Nat.le_max_right m1 m)) _ _ _ _ _ _ h2

theorem DW_skip (hg : wantG ops g0 T = false) (hk : DW Y fid ops bs (ix + 1) es ns l (put T dst (.tup [])) S K) : DW Y fid ops bs ix es ns (⟨dst, op, ty, pos, after, g0⟩ :: l) T S K := by
  refine ⟨fun L hL => ?_⟩
  obtain ⟨m, T2, S2, h2, h3⟩ := hk.of L fun x hx => ⟨by have := (hL x hx).1; omega, (hL x hx).2⟩
  have hw : wantedC ops ⟨dst, op, ty, pos, after, g0⟩ T = false := hg
  exact ⟨m, T2, S2, by simp only [copsD, hw, Bool.false_eq_true, if_false]; exact h2, h3⟩

/-- What changes nothing. -/
theorem DW_still (hg : wantG ops g0 T = true) (h : cop Y fid noCall (some (bs + ix)) ⟨dst, op, ty, pos, after, g0⟩ T S = some (v, S)) (hs : still op = true) (hr : rdl op T = []) (hk : DW Y fid ops bs (ix + 1) es ns l (put T dst v) S K) : DW Y fid ops bs ix es ns (⟨dst, op, ty, pos, after, g0⟩ :: l) T S K := by
  have hE : isEO op = false := still_isE (o := ⟨none, op, 0, "", #[], none⟩) hs
  refine DW_put hg ⟨0, cop_mono (noCall_le _) h⟩ (fun _ => ⟨rfl, fun _ _ => rfl, ?_⟩) (fun x hx hxr hxe => ?_) (.inl rfl) (fun h => by rw [hE] at h; cases h) (.inl rfl) (fun _ => .inl hr) hk
  · cases op <;> first | trivial | (simp [still] at hs)
  · simp only [hE, Bool.false_eq_true, if_false]
    exact .inr ⟨fun A B hAB k hk => (by simp only at hk; rw [hr] at hk; cases hk), fun A B hAB => by cases hAB⟩
theorem DW_read {q : Nat} (hg : wantG ops g0 T = true) (h : cop Y fid noCall (some (bs + ix)) ⟨dst, op, ty, pos, after, g0⟩ T S = some (v, S)) (hs : still op = true) (hr : rdl op T = [q]) (hc : Ne' ops es ix q) (hk : DW Y fid ops bs (ix + 1) es ((ix, q) :: ns) l (put T dst v) S K) : DW Y fid ops bs ix es ns (⟨dst, op, ty, pos, after, g0⟩ :: l) T S K := by
  have hE : isEO op = false := still_isE (o := ⟨none, op, 0, "", #[], none⟩) hs
  refine DW_put hg ⟨0, cop_mono (noCall_le _) h⟩ (fun _ => ⟨rfl, fun _ _ => rfl, ?_⟩) (fun x hx hxr hxe => ?_) (.inl rfl) (fun h => by rw [hE] at h; cases h) (.inr ⟨q, rfl⟩) (fun _ => .inr ⟨q, hr, rfl⟩) hk
  · cases op <;> first | trivial | (simp [still] at hs)
  · simp only [hE, Bool.false_eq_true, if_false]
    by_cases hm : anc ops x.idx ix = true
    · exact .inl hm
    refine .inr ⟨fun A B hAB k hk => ?_, fun A B hAB => by cases hAB⟩
    simp only at hk
    rw [hr, List.mem_singleton] at hk
    subst hk
    rcases hxe A B hAB with rfl | ⟨q', h1, h2⟩
    · rfl
    · rcases hc _ h1 with h3 | h3
      · exact absurd h3 hm
      · exact h2 k h3
/-- What makes something new. -/
theorem DW_new {o : Ob} (hg : wantG ops g0 T = true) (h : cop Y fid noCall (some (bs + ix)) ⟨dst, op, ty, pos, after, g0⟩ T S = some (v, S.set (bs + ix) o)) (hE : isEO op = false) (hr : rdl op T = []) (hq : quietTail op T S) (hk : DW Y fid ops bs (ix + 1) es ns l (put T dst v) (S.set (bs + ix) o) K) : DW Y fid ops bs ix es ns (⟨dst, op, ty, pos, after, g0⟩ :: l) T S K := by
  refine DW_put hg ⟨0, cop_mono (noCall_le _) h⟩ (fun _ => ⟨by simp, fun k hk => by rw [List.getElem?_set_ne (Ne.symm hk)], hq⟩) (fun x hx hxr hxe => ?_) (.inl rfl) (fun h => by rw [hE] at h; cases h) (.inl rfl) (fun _ => .inl hr) hk
  simp only [hE, Bool.false_eq_true, if_false]
  exact .inr ⟨fun A B hAB k hk => (by simp only at hk; rw [hr] at hk; cases hk), fun A B hAB => by cases hAB⟩
/-- What might change something, but does not. -/
theorem DW_pure (hg : wantG ops g0 T = true) (h : ∃ m, cop Y fid (ccall Y m) (some (bs + ix)) ⟨dst, op, ty, pos, after, g0⟩ T S = some (v, S)) (hE : isEO op = true) (hk : DW Y fid ops bs (ix + 1) es ns l (put T dst v) S K) : DW Y fid ops bs ix es ns (⟨dst, op, ty, pos, after, g0⟩ :: l) T S K := by
  have e1 : isE ⟨dst, op, ty, pos, after, g0⟩ = isEO op := rfl
  refine DW_put hg h (fun h => by rw [e1, hE] at h; cases h) (fun x hx hxr hxe => ?_) (.inl rfl) (fun _ => .inl rfl) (.inl rfl) (fun h => by rw [hE] at h; cases h) hk
  simp only [hE, if_true]
  refine .inr ⟨fun A B hAB k hk => (by cases hk), fun A B hAB k _ => ?_⟩
  simp only [Option.some.injEq, Prod.mk.injEq] at hAB
  rw [← hAB.1, ← hAB.2]; rfl
theorem DW_effP {P : Nat → Prop} (hg : wantG ops g0 T = true) (h : ∃ m, cop Y fid (ccall Y m) (some (bs + ix)) ⟨dst, op, ty, pos, after, g0⟩ T S = some (v, S')) (hE : isEO op = true) (hc : Nc ops ns ix P) (same : ∀ j, ¬ P j → S[j]? = S'[j]?) (hk : DW Y fid ops bs (ix + 1) ((ix, P) :: es) ns l (put T dst v) S' K) : DW Y fid ops bs ix es ns (⟨dst, op, ty, pos, after, g0⟩ :: l) T S K := by
  have e1 : isE ⟨dst, op, ty, pos, after, g0⟩ = isEO op := rfl
  refine DW_put hg h (fun h => by rw [e1, hE] at h; cases h) (fun x hx hxr hxe => ?_) (.inr ⟨P, rfl⟩) (fun _ => .inr ⟨P, rfl, same⟩) (.inl rfl) (fun h => by rw [hE] at h; cases h) hk
  simp only [hE, if_true]
  by_cases hm : anc ops x.idx ix = true
  · exact .inl hm
  refine .inr ⟨fun A B hAB k hk => (by cases hk), fun A B hAB k hk => ?_⟩
  simp only [Option.some.injEq, Prod.mk.injEq] at hAB
  rcases hxr with hxr | ⟨q', h1, h2⟩
  · rw [hxr] at hk; cases hk
  · rw [h1, List.mem_singleton] at hk
    subst hk
    rcases hc _ h2 with h3 | h3
    · exact absurd h3 hm
    · rw [← hAB.1, ← hAB.2]; exact same k h3
/-- What changes one object. -/
theorem DW_eff {q : Nat} {o : Ob} (hg : wantG ops g0 T = true) (h : ∃ m, cop Y fid (ccall Y m) (some (bs + ix)) ⟨dst, op, ty, pos, after, g0⟩ T S = some (v, S.set q o)) (hE : isEO op = true) (hc : Nc ops ns ix (fun j => j = q)) (hS : S.set q o = S') (hk : DW Y fid ops bs (ix + 1) ((ix, fun j => j = q) :: es) ns l (put T dst v) S' K) : DW Y fid ops bs ix es ns (⟨dst, op, ty, pos, after, g0⟩ :: l) T S K := by
  subst hS
  exact DW_effP hg h hE hc (fun j hj => by rw [List.getElem?_set_ne (Ne.symm hj)]) hk
/-- What makes objects behind all others. -/
theorem DW_ext {J : St} (hg : wantG ops g0 T = true) (h : ∃ m, cop Y fid (ccall Y m) (some (bs + ix)) ⟨dst, op, ty, pos, after, g0⟩ T S = some (v, S ++ J)) (hE : isEO op = true) (hc : Nc ops ns ix (fun j => S.length ≤ j)) (hk : DW Y fid ops bs (ix + 1) ((ix, fun j => S.length ≤ j) :: es) ns l (put T dst v) (S ++ J) K) : DW Y fid ops bs ix es ns (⟨dst, op, ty, pos, after, g0⟩ :: l) T S K :=
  DW_effP hg h hE hc (fun j hj => by rw [List.getElem?_append_left (by omega)]) hk

theorem d3' {id : Nat} {l : List Oper} {S0 L L' : St} {n m : Nat} (hn : l.length = n := by first | rfl | (simp only [List.length_cons, List.length_nil, Nat.reduceAdd]; rfl)) (hm : L.length = m := by first | (simp only [List.length_append, List.length_cons, List.length_nil, Nat.reduceAdd]; rfl) | rfl) (hL : L ++ List.replicate n .dummy = L' := by rfl)
    (h : DW Y fid l.toArray (S0.length + m) 0 [] [] l T (S0 ++ L') (Q .norm)) : CW Y fid (.region id l.toArray true) T (S0 ++ L) Q := by
  subst hn; subst hm; subst hL
  obtain ⟨m, T', S', h1, h2⟩ := h.of [] (by simp)
  refine ⟨⟨m, .norm, T', S', ?_, h2⟩⟩
  simp only [crun, List.size_toArray, List.length_append, List.append_assoc]
  rw [h1]
theorem d4' (h : K T S) : DW Y fid ops bs ix es ns [] T S K := ⟨fun L _ => ⟨0, T, S, by simp [copsD], h⟩⟩

theorem e0' (hg : wantG ops g0 T = false := by rfl) (hk : DW Y fid ops bs (ix + 1) es ns l (put T dst (.tup [])) S K) : DW Y fid ops bs ix es ns (⟨dst, op, ty, pos, after, g0⟩ :: l) T S K := DW_skip hg hk
theorem e1' {x : Operand} (hg : wantG ops g0 T = true := by rfl) (h : ev T x = .bool true := by rfl) (hk : DW Y fid ops bs (ix + 1) es ns l (put T dst (.bool true)) S K) : DW Y fid ops bs ix es ns (⟨dst, .move x, ty, pos, after, g0⟩ :: l) T S K := DW_still hg (cop_move h (by simp)) rfl rfl hk
theorem e2' {x : Operand} (hg : wantG ops g0 T = true := by rfl) (h : ev T x = .bool false := by rfl) (hk : DW Y fid ops bs (ix + 1) es ns l (put T dst (.bool false)) S K) : DW Y fid ops bs ix es ns (⟨dst, .move x, ty, pos, after, g0⟩ :: l) T S K := DW_still hg (cop_move h (by simp)) rfl rfl hk
theorem e4' {x : Operand} {b : Bool} (hg : wantG ops g0 T = true := by rfl) (h : ev T x = .bool b := by rfl) (ht : b = true → DW Y fid ops bs (ix + 1) es ns l (put T dst (.bool true)) S K) (hf : b = false → DW Y fid ops bs (ix + 1) es ns l (put T dst (.bool false)) S K) : DW Y fid ops bs ix es ns (⟨dst, .move x, ty, pos, after, g0⟩ :: l) T S K := by
  cases b with
  | true => exact DW_still hg (cop_move h (by simp)) rfl rfl (ht rfl)
  | false => exact DW_still hg (cop_move h (by simp)) rfl rfl (hf rfl)
theorem e3' {x : Operand} {b : Bool} {p : Prop} {_i : Decidable p} (hg : wantG ops g0 T = true := by rfl) (h : ev T x = .bool b := by rfl) (hb : b = decide p := by with_reducible rfl) (ht : p → DW Y fid ops bs (ix + 1) es ns l (put T dst (.bool true)) S K) (hf : ¬ p → DW Y fid ops bs (ix + 1) es ns l (put T dst (.bool false)) S K) : DW Y fid ops bs ix es ns (⟨dst, .move x, ty, pos, after, g0⟩ :: l) T S K :=
  e4' hg h (fun h => ht (of_decide_eq_true (hb ▸ h))) fun h => hf (of_decide_eq_false (hb ▸ h))
theorem e5' (hg : wantG ops g0 T = true := by rfl) (h : fz (cop Y fid noCall (some (bs + ix)) ⟨dst, op, ty, pos, after, g0⟩ T S) = some (v, S) := by rfl) (hs : still op = true := by rfl) (hr : rdl op T = [] := by rfl) (hk : DW Y fid ops bs (ix + 1) es ns l (put T dst v) S K) : DW Y fid ops bs ix es ns (⟨dst, op, ty, pos, after, g0⟩ :: l) T S K := DW_still hg (fz_eq h) hs hr hk
theorem f5' {t : TypeId} {x : Operand} {ti : TI} {k n i o : Nat} {fr : Bool} {rows : List (List HV)} {row : List HV} {v : HV} (hg : wantG ops g0 T = true := by rfl) (h1 : Y.tab t = some ti := by rfl) (h2 : ev T x = .ptr k n i o := by rfl)
    (h3 : S[k]? = some (.cells fr rows) := by first | exact get_own rfl | assumption | exact get_old (by assumption) | exact get_set (by assumption) | exact get_setO rfl | exact get_setP rfl | exact get_set2 (by assumption) | exact get_setN (by first | assumption | omega) (by assumption)) (h4 : rows.length = n := by first | rfl | assumption)
    (h5 : rows[i]? = some row := by first | rfl | assumption) (h6 : part ti.agg ti.size row o = some v := by rfl) (hc : Ne' ops es ix k := by first | exact ne0 | ((repeat' (first | exact ne0 | refine ne1 (by first | assumption | omega | (simp only [List.length_append, List.length_cons, List.length_nil, List.length_set]; omega)) ?_ | refine ne3 (by first | assumption | omega | (simp only [List.length_append, List.length_cons, List.length_nil, List.length_set]; omega)) ?_ | refine ne2 (by decide +kernel) ?_)) <;> fail)) (hk : DW Y fid ops bs (ix + 1) es ((ix, k) :: ns) l (put T dst (fv v)) S K) : DW Y fid ops bs ix es ns (⟨dst, .load t x, ty, pos, after, g0⟩ :: l) T S K := by
  rw [fv_eq] at hk
  refine DW_read hg (v := v) (q := k) ?_ rfl (by simp [rdl, reads, h2]) hc hk
  simp only [cop, cload, h1, getRow, h2, h3, h4, if_true, h5, Option.map_some, h6]
theorem f6' {t : TypeId} {x : Operand} {ti : TI} {i o : Nat} {rows : List (List HV)} {row : List HV} {v : HV} (hg : wantG ops g0 T = true := by rfl) (h1 : Y.tab t = some ti := by rfl) (h2 : ev T x = .iptr rows i o := by rfl)
    (h5 : rows[i]? = some row := by first | rfl | exact map_get (by assumption) | assumption) (h6 : part ti.agg ti.size row o = some v := by rfl) (hk : DW Y fid ops bs (ix + 1) es ns l (put T dst (fv v)) S K) : DW Y fid ops bs ix es ns (⟨dst, .load t x, ty, pos, after, g0⟩ :: l) T S K := by
  rw [fv_eq] at hk
  refine DW_still hg (v := v) ?_ rfl (by simp [rdl, reads, h2]) hk
  simp only [cop, cload, h1, getRow, h2, h5, Option.map_some, h6]
theorem f8' {t : TypeId} {x i : Operand} {ti : TI} {e : Nat} {rows : List (List HV)} {k : IntKind} {n : Int} {j : Nat} {r : List HV} (hg : wantG ops g0 T = true := by rfl) (h1 : Y.tab t = some ti := by rfl) (h2 : ti.sh = .slice e := by rfl) (h3 : ev T x = .lst rows := by rfl) (h4 : ev T i = .int k n := by rfl)
    (h5 : n = (j : Int) := by rfl) (h6 : rows[j]? = some r := by first | rfl | exact map_get (by assumption) | assumption) (h7 : (some r.length) = tsize Y e := by rfl) (hk : DW Y fid ops bs (ix + 1) es ns l (put T dst (.iptr rows j 0)) S K) : DW Y fid ops bs ix es ns (⟨dst, .indexAddr t x i, ty, pos, after, g0⟩ :: l) T S K := by
  have hj : j < rows.length := (List.getElem?_eq_some_iff.1 h6).1
  refine DW_still hg (v := .iptr rows j 0) ?_ rfl (by simp [rdl, reads, h3]) hk
  simp only [cop, cindexAddr, h1, h2, h3, h4, h5, asNat, Int.toNat_natCast]
  rw [if_pos (by omega)]
  simp only [h6, Option.map_some, h7, hj, and_self, if_true]
theorem f9' {t : TypeId} {x i : Operand} {ti : TI} {e q m : Nat} {fr : Bool} {rows : List (List HV)} {k : IntKind} {n : Int} {j : Nat} {r : List HV} (hg : wantG ops g0 T = true := by rfl) (h1 : Y.tab t = some ti := by rfl) (h2 : ti.sh = .slice e := by rfl) (h3 : ev T x = .sl q m := by rfl) (h4 : ev T i = .int k n := by rfl)
    (h5 : n = (j : Int) := by rfl) (hS : S[q]? = some (.cells fr rows) := by first | exact get_own rfl | assumption | exact get_old (by assumption) | exact get_set (by assumption) | exact get_setO rfl | exact get_setP rfl | exact get_set2 (by assumption) | exact get_setN (by first | assumption | omega) (by assumption)) (hm : rows.length = m := by first | rfl | assumption) (h6 : rows[j]? = some r := by first | rfl | exact map_get (by assumption) | assumption) (h7 : (some r.length) = tsize Y e := by rfl) (hc : Ne' ops es ix q := by first | exact ne0 | ((repeat' (first | exact ne0 | refine ne1 (by first | assumption | omega | (simp only [List.length_append, List.length_cons, List.length_nil, List.length_set]; omega)) ?_ | refine ne3 (by first | assumption | omega | (simp only [List.length_append, List.length_cons, List.length_nil, List.length_set]; omega)) ?_ | refine ne2 (by decide +kernel) ?_)) <;> fail)) (hk : DW Y fid ops bs (ix + 1) es ((ix, q) :: ns) l (put T dst (.ptr q m j 0)) S K) : DW Y fid ops bs ix es ns (⟨dst, .indexAddr t x i, ty, pos, after, g0⟩ :: l) T S K := by
  have hj : j < rows.length := (List.getElem?_eq_some_iff.1 h6).1
  subst hm
  refine DW_read hg (v := .ptr q rows.length j 0) (q := q) ?_ rfl (by simp [rdl, reads, h3]) hc hk
  simp only [cop, cindexAddr, h1, h2, h3, h4, h5, asNat, Int.toNat_natCast, hS]
  rw [if_pos (by omega)]
  simp only [h6, Option.map_some, h7, hj, and_self, if_true]
theorem h1'' {t yt : TypeId} {x y : Operand} {k k' : IntKind} {a b : Int} (hg : wantG ops g0 T = true := by rfl) (h1 : ev T x = .int k a := by rfl) (h2 : ev T y = .int k' b := by rfl) (h3 : 0 ≤ b := by first | decide | assumption | omega) (hw : DW Y fid ops bs (ix + 1) es ns l (put T dst (.int k (k.wrap (a * 2 ^ (min b.toNat k.bits))))) S K) :
    DW Y fid ops bs ix es ns (⟨dst, .binOp .shl t x y yt, ty, pos, after, g0⟩ :: l) T S K := by
  refine DW_still hg (v := .int k (k.wrap (a * 2 ^ (min b.toNat k.bits)))) ?_ rfl rfl hw
  simp only [cop, h1, h2, hbin]
  rw [if_neg (by omega)]; rfl
theorem h2'' {t yt : TypeId} {x y : Operand} {k k' : IntKind} {a b : Int} (hg : wantG ops g0 T = true := by rfl) (h1 : ev T x = .int k a := by rfl) (h2 : ev T y = .int k' b := by rfl) (h3 : 0 ≤ b := by first | decide | assumption | omega) (hw : DW Y fid ops bs (ix + 1) es ns l (put T dst (.int k (a.fdiv (2 ^ (min b.toNat k.bits))))) S K) :
    DW Y fid ops bs ix es ns (⟨dst, .binOp .shr t x y yt, ty, pos, after, g0⟩ :: l) T S K := by
  refine DW_still hg (v := .int k (a.fdiv (2 ^ (min b.toNat k.bits)))) ?_ rfl rfl hw
  simp only [cop, h1, h2, hbin]
  rw [if_neg (by omega)]; rfl
theorem h3'' {t yt : TypeId} {x y : Operand} {k k' : IntKind} {a b : Int} (hg : wantG ops g0 T = true := by rfl) (h1 : ev T x = .int k a := by rfl) (h2 : ev T y = .int k' b := by rfl) (hk : k = k' := by rfl) (h3 : b ≠ 0 := by first | decide | assumption | omega) (hw : DW Y fid ops bs (ix + 1) es ns l (put T dst (.int k (k.wrap (a.tdiv b)))) S K) :
    DW Y fid ops bs ix es ns (⟨dst, .binOp .quo t x y yt, ty, pos, after, g0⟩ :: l) T S K := by
  refine DW_still hg (v := .int k (k.wrap (a.tdiv b))) ?_ rfl rfl hw
  simp only [cop, h1, h2, hbin]
  subst hk; simp [h3]
theorem h4'' {t yt : TypeId} {x y : Operand} {k k' : IntKind} {a b : Int} (hg : wantG ops g0 T = true := by rfl) (h1 : ev T x = .int k a := by rfl) (h2 : ev T y = .int k' b := by rfl) (hk : k = k' := by rfl) (h3 : b ≠ 0 := by first | decide | assumption | omega) (hw : DW Y fid ops bs (ix + 1) es ns l (put T dst (.int k (a.tmod b))) S K) :
    DW Y fid ops bs ix es ns (⟨dst, .binOp .rem t x y yt, ty, pos, after, g0⟩ :: l) T S K := by
  refine DW_still hg (v := .int k (a.tmod b)) ?_ rfl rfl hw
  simp only [cop, h1, h2, hbin]
  subst hk; simp [h3]
/-! what is made -/
theorem b0' {t : TypeId} {S0 L L' : St} {ti : TI} {b j : Nat} (hg : wantG ops g0 T = true := by rfl) (h1 : Y.tab t = some ti := by rfl) (hb : bs = S0.length + b := by first | rfl | exact hbs) (hj : b + ix = j := by first | (simp only [Nat.reduceAdd]; rfl) | rfl) (hL : L.set j (.cells false [ti.zero]) = L' := by rfl) (hk : DW Y fid ops bs (ix + 1) es ns l (put T dst (.ptr (S0.length + j) 1 0 0)) (S0 ++ L') K) :
    DW Y fid ops bs ix es ns (⟨dst, .alloc t, ty, pos, after, g0⟩ :: l) T (S0 ++ L) K := by
  subst hb; subst hj; subst hL
  have e : S0.length + b + ix = S0.length + (b + ix) := by omega
  refine DW_new hg (o := .cells false [ti.zero]) (v := .ptr (S0.length + (b + ix)) 1 0 0) ?_ rfl rfl trivial (by rw [e, set_own]; exact hk)
  simp only [cop, h1, newOb, e]
theorem b1' {t : TypeId} {x : Operand} {S0 L L' : St} {c : HV} {b j : Nat} (hg : wantG ops g0 T = true := by rfl) (hx : ev T x = c := by rfl) (hb : bs = S0.length + b := by first | rfl | exact hbs) (hj : b + ix = j := by first | (simp only [Nat.reduceAdd]; rfl) | rfl) (hL : L.set j (.cells false [c.cells]) = L' := by rfl) (hk : DW Y fid ops bs (ix + 1) es ns l (put T dst (.ptr (S0.length + j) 1 0 0)) (S0 ++ L') K) :
    DW Y fid ops bs ix es ns (⟨dst, .box t x, ty, pos, after, g0⟩ :: l) T (S0 ++ L) K := by
  subst hb; subst hj; subst hL
  have e : S0.length + b + ix = S0.length + (b + ix) := by omega
  refine DW_new hg (o := .cells false [c.cells]) (v := .ptr (S0.length + (b + ix)) 1 0 0) ?_ rfl rfl trivial (by rw [e, set_own]; exact hk)
  simp only [cop, hx, newOb, e]
theorem b4' {t len : Nat} {parts : Array (Nat × Operand)} {v : HV} (hg : wantG ops g0 T = true := by rfl) (h : fz (cop Y fid noCall (some (bs + ix)) ⟨dst, .buildSlice t len parts, ty, pos, after, g0⟩ T S) = some (v, S) := by rfl) (hq : qparts parts T = true := by rfl) (hk : DW Y fid ops bs (ix + 1) es ns l (put T dst v) S K) :
    DW Y fid ops bs ix es ns (⟨dst, .buildSlice t len parts, ty, pos, after, g0⟩ :: l) T S K := by
  refine DW_put hg ⟨0, cop_mono (noCall_le _) (fz_eq h)⟩ (fun _ => ⟨rfl, fun _ _ => rfl, qparts_spec hq⟩) (fun x hx hxr hxe => ?_) (.inl rfl) (fun h => by cases h) (.inl rfl) (fun _ => .inl rfl) hk
  exact .inr ⟨fun A B hAB k hk => (by cases hk), fun A B hAB => by cases hAB⟩
theorem b7b {t : TypeId} {parts : Array (Nat × Operand)} {v : HV} (hg : wantG ops g0 T = true := by rfl) (h : fz (cop Y fid noCall (some (bs + ix)) ⟨dst, .build t parts, ty, pos, after, g0⟩ T S) = some (v, S) := by rfl) (hk : DW Y fid ops bs (ix + 1) es ns l (put T dst v) S K) :
    DW Y fid ops bs ix es ns (⟨dst, .build t parts, ty, pos, after, g0⟩ :: l) T S K := by
  refine DW_put hg ⟨0, cop_mono (noCall_le _) (fz_eq h)⟩ (fun _ => ⟨rfl, fun _ _ => rfl, trivial⟩) (fun x hx hxr hxe => ?_) (.inl rfl) (fun h => by cases h) (.inl rfl) (fun _ => .inl rfl) hk
  exact .inr ⟨fun A B hAB k hk => (by cases hk), fun A B hAB => by cases hAB⟩
/-! what changes something -/
theorem b7' {t : TypeId} {x y : Operand} {z : Nat} {k n i o : Nat} {rows : List (List HV)} {row : List HV} {v : HV} (hg : wantG ops g0 T = true := by rfl) (h1 : tsize Y t = some z := by rfl) (h2 : ev T x = .ptr k n i o := by rfl)
    (h3 : S[k]? = some (.cells false rows) := by first | exact get_own rfl | assumption | exact get_old (by assumption) | exact get_set (by assumption) | exact get_setO rfl | exact get_setP rfl | exact get_set2 (by assumption) | exact get_setN (by first | assumption | omega) (by assumption)) (h4 : rows.length = n := by first | rfl | assumption)
    (h5 : rows[i]? = some row := by first | rfl | assumption) (h6 : ev T y = v := by rfl) (h7 : v.cells.length = z := by rfl) (h8 : o + z ≤ row.length := by exact Nat.le_of_ble_eq_true rfl) (h9 : v.cells.all isCell = true := by rfl)
    (h10 : S.set k (.cells false (rows.set i (setCells row o v.cells))) = S' := by first | exact set_own | exact set_set (by assumption) | exact set_setO | exact set_setP | exact set_old (by assumption) | exact set_setN (by assumption)) (hc : Nc ops ns ix (fun j => j = k) := by first | exact nc0 | ((repeat' (first | exact nc0 | refine nc1 (by first | assumption | omega | (simp only [List.length_append, List.length_cons, List.length_nil, List.length_set]; omega)) ?_ | refine nc3 (by first | assumption | omega | (simp only [List.length_append, List.length_cons, List.length_nil, List.length_set]; omega)) ?_ | refine nc2 (by decide +kernel) ?_)) <;> fail)) (hk : DW Y fid ops bs (ix + 1) ((ix, fun j => j = k) :: es) ns l (put T dst (.tup [])) S' K) :
    DW Y fid ops bs ix es ns (⟨dst, .store t x y, ty, pos, after, g0⟩ :: l) T S K := by
  refine DW_eff hg (v := .tup []) (q := k) ⟨0, ?_⟩ rfl hc h10 hk
  simp only [cop, cstore, h1, h2, h3, h4, h5, h6]
  rw [if_pos ⟨trivial, h7, h8, h9⟩]; rfl
theorem p0' {f : Builtin} {x y : Operand} {t t2 : TypeId} {ti ti2 : TI} {e e2 z k n m : Nat} {fr : Bool} {rows rs rs' : List (List HV)} (hg : wantG ops g0 T = true := by rfl) (hf : f = .append := by rfl) (h1 : Y.tab t = some ti := by rfl) (h2 : ti.sh = .slice e := by rfl) (h3 : Y.tab t2 = some ti2 := by rfl) (h4 : ti2.sh = .slice e2 := by rfl) (h5 : tsize Y e = some z := by rfl)
    (hx : ev T x = .sl k n := by rfl) (hr : rowsOf S (ev T y) = some rs := by rfl) (hS : S[k]? = some (.cells fr rows) := by first | exact get_own rfl | assumption | exact get_old (by assumption) | exact get_set (by assumption) | exact get_setO rfl | exact get_setP rfl | exact get_set2 (by assumption) | exact get_setN (by first | assumption | omega) (by assumption))
    (hn : rows.length = n := by first | rfl | assumption | exact List.length_append | (simp; done) | (simp; omega)) (hz : rs.all (fun r => r.length == z && r.all isCell) = true := by first | rfl | assumption) (hz' : rows.all (fun r => r.length == z) = true := by first | rfl | assumption) (hm : n + rs.length = m := by rfl) (hl : m ≤ lim := by first | decide | assumption | (refine Nat.le_trans ?_ (show 4294967296 ≤ lim from Nat.le_refl _); first | omega | (simp only [List.length_cons, List.length_nil, List.length_append, List.length_map]; omega))) (hrs : rows ++ rs = rs' := by rfl)
    (h10 : S.set k (.cells fr rs') = S' := by first | exact set_own | exact set_set (by assumption) | exact set_setO | exact set_setP | exact set_old (by assumption) | exact set_setN (by assumption)) (hc : Nc ops ns ix (fun j => j = k) := by first | exact nc0 | ((repeat' (first | exact nc0 | refine nc1 (by first | assumption | omega | (simp only [List.length_append, List.length_cons, List.length_nil, List.length_set]; omega)) ?_ | refine nc3 (by first | assumption | omega | (simp only [List.length_append, List.length_cons, List.length_nil, List.length_set]; omega)) ?_ | refine nc2 (by decide +kernel) ?_)) <;> fail)) (hk : DW Y fid ops bs (ix + 1) ((ix, fun j => j = k) :: es) ns l (put T dst (.sl k m)) S' K) :
    DW Y fid ops bs ix es ns (⟨dst, .call ⟨.builtin f, #[x, y], #[t, t2]⟩, ty, pos, after, g0⟩ :: l) T S K := by
  subst hf
  refine DW_eff hg (v := .sl k m) (q := k) ⟨0, ?_⟩ rfl hc h10 hk
  simp only [cop]
  simp only [List.map_cons, List.map_nil, h1, h2, h3, h4, h5, cappend, hx, hr, hz, if_true, hS]
  rw [if_pos ⟨hn, by omega, hz'⟩, hm, hrs]
theorem k0' {f : Operand} {args : Array Operand} {ats : Array TypeId} {g : Nat} {caps args' : List HV} (hg : wantG ops g0 T = true := by rfl)
    (hf : ev T f = .fn g caps := by rfl) (hb : Y.byref g = false := by first | rfl | assumption) (ha' : mapMS (frzV 0) (args.toList.map (ev T)) S = some (args', S) := by first | rfl | ((repeat' first | exact fm0 | refine fm1 ?_ ?_ | rfl | exact fzV_sl rfl (Nat.zero_le _) (by first | exact get_own rfl | assumption | exact get_old (by assumption) | exact get_set (by assumption) | exact get_setO rfl | exact get_setP rfl | exact get_set2 (by assumption) | exact get_setN (by first | assumption | omega) (by assumption)) (by first | rfl | assumption) (by first | rfl | assumption) | exact fz_sl rfl (Nat.zero_le _) (by first | exact get_own rfl | assumption | exact get_old (by assumption) | exact get_set (by assumption) | exact get_setO rfl | exact get_setP rfl | exact get_set2 (by assumption) | exact get_setN (by first | assumption | omega) (by assumption)) (by first | rfl | assumption) (by first | rfl | assumption) | refine fzV_agg rfl ?_) <;> fail)) (he : Ev Y g (args' ++ caps) S v S) (hk : DW Y fid ops bs (ix + 1) es ns l (put T dst (fv v)) S K) :
    DW Y fid ops bs ix es ns (⟨dst, .call ⟨.value f, args, ats⟩, ty, pos, after, g0⟩ :: l) T S K := by
  rw [fv_eq] at hk
  obtain ⟨m, hm⟩ := he
  exact DW_pure hg ⟨m, by simp only [cop, hf, hb, Bool.false_eq_true, if_false, ha', hm]⟩ rfl hk
theorem k2' {f : Operand} {args : Array Operand} {ats : Array TypeId} {g : Nat} {caps args' : List HV} {k : Nat} {o : Ob} (hg : wantG ops g0 T = true := by rfl)
    (hf : ev T f = .fn g caps := by rfl) (hb : Y.byref g = false := by rfl) (ha' : mapMS (frzV 0) (args.toList.map (ev T)) S = some (args', S) := by first | rfl | ((repeat' first | exact fm0 | refine fm1 ?_ ?_ | rfl | exact fzV_sl rfl (Nat.zero_le _) (by first | exact get_own rfl | assumption | exact get_old (by assumption) | exact get_set (by assumption) | exact get_setO rfl | exact get_setP rfl | exact get_set2 (by assumption) | exact get_setN (by first | assumption | omega) (by assumption)) (by first | rfl | assumption) (by first | rfl | assumption) | exact fz_sl rfl (Nat.zero_le _) (by first | exact get_own rfl | assumption | exact get_old (by assumption) | exact get_set (by assumption) | exact get_setO rfl | exact get_setP rfl | exact get_set2 (by assumption) | exact get_setN (by first | assumption | omega) (by assumption)) (by first | rfl | assumption) (by first | rfl | assumption) | refine fzV_agg rfl ?_) <;> fail)) (he : Ev Y g (args' ++ caps) S v (S.set k o)) (hS : S.set k o = S' := by first | exact set_set (by assumption) | exact set_old (by assumption) | exact set_own | exact set_setO | exact set_setP | rfl) (hc : Nc ops ns ix (fun j => j = k) := by first | exact nc0 | ((repeat' (first | exact nc0 | refine nc1 (by first | assumption | omega | (simp only [List.length_append, List.length_cons, List.length_nil, List.length_set]; omega)) ?_ | refine nc3 (by first | assumption | omega | (simp only [List.length_append, List.length_cons, List.length_nil, List.length_set]; omega)) ?_ | refine nc2 (by decide +kernel) ?_)) <;> fail)) (hk : DW Y fid ops bs (ix + 1) ((ix, fun j => j = k) :: es) ns l (put T dst (fv v)) S' K) :
    DW Y fid ops bs ix es ns (⟨dst, .call ⟨.value f, args, ats⟩, ty, pos, after, g0⟩ :: l) T S K := by
  rw [fv_eq] at hk
  obtain ⟨m, hm⟩ := he
  exact DW_eff hg ⟨m, by simp only [cop, hf, hb, Bool.false_eq_true, if_false, ha', hm]⟩ rfl hc hS hk
theorem k1' {f : Operand} {args : Array Operand} {ats : Array TypeId} {g : Nat} {caps args' : List HV} {k : Nat} {o : Ob} (hg : wantG ops g0 T = true := by rfl)
    (hf : ev T f = .fn g caps := by rfl) (hb : Y.byref g = true := by rfl) (ha' : args.toList.map (ev T) ++ caps = args' := by rfl) (he : Ev Y g args' S v (S.set k o)) (hS : S.set k o = S' := by first | exact set_set (by assumption) | exact set_old (by assumption) | exact set_own | exact set_setO | exact set_setP | rfl) (hc : Nc ops ns ix (fun j => j = k) := by first | exact nc0 | ((repeat' (first | exact nc0 | refine nc1 (by first | assumption | omega | (simp only [List.length_append, List.length_cons, List.length_nil, List.length_set]; omega)) ?_ | refine nc3 (by first | assumption | omega | (simp only [List.length_append, List.length_cons, List.length_nil, List.length_set]; omega)) ?_ | refine nc2 (by decide +kernel) ?_)) <;> fail)) (hk : DW Y fid ops bs (ix + 1) ((ix, fun j => j = k) :: es) ns l (put T dst (fv v)) S' K) :
    DW Y fid ops bs ix es ns (⟨dst, .call ⟨.value f, args, ats⟩, ty, pos, after, g0⟩ :: l) T S K := by
  rw [fv_eq] at hk
  obtain ⟨m, hm⟩ := he
  subst ha'
  exact DW_eff hg ⟨m, by simp only [cop, hf, hb, if_true, hm]⟩ rfl hc hS hk
/-- A call by reference that changes nothing. -/
theorem k3' {f : Operand} {args : Array Operand} {ats : Array TypeId} {g : Nat} {caps args' : List HV} (hg : wantG ops g0 T = true := by rfl)
    (hf : ev T f = .fn g caps := by rfl) (hb : Y.byref g = true := by rfl) (ha' : args.toList.map (ev T) ++ caps = args' := by rfl) (he : Ev Y g args' S v S) (hk : DW Y fid ops bs (ix + 1) es ns l (put T dst (fv v)) S K) :
    DW Y fid ops bs ix es ns (⟨dst, .call ⟨.value f, args, ats⟩, ty, pos, after, g0⟩ :: l) T S K := by
  rw [fv_eq] at hk
  obtain ⟨m, hm⟩ := he
  subst ha'
  exact DW_pure hg ⟨m, by simp only [cop, hf, hb, if_true, hm]⟩ rfl hk
/-- A call that keeps what it made, behind all that was there. -/
theorem kX' {f : Operand} {args : Array Operand} {ats : Array TypeId} {g : Nat} {args' : List HV} {R : HV → St → Prop} (hg : wantG ops g0 T = true := by rfl) (hf : ev T f = .fn g [] := by rfl) (hb : Y.byref g = false := by rfl)
    (ha : mapMS (frzV 0) (args.toList.map (ev T)) S = some (args', S) := by rfl) (he : EvR Y g args' S R) (hx : ∀ v S', R v S' → ∃ J, S' = S ++ J) (hc : Nc ops ns ix (fun j => S.length ≤ j) := by first | exact nc0 | ((repeat' (first | exact nc0 | refine nc1 (by first | assumption | omega | (simp only [List.length_append, List.length_cons, List.length_nil, List.length_set]; omega)) ?_ | refine nc3 (by first | assumption | omega | (simp only [List.length_append, List.length_cons, List.length_nil, List.length_set]; omega)) ?_ | refine nc2 (by decide +kernel) ?_)) <;> fail)) (hk : ∀ v J, R v (S ++ J) → DW Y fid ops bs (ix + 1) ((ix, fun j => S.length ≤ j) :: es) ns l (put T dst v) (S ++ J) K) :
    DW Y fid ops bs ix es ns (⟨dst, .call ⟨.value f, args, ats⟩, ty, pos, after, g0⟩ :: l) T S K := by
  obtain ⟨v, S', ⟨m, hm⟩, h2⟩ := he
  obtain ⟨J, rfl⟩ := hx v S' h2
  rw [← List.append_nil args'] at hm
  exact DW_ext hg ⟨m, by simp only [cop, hf, hb, Bool.false_eq_true, if_false, ha, hm]⟩ rfl hc (hk v J h2)
/-- What is put behind nil. -/
theorem p1' {f : Builtin} {x y : Operand} {t t2 : TypeId} {ti ti2 : TI} {e e2 z b j m : Nat} {S0 L L' : St} {rs : List (List HV)} (hg : wantG ops g0 T = true := by rfl) (hf : f = .append := by rfl) (h1 : Y.tab t = some ti := by rfl) (h2 : ti.sh = .slice e := by rfl) (h3 : Y.tab t2 = some ti2 := by rfl) (h4 : ti2.sh = .slice e2 := by rfl) (h5 : tsize Y e = some z := by rfl)
    (hx : ev T x = .nils := by rfl) (hr : rowsOf (S0 ++ L) (ev T y) = some rs := by rfl) (hz : rs.all (fun r => r.length == z && r.all isCell) = true := by first | rfl | assumption) (he : rs.isEmpty = false := by first | rfl | assumption) (hm : rs.length = m := by rfl) (hl : m ≤ lim := by first | decide | assumption | (refine Nat.le_trans ?_ (show 4294967296 ≤ lim from Nat.le_refl _); first | omega | (simp only [List.length_cons, List.length_nil, List.length_append, List.length_map]; omega)))
    (hb : bs = S0.length + b := by first | rfl | exact hbs) (hj : b + ix = j := by first | (simp only [Nat.reduceAdd]; rfl) | rfl) (hL : L.set j (.cells (!Y.muta fid 1000) rs) = L' := by rfl) (hc : Nc ops ns ix (fun q => q = S0.length + j) := by first | exact nc0 | ((repeat' (first | exact nc0 | refine nc1 (by first | assumption | omega | (simp only [List.length_append, List.length_cons, List.length_nil, List.length_set]; omega)) ?_ | refine nc3 (by first | assumption | omega | (simp only [List.length_append, List.length_cons, List.length_nil, List.length_set]; omega)) ?_ | refine nc2 (by decide +kernel) ?_)) <;> fail)) (hk : DW Y fid ops bs (ix + 1) ((ix, fun q => q = S0.length + j) :: es) ns l (put T dst (.sl (S0.length + j) m)) (S0 ++ L') K) :
    DW Y fid ops bs ix es ns (⟨dst, .call ⟨.builtin f, #[x, y], #[t, t2]⟩, ty, pos, after, g0⟩ :: l) T (S0 ++ L) K := by
  subst hf; subst hb; subst hj; subst hL
  have e : S0.length + b + ix = S0.length + (b + ix) := by omega
  refine DW_eff hg (v := .sl (S0.length + (b + ix)) m) (q := S0.length + (b + ix)) (o := .cells (!Y.muta fid 1000) rs) ⟨0, ?_⟩ rfl hc set_own hk
  simp only [cop]
  simp only [List.map_cons, List.map_nil, h1, h2, h3, h4, h5, cappend, hx, hr, hz, he, if_true, Bool.false_eq_true, if_false]
  rw [if_pos (by omega), hm]
  simp only [newOb, e]
end
end Go.Proofs.XVai
end
section
namespace Go.Proofs.XVai
open Go
set_option linter.unusedVariables false
section
variable {Y : Sys} {fid : Nat} {T : Tm} {S : St} {Q : Ex → Tm → St → Prop} {K : Tm → St → Prop} {ops : Array Oper} {l : List Oper} {dst : Option Tmp} {ty : TypeId} {pos : String} {after : Array Edge} {g0 : Option (Nat × Bool)} {bs ix : Nat} {es : List (Nat × (Nat → Prop))} {ns : List (Nat × Nat)} {x : Operand} {b : Bool} {p : Prop} {_i : Decidable p} {u v : Code}
theorem u1 (hg : wantG ops g0 T = true := by rfl) (h : ev T x = .bool b := by rfl) (hb : b = true := by assumption) (hk : OW Y fid ops none l (put T dst (.bool true)) S K) : OW Y fid ops none (⟨dst, .move x, ty, pos, after, g0⟩ :: l) T S K := a1 hg (by rw [h, hb]) hk
theorem u2 (hg : wantG ops g0 T = true := by rfl) (h : ev T x = .bool b := by rfl) (hb : b = false := by assumption) (hk : OW Y fid ops none l (put T dst (.bool false)) S K) : OW Y fid ops none (⟨dst, .move x, ty, pos, after, g0⟩ :: l) T S K := a2 hg (by rw [h, hb]) hk
theorem u3 (hg : wantG ops g0 T = true := by rfl) (h : ev T x = .bool b := by rfl) (hb : b = decide p := by with_reducible rfl) (hp : p := by assumption) (hk : OW Y fid ops none l (put T dst (.bool true)) S K) : OW Y fid ops none (⟨dst, .move x, ty, pos, after, g0⟩ :: l) T S K := a1 hg (by rw [h, hb, decide_eq_true hp]) hk
theorem u4 (hg : wantG ops g0 T = true := by rfl) (h : ev T x = .bool b := by rfl) (hb : b = decide p := by with_reducible rfl) (hp : ¬ p := by assumption) (hk : OW Y fid ops none l (put T dst (.bool false)) S K) : OW Y fid ops none (⟨dst, .move x, ty, pos, after, g0⟩ :: l) T S K := a2 hg (by rw [h, hb, decide_eq_false hp]) hk
theorem u1' (hg : wantG ops g0 T = true := by rfl) (h : ev T x = .bool b := by rfl) (hb : b = true := by assumption) (hk : DW Y fid ops bs (ix + 1) es ns l (put T dst (.bool true)) S K) : DW Y fid ops bs ix es ns (⟨dst, .move x, ty, pos, after, g0⟩ :: l) T S K := e1' hg (by rw [h, hb]) hk
theorem u2' (hg : wantG ops g0 T = true := by rfl) (h : ev T x = .bool b := by rfl) (hb : b = false := by assumption) (hk : DW Y fid ops bs (ix + 1) es ns l (put T dst (.bool false)) S K) : DW Y fid ops bs ix es ns (⟨dst, .move x, ty, pos, after, g0⟩ :: l) T S K := e2' hg (by rw [h, hb]) hk
theorem u3' (hg : wantG ops g0 T = true := by rfl) (h : ev T x = .bool b := by rfl) (hb : b = decide p := by with_reducible rfl) (hp : p := by assumption) (hk : DW Y fid ops bs (ix + 1) es ns l (put T dst (.bool true)) S K) : DW Y fid ops bs ix es ns (⟨dst, .move x, ty, pos, after, g0⟩ :: l) T S K := e1' hg (by rw [h, hb, decide_eq_true hp]) hk
theorem u4' (hg : wantG ops g0 T = true := by rfl) (h : ev T x = .bool b := by rfl) (hb : b = decide p := by with_reducible rfl) (hp : ¬ p := by assumption) (hk : DW Y fid ops bs (ix + 1) es ns l (put T dst (.bool false)) S K) : DW Y fid ops bs ix es ns (⟨dst, .move x, ty, pos, after, g0⟩ :: l) T S K := e2' hg (by rw [h, hb, decide_eq_false hp]) hk
theorem u5 (h : ev T x = .bool b := by rfl) (hb : b = true := by assumption) (hk : CW Y fid u T S Q) : CW Y fid (.cond x u v) T S Q := d6 (by rw [h, hb]) hk
theorem u6 (h : ev T x = .bool b := by rfl) (hb : b = false := by assumption) (hk : CW Y fid v T S Q) : CW Y fid (.cond x u v) T S Q := d7 (by rw [h, hb]) hk
theorem u7 (h : ev T x = .bool b := by rfl) (hb : b = decide p := by with_reducible rfl) (hp : p := by assumption) (hk : CW Y fid u T S Q) : CW Y fid (.cond x u v) T S Q := d6 (by rw [h, hb, decide_eq_true hp]) hk
theorem u8 (h : ev T x = .bool b := by rfl) (hb : b = decide p := by with_reducible rfl) (hp : ¬ p := by assumption) (hk : CW Y fid v T S Q) : CW Y fid (.cond x u v) T S Q := d7 (by rw [h, hb, decide_eq_false hp]) hk
end
end Go.Proofs.XVai
end
section
namespace Go.Proofs.XN
open Go Go.Proofs.XVai Go.Proofs
set_option linter.unusedVariables false
theorem treeN {α : Type} {b : Bool} {x y : Option α} {v : α} {P : Prop} (h : cond b x y = some v) (hx : x = some v → P) (hy : y = some v → P) : P := by
  cases b
  · exact hy h
  · exact hx h
theorem treeL {α : Type} {n k : Nat} {x v : α} {P : Nat → α → Prop} (h : cond (Nat.beq n k) (some x) none = some v) (hp : P k x) : P n v := by
  cases hb : Nat.beq n k with
  | false => rw [hb] at h; cases h
  | true =>
    rw [hb] at h
    cases h
    rw [Nat.eq_of_beq_eq_true hb]; exact hp
abbrev laws_FnSwayTrusts : Nat := 3
abbrev laws_FnLeakTold : Nat := 4
abbrev laws_FnSwayAll : Nat := 5
abbrev laws_FnLeakOf : Nat := 6
abbrev laws_FnSwayOf : Nat := 7
abbrev laws_FnPartCount : Nat := 8
abbrev laws_FnPartView : Nat := 9
abbrev laws_FnLeakNone : Nat := 10
abbrev laws_FnSwayNone : Nat := 11
abbrev laws_FnTurnLeak : Nat := 12
abbrev spec_DrawSwayOf : Nat := 13
abbrev spec_SwayOf : Nat := 14
abbrev impl_SwayOf : Nat := 15
abbrev laws_lcInts : Nat := 16
abbrev impl_TypeTrusts : Nat := 17
abbrev spec_DrawLeakOf : Nat := 18
abbrev spec_LeakOf : Nat := 19
abbrev impl_LeakOf : Nat := 20
abbrev laws_lcTells : Nat := 21
abbrev spec_ProgOk : Nat := 22
abbrev impl_RunOf : Nat := 23
abbrev laws_lcWrites : Nat := 24
abbrev impl_RunSets : Nat := 25
abbrev laws_lcSameOf : Nat := 26
abbrev impl_TypeKnows : Nat := 27
abbrev impl_RunTo : Nat := 28
abbrev laws_lcBits : Nat := 29
abbrev spec_DrawPartCount : Nat := 30
abbrev impl_PartView : Nat := 31
abbrev impl_PartCount : Nat := 32
abbrev spec_PartCount : Nat := 33
abbrev spec_DrawPartView : Nat := 34
abbrev laws_lcWords : Nat := 35
abbrev spec_PartView : Nat := 36
abbrev impl_TypeOk : Nat := 37
abbrev impl_TurnProg : Nat := 38
abbrev spec_l6Open : Nat := 39
abbrev spec_l71Prog : Nat := 40
abbrev spec_l6Rd_pick : Nat := 41
abbrev spec_l71Any : Nat := 42
abbrev spec_l6In : Nat := 43
abbrev spec_l12Find : Nat := 44
abbrev spec_TypeTrusts : Nat := 45
abbrev impl_ProgOk : Nat := 46
abbrev impl_isHost : Nat := 47
abbrev impl_pair : Nat := 48
abbrev impl_SwayOf_1 : Nat := 49
abbrev slices_Equal_impl_Write : Nat := 50
abbrev impl_Prog_each : Nat := 51
abbrev impl_TypeTrusts_1 : Nat := 52
abbrev spec_TypeKnows : Nat := 53
abbrev impl_LeakOf_1 : Nat := 54
abbrev slices_Equal_int : Nat := 55
abbrev spec_LabelOk : Nat := 56
abbrev spec_l2Steps : Nat := 57
abbrev spec_l2Count : Nat := 58
abbrev impl_NumsOk : Nat := 59
abbrev impl_cloneInts : Nat := 60
abbrev impl_Run_do : Nat := 61
abbrev impl_Run_clone : Nat := 62
abbrev impl_in : Nat := 63
abbrev impl_TypeKnows_1 : Nat := 64
abbrev spec_l71Part : Nat := 65
abbrev impl_Prog_why : Nat := 66
abbrev impl_isRow : Nat := 67
abbrev impl_Prog_clone : Nat := 68
abbrev impl_turned : Nat := 69
abbrev impl_change : Nat := 70
abbrev impl_TurnProg_1 : Nat := 71
abbrev spec_l71Label : Nat := 72
abbrev spec_l71Steps : Nat := 73
abbrev spec_l71Fine : Nat := 74
abbrev spec_l71Bent : Nat := 75
abbrev spec_l12Row : Nat := 76
abbrev spec_l12Same : Nat := 77
abbrev spec_RunOf : Nat := 78
abbrev spec_l12Ints : Nat := 79
abbrev spec_RunTo : Nat := 80
abbrev spec_l12Writes : Nat := 81
abbrev spec_RunSets : Nat := 82
abbrev spec_l1Has : Nat := 83
abbrev slices_ContainsFunc_impl_Label : Nat := 84
abbrev impl_ProgOk_1 : Nat := 85
abbrev impl_LabelOk : Nat := 86
abbrev impl_Prog_stepsOk : Nat := 87
abbrev impl_size : Nat := 88
abbrev impl_row : Nat := 89
abbrev impl_has : Nat := 90
abbrev spec_l1Set : Nat := 91
abbrev spec_l2Step : Nat := 92
abbrev impl_isNum : Nat := 93
abbrev impl_Val_vars : Nat := 94
abbrev impl_Run_set : Nat := 95
abbrev impl_Val_of : Nat := 96
abbrev spec_l71Plan : Nat := 97
abbrev spec_PartRun : Nat := 98
abbrev spec_l71Nums : Nat := 99
abbrev impl_Prog_at : Nat := 100
abbrev impl_all : Nat := 101
abbrev impl_Prog_source : Nat := 102
abbrev impl_Label_flows : Nat := 103
abbrev slices_Contains_int : Nat := 104
abbrev impl_cloneSteps : Nat := 105
abbrev spec_l71Val : Nat := 106
abbrev spec_TypeWhy : Nat := 107
abbrev spec_l71Without : Nat := 108
abbrev spec_l2Copy : Nat := 109
abbrev spec_NumsOk : Nat := 110
abbrev spec_l3Do : Nat := 111
abbrev slices_IndexFunc_impl_Label : Nat := 112
abbrev impl_isSet : Nat := 113
abbrev impl_Prog_isVar : Nat := 114
abbrev impl_Prog_valOk : Nat := 115
abbrev spec_l1All : Nat := 116
abbrev spec_l2Var : Nat := 117
abbrev spec_l2Val : Nat := 118
abbrev spec_l71Trusts : Nat := 119
abbrev spec_PlanFind : Nat := 120
abbrev spec_ProgSize : Nat := 121
abbrev spec_PlanStep : Nat := 122
abbrev spec_PlanOk : Nat := 123
abbrev spec_l22New : Nat := 124
abbrev spec_l22Sim_start : Nat := 125
abbrev spec_l22Sim_rest : Nat := 126
abbrev spec_l22Sim_part : Nat := 127
abbrev impl_Prog_labels : Nat := 128
abbrev impl_everybody : Nat := 129
abbrev impl_Label_both : Nat := 130
abbrev impl_within : Nat := 131
abbrev slices_Index_int : Nat := 132
abbrev spec_l2All : Nat := 133
abbrev spec_TypeAt : Nat := 134
abbrev spec_l11Fine : Nat := 135
abbrev spec_l3Num : Nat := 136
abbrev spec_l1Either : Nat := 137
abbrev spec_TypeOk : Nat := 138
abbrev spec_l21Trusts : Nat := 139
abbrev spec_l21See : Nat := 140
abbrev spec_l21Look_find : Nat := 141
abbrev spec_l21Homes : Nat := 142
abbrev spec_l21Look_step : Nat := 143
abbrev spec_l21Look_home : Nat := 144
abbrev spec_l22Next : Nat := 145
abbrev spec_l22Sim_pass : Nat := 146
abbrev spec_l22Sim_take : Nat := 147
abbrev spec_l11At : Nat := 148
abbrev spec_l11Any : Nat := 149
abbrev spec_LabelFlows : Nat := 150
abbrev spec_LabelBoth : Nat := 151
abbrev spec_l11Val : Nat := 152
abbrev spec_l1Both : Nat := 153
abbrev spec_TypeSets : Nat := 154
abbrev spec_l21By : Nat := 155
abbrev spec_l21Look_does : Nat := 156
abbrev spec_l1Within : Nat := 157
abbrev spec_l21Vars : Nat := 158
abbrev spec_l22Sim_by : Nat := 159
abbrev spec_l22Sim_key : Nat := 160
abbrev spec_l22Sim_hold : Nat := 161
abbrev spec_l22Sim_send : Nat := 162
abbrev spec_l22Sim_sees : Nat := 163
abbrev spec_l22Sim_gets : Nat := 164
abbrev spec_l11Sets : Nat := 165
abbrev spec_l22Sim_do : Nat := 166
abbrev spec_l22Sim_goOn : Nat := 167
abbrev spec_l22Sim_ask : Nat := 168
abbrev spec_l22Sim_set : Nat := 169
abbrev spec_l22Sim_branch : Nat := 170
abbrev impl_Val_text : Nat := 186
abbrev impl_Step_makes : Nat := 187
abbrev impl_Plan_clone : Nat := 188
abbrev T_int64 : Nat := 2
abbrev T_int : Nat := 3
abbrev T_bool : Nat := 4
abbrev T_uint8 : Nat := 5
abbrev T_string : Nat := 9
abbrev T_uintptr : Nat := 12
abbrev T_int32 : Nat := 21
abbrev T_s_uint8 : Nat := 22
abbrev T_s_impl_Label : Nat := 23
abbrev T_s_impl_Step : Nat := 24
abbrev T_impl_Prog : Nat := 26
abbrev T_s_int : Nat := 29
abbrev T_s_bool : Nat := 33
abbrev T_s_impl_Write : Nat := 38
abbrev T_s_impl_Said : Nat := 39
abbrev T_impl_Run : Nat := 41
abbrev T_impl_Part : Nat := 52
abbrev T_s_impl_Word : Nat := 54
abbrev T_impl_Word : Nat := 61
abbrev T_impl_Write : Nat := 73
abbrev T_impl_Label : Nat := 77
abbrev T_impl_Val : Nat := 80
abbrev T_impl_Step : Nat := 82
abbrev T_impl_Said : Nat := 91
abbrev T_spec_l6Rd : Nat := 102
abbrev T_impl_Plan : Nat := 115
abbrev T_s_spec_l22Post : Nat := 155
abbrev T_s_spec_l22Key : Nat := 156
abbrev T_spec_l22Sim : Nat := 158
abbrev T_spec_l21Look : Nat := 168
abbrev T_spec_l22Key : Nat := 173
abbrev T_spec_l22Post : Nat := 177
abbrev T_uint32 : Nat := 187
def tab (n : Nat) : Option TI := cond (Nat.blt n 76) (cond (Nat.blt n 33) (cond (Nat.blt n 21) (cond (Nat.blt n 5) (cond (Nat.blt n 3) (cond (Nat.beq n 2) (some ⟨1, false, [.int .i64 0], .int .i64, false⟩) none) (cond (Nat.blt n 4) (cond (Nat.beq n 3) (some ⟨1, false, [.int .i64 0], .int .i64, false⟩) none) (cond (Nat.beq n 4) (some ⟨1, false, [.bool false], .bool, false⟩) none))) (cond (Nat.blt n 12) (cond (Nat.blt n 9) (cond (Nat.beq n 5) (some ⟨1, false, [.int .u8 0], .int .u8, false⟩) none) (cond (Nat.beq n 9) (some ⟨1, false, [.str ByteArray.empty], .str, false⟩) none)) (cond (Nat.blt n 13) (cond (Nat.beq n 12) (some ⟨1, false, [.int .u64 0], .int .u64, false⟩) none) (cond (Nat.beq n 13) (some ⟨2, true, [.str ByteArray.empty, .int .u64 0], .strct [(9, 0, 1), (12, 1, 1)], false⟩) none)))) (cond (Nat.blt n 24) (cond (Nat.blt n 22) (cond (Nat.beq n 21) (some ⟨1, false, [.int .i32 0], .int .i32, false⟩) none) (cond (Nat.blt n 23) (cond (Nat.beq n 22) (some ⟨1, false, [.nils], .slice 5, false⟩) none) (cond (Nat.beq n 23) (some ⟨1, false, [.nils], .slice 77, false⟩) none))) (cond (Nat.blt n 26) (cond (Nat.blt n 25) (cond (Nat.beq n 24) (some ⟨1, false, [.nils], .slice 82, false⟩) none) (cond (Nat.beq n 25) (some ⟨2, true, [.nils, .nils], .strct [(23, 0, 1), (24, 1, 1)], false⟩) none)) (cond (Nat.blt n 29) (cond (Nat.beq n 26) (some ⟨2, true, [.nils, .nils], .strct [(23, 0, 1), (24, 1, 1)], false⟩) none) (cond (Nat.beq n 29) (some ⟨1, false, [.nils], .slice 3, false⟩) none))))) (cond (Nat.blt n 52) (cond (Nat.blt n 40) (cond (Nat.blt n 38) (cond (Nat.beq n 33) (some ⟨1, false, [.nils], .slice 4, false⟩) none) (cond (Nat.blt n 39) (cond (Nat.beq n 38) (some ⟨1, false, [.nils], .slice 73, false⟩) none) (cond (Nat.beq n 39) (some ⟨1, false, [.nils], .slice 91, false⟩) none))) (cond (Nat.blt n 50) (cond (Nat.blt n 41) (cond (Nat.beq n 40) (some ⟨3, true, [.nils, .nils, .nils], .strct [(29, 0, 1), (38, 1, 1), (39, 2, 1)], false⟩) none) (cond (Nat.beq n 41) (some ⟨3, true, [.nils, .nils, .nils], .strct [(29, 0, 1), (38, 1, 1), (39, 2, 1)], false⟩) none)) (cond (Nat.blt n 51) (cond (Nat.beq n 50) (some ⟨1, false, [.nils], .slice 54, false⟩) none) (cond (Nat.beq n 51) (some ⟨5, true, [.nils, .nils, .nils, .nils, .bool false], .strct [(41, 0, 3), (50, 3, 1), (4, 4, 1)], false⟩) none)))) (cond (Nat.blt n 61) (cond (Nat.blt n 54) (cond (Nat.beq n 52) (some ⟨5, true, [.nils, .nils, .nils, .nils, .bool false], .strct [(41, 0, 3), (50, 3, 1), (4, 4, 1)], false⟩) none) (cond (Nat.blt n 60) (cond (Nat.beq n 54) (some ⟨1, false, [.nils], .slice 61, false⟩) none) (cond (Nat.beq n 60) (some ⟨7, true, [.int .i64 0, .int .i64 0, .int .i64 0, .int .i64 0, .int .i64 0, .int .i64 0, .int .i64 0], .strct [(3, 0, 1), (3, 1, 1), (3, 2, 1), (3, 3, 1), (3, 4, 1), (3, 5, 1), (3, 6, 1)], true⟩) none))) (cond (Nat.blt n 72) (cond (Nat.blt n 64) (cond (Nat.beq n 61) (some ⟨7, true, [.int .i64 0, .int .i64 0, .int .i64 0, .int .i64 0, .int .i64 0, .int .i64 0, .int .i64 0], .strct [(3, 0, 1), (3, 1, 1), (3, 2, 1), (3, 3, 1), (3, 4, 1), (3, 5, 1), (3, 6, 1)], true⟩) none) (cond (Nat.beq n 64) (some ⟨1, false, [.nilptr], .ptr 102, false⟩) none)) (cond (Nat.blt n 73) (cond (Nat.beq n 72) (some ⟨2, true, [.int .i64 0, .int .i64 0], .strct [(3, 0, 1), (3, 1, 1)], true⟩) none) (cond (Nat.beq n 73) (some ⟨2, true, [.int .i64 0, .int .i64 0], .strct [(3, 0, 1), (3, 1, 1)], true⟩) none)))))) (cond (Nat.blt n 139) (cond (Nat.blt n 91) (cond (Nat.blt n 80) (cond (Nat.blt n 77) (cond (Nat.beq n 76) (some ⟨2, true, [.int .i64 0, .int .i64 0], .strct [(3, 0, 1), (3, 1, 1)], true⟩) none) (cond (Nat.blt n 79) (cond (Nat.beq n 77) (some ⟨2, true, [.int .i64 0, .int .i64 0], .strct [(3, 0, 1), (3, 1, 1)], true⟩) none) (cond (Nat.beq n 79) (some ⟨3, true, [.int .i64 0, .int .i64 0, .int .i64 0], .strct [(3, 0, 1), (3, 1, 1), (3, 2, 1)], true⟩) none))) (cond (Nat.blt n 82) (cond (Nat.blt n 81) (cond (Nat.beq n 80) (some ⟨3, true, [.int .i64 0, .int .i64 0, .int .i64 0], .strct [(3, 0, 1), (3, 1, 1), (3, 2, 1)], true⟩) none) (cond (Nat.beq n 81) (some ⟨8, true, [.int .i64 0, .int .i64 0, .int .i64 0, .int .i64 0, .int .i64 0, .int .i64 0, .nils, .nils], .strct [(3, 0, 1), (3, 1, 1), (80, 2, 3), (3, 5, 1), (24, 6, 1), (24, 7, 1)], false⟩) none)) (cond (Nat.blt n 90) (cond (Nat.beq n 82) (some ⟨8, true, [.int .i64 0, .int .i64 0, .int .i64 0, .int .i64 0, .int .i64 0, .int .i64 0, .nils, .nils], .strct [(3, 0, 1), (3, 1, 1), (80, 2, 3), (3, 5, 1), (24, 6, 1), (24, 7, 1)], false⟩) none) (cond (Nat.beq n 90) (some ⟨2, true, [.int .i64 0, .int .i64 0], .strct [(3, 0, 1), (3, 1, 1)], true⟩) none)))) (cond (Nat.blt n 102) (cond (Nat.blt n 99) (cond (Nat.beq n 91) (some ⟨2, true, [.int .i64 0, .int .i64 0], .strct [(3, 0, 1), (3, 1, 1)], true⟩) none) (cond (Nat.blt n 101) (cond (Nat.beq n 99) (some ⟨1, false, [.nilptr], .ptr 82, false⟩) none) (cond (Nat.beq n 101) (some ⟨2, true, [.nils, .int .i64 0], .strct [(22, 0, 1), (3, 1, 1)], false⟩) none))) (cond (Nat.blt n 114) (cond (Nat.blt n 110) (cond (Nat.beq n 102) (some ⟨2, true, [.nils, .int .i64 0], .strct [(22, 0, 1), (3, 1, 1)], false⟩) none) (cond (Nat.beq n 110) (some ⟨1, false, [.nilptr], .ptr 41, false⟩) none)) (cond (Nat.blt n 115) (cond (Nat.beq n 114) (some ⟨3, true, [.nils, .nils, .nils], .strct [(29, 0, 1), (29, 1, 1), (29, 2, 1)], false⟩) none) (cond (Nat.beq n 115) (some ⟨3, true, [.nils, .nils, .nils], .strct [(29, 0, 1), (29, 1, 1), (29, 2, 1)], false⟩) none))))) (cond (Nat.blt n 167) (cond (Nat.blt n 156) (cond (Nat.blt n 150) (cond (Nat.beq n 139) (some ⟨1, false, [.nilptr], .ptr 158, false⟩) none) (cond (Nat.blt n 155) (cond (Nat.beq n 150) (some ⟨1, false, [.nilptr], .ptr 168, false⟩) none) (cond (Nat.beq n 155) (some ⟨1, false, [.nils], .slice 177, false⟩) none))) (cond (Nat.blt n 158) (cond (Nat.blt n 157) (cond (Nat.beq n 156) (some ⟨1, false, [.nils], .slice 173, false⟩) none) (cond (Nat.beq n 157) (some ⟨15, true, [.nils, .nils, .nils, .nils, .nils, .nils, .nils, .nils, .nils, .nils, .nils, .nils, .nils, .int .i64 0, .bool false], .strct [(26, 0, 2), (115, 2, 3), (24, 5, 1), (29, 6, 1), (41, 7, 3), (50, 10, 1), (155, 11, 1), (156, 12, 1), (3, 13, 1), (4, 14, 1)], false⟩) none)) (cond (Nat.blt n 160) (cond (Nat.beq n 158) (some ⟨15, true, [.nils, .nils, .nils, .nils, .nils, .nils, .nils, .nils, .nils, .nils, .nils, .nils, .nils, .int .i64 0, .bool false], .strct [(26, 0, 2), (115, 2, 3), (24, 5, 1), (29, 6, 1), (41, 7, 3), (50, 10, 1), (155, 11, 1), (156, 12, 1), (3, 13, 1), (4, 14, 1)], false⟩) none) (cond (Nat.beq n 160) (some ⟨2, true, [.int .i64 0, .int .i64 0], .arr 2 3, false⟩) none)))) (cond (Nat.blt n 176) (cond (Nat.blt n 172) (cond (Nat.blt n 168) (cond (Nat.beq n 167) (some ⟨7, true, [.nils, .nils, .nils, .nils, .nils, .nils, .nils], .strct [(26, 0, 2), (29, 2, 1), (24, 3, 1), (23, 4, 1), (29, 5, 1), (29, 6, 1)], false⟩) none) (cond (Nat.beq n 168) (some ⟨7, true, [.nils, .nils, .nils, .nils, .nils, .nils, .nils], .strct [(26, 0, 2), (29, 2, 1), (24, 3, 1), (23, 4, 1), (29, 5, 1), (29, 6, 1)], false⟩) none)) (cond (Nat.blt n 173) (cond (Nat.beq n 172) (some ⟨7, true, [.int .i64 0, .int .i64 0, .int .i64 0, .int .i64 0, .int .i64 0, .int .i64 0, .bool false], .strct [(3, 0, 1), (3, 1, 1), (3, 2, 1), (160, 3, 2), (3, 5, 1), (4, 6, 1)], false⟩) none) (cond (Nat.beq n 173) (some ⟨7, true, [.int .i64 0, .int .i64 0, .int .i64 0, .int .i64 0, .int .i64 0, .int .i64 0, .bool false], .strct [(3, 0, 1), (3, 1, 1), (3, 2, 1), (160, 3, 2), (3, 5, 1), (4, 6, 1)], false⟩) none))) (cond (Nat.blt n 187) (cond (Nat.blt n 177) (cond (Nat.beq n 176) (some ⟨8, true, [.int .i64 0, .int .i64 0, .int .i64 0, .int .i64 0, .int .i64 0, .int .i64 0, .int .i64 0, .int .i64 0], .strct [(3, 0, 1), (61, 1, 7)], false⟩) none) (cond (Nat.beq n 177) (some ⟨8, true, [.int .i64 0, .int .i64 0, .int .i64 0, .int .i64 0, .int .i64 0, .int .i64 0, .int .i64 0, .int .i64 0], .strct [(3, 0, 1), (61, 1, 7)], false⟩) none)) (cond (Nat.blt n 191) (cond (Nat.beq n 187) (some ⟨1, false, [.int .u32 0], .int .u32, false⟩) none) (cond (Nat.beq n 191) (some ⟨1, false, [.nilptr], .ptr 5, false⟩) none))))))
noncomputable def fns (n : Nat) : Option Func := cond (Nat.blt n 88) (cond (Nat.blt n 45) (cond (Nat.blt n 24) (cond (Nat.blt n 13) (cond (Nat.blt n 8) (cond (Nat.blt n 5) (cond (Nat.blt n 4) (cond (Nat.beq n 3) (some Try.f3) none) (cond (Nat.beq n 4) (some Try.f4) none)) (cond (Nat.blt n 6) (cond (Nat.beq n 5) (some Try.f5) none) (cond (Nat.blt n 7) (cond (Nat.beq n 6) (some Try.f6) none) (cond (Nat.beq n 7) (some Try.f7) none)))) (cond (Nat.blt n 10) (cond (Nat.blt n 9) (cond (Nat.beq n 8) (some Try.f8) none) (cond (Nat.beq n 9) (some Try.f9) none)) (cond (Nat.blt n 11) (cond (Nat.beq n 10) (some Try.f10) none) (cond (Nat.blt n 12) (cond (Nat.beq n 11) (some Try.f11) none) (cond (Nat.beq n 12) (some Try.f12) none))))) (cond (Nat.blt n 18) (cond (Nat.blt n 15) (cond (Nat.blt n 14) (cond (Nat.beq n 13) (some Try.f13) none) (cond (Nat.beq n 14) (some Try.f14) none)) (cond (Nat.blt n 16) (cond (Nat.beq n 15) (some Try.f15) none) (cond (Nat.blt n 17) (cond (Nat.beq n 16) (some Try.f16) none) (cond (Nat.beq n 17) (some Try.f17) none)))) (cond (Nat.blt n 21) (cond (Nat.blt n 19) (cond (Nat.beq n 18) (some Try.f18) none) (cond (Nat.blt n 20) (cond (Nat.beq n 19) (some Try.f19) none) (cond (Nat.beq n 20) (some Try.f20) none))) (cond (Nat.blt n 22) (cond (Nat.beq n 21) (some Try.f21) none) (cond (Nat.blt n 23) (cond (Nat.beq n 22) (some Try.f22) none) (cond (Nat.beq n 23) (some Try.f23) none)))))) (cond (Nat.blt n 34) (cond (Nat.blt n 29) (cond (Nat.blt n 26) (cond (Nat.blt n 25) (cond (Nat.beq n 24) (some Try.f24) none) (cond (Nat.beq n 25) (some Try.f25) none)) (cond (Nat.blt n 27) (cond (Nat.beq n 26) (some Try.f26) none) (cond (Nat.blt n 28) (cond (Nat.beq n 27) (some Try.f27) none) (cond (Nat.beq n 28) (some Try.f28) none)))) (cond (Nat.blt n 31) (cond (Nat.blt n 30) (cond (Nat.beq n 29) (some Try.f29) none) (cond (Nat.beq n 30) (some Try.f30) none)) (cond (Nat.blt n 32) (cond (Nat.beq n 31) (some Try.f31) none) (cond (Nat.blt n 33) (cond (Nat.beq n 32) (some Try.f32) none) (cond (Nat.beq n 33) (some Try.f33) none))))) (cond (Nat.blt n 39) (cond (Nat.blt n 36) (cond (Nat.blt n 35) (cond (Nat.beq n 34) (some Try.f34) none) (cond (Nat.beq n 35) (some Try.f35) none)) (cond (Nat.blt n 37) (cond (Nat.beq n 36) (some Try.f36) none) (cond (Nat.blt n 38) (cond (Nat.beq n 37) (some Try.f37) none) (cond (Nat.beq n 38) (some Try.f38) none)))) (cond (Nat.blt n 42) (cond (Nat.blt n 40) (cond (Nat.beq n 39) (some Try.f39) none) (cond (Nat.blt n 41) (cond (Nat.beq n 40) (some Try.f40) none) (cond (Nat.beq n 41) (some Try.f41) none))) (cond (Nat.blt n 43) (cond (Nat.beq n 42) (some Try.f42) none) (cond (Nat.blt n 44) (cond (Nat.beq n 43) (some Try.f43) none) (cond (Nat.beq n 44) (some Try.f44) none))))))) (cond (Nat.blt n 66) (cond (Nat.blt n 55) (cond (Nat.blt n 50) (cond (Nat.blt n 47) (cond (Nat.blt n 46) (cond (Nat.beq n 45) (some Try.f45) none) (cond (Nat.beq n 46) (some Try.f46) none)) (cond (Nat.blt n 48) (cond (Nat.beq n 47) (some Try.f47) none) (cond (Nat.blt n 49) (cond (Nat.beq n 48) (some Try.f48) none) (cond (Nat.beq n 49) (some Try.f49) none)))) (cond (Nat.blt n 52) (cond (Nat.blt n 51) (cond (Nat.beq n 50) (some Try.f50) none) (cond (Nat.beq n 51) (some Try.f51) none)) (cond (Nat.blt n 53) (cond (Nat.beq n 52) (some Try.f52) none) (cond (Nat.blt n 54) (cond (Nat.beq n 53) (some Try.f53) none) (cond (Nat.beq n 54) (some Try.f54) none))))) (cond (Nat.blt n 60) (cond (Nat.blt n 57) (cond (Nat.blt n 56) (cond (Nat.beq n 55) (some Try.f55) none) (cond (Nat.beq n 56) (some Try.f56) none)) (cond (Nat.blt n 58) (cond (Nat.beq n 57) (some Try.f57) none) (cond (Nat.blt n 59) (cond (Nat.beq n 58) (some Try.f58) none) (cond (Nat.beq n 59) (some Try.f59) none)))) (cond (Nat.blt n 63) (cond (Nat.blt n 61) (cond (Nat.beq n 60) (some Try.f60) none) (cond (Nat.blt n 62) (cond (Nat.beq n 61) (some Try.f61) none) (cond (Nat.beq n 62) (some Try.f62) none))) (cond (Nat.blt n 64) (cond (Nat.beq n 63) (some Try.f63) none) (cond (Nat.blt n 65) (cond (Nat.beq n 64) (some Try.f64) none) (cond (Nat.beq n 65) (some Try.f65) none)))))) (cond (Nat.blt n 77) (cond (Nat.blt n 71) (cond (Nat.blt n 68) (cond (Nat.blt n 67) (cond (Nat.beq n 66) (some Try.f66) none) (cond (Nat.beq n 67) (some Try.f67) none)) (cond (Nat.blt n 69) (cond (Nat.beq n 68) (some Try.f68) none) (cond (Nat.blt n 70) (cond (Nat.beq n 69) (some Try.f69) none) (cond (Nat.beq n 70) (some Try.f70) none)))) (cond (Nat.blt n 74) (cond (Nat.blt n 72) (cond (Nat.beq n 71) (some Try.f71) none) (cond (Nat.blt n 73) (cond (Nat.beq n 72) (some Try.f72) none) (cond (Nat.beq n 73) (some Try.f73) none))) (cond (Nat.blt n 75) (cond (Nat.beq n 74) (some Try.f74) none) (cond (Nat.blt n 76) (cond (Nat.beq n 75) (some Try.f75) none) (cond (Nat.beq n 76) (some Try.f76) none))))) (cond (Nat.blt n 82) (cond (Nat.blt n 79) (cond (Nat.blt n 78) (cond (Nat.beq n 77) (some Try.f77) none) (cond (Nat.beq n 78) (some Try.f78) none)) (cond (Nat.blt n 80) (cond (Nat.beq n 79) (some Try.f79) none) (cond (Nat.blt n 81) (cond (Nat.beq n 80) (some Try.f80) none) (cond (Nat.beq n 81) (some Try.f81) none)))) (cond (Nat.blt n 85) (cond (Nat.blt n 83) (cond (Nat.beq n 82) (some Try.f82) none) (cond (Nat.blt n 84) (cond (Nat.beq n 83) (some Try.f83) none) (cond (Nat.beq n 84) (some Try.f84) none))) (cond (Nat.blt n 86) (cond (Nat.beq n 85) (some Try.f85) none) (cond (Nat.blt n 87) (cond (Nat.beq n 86) (some Try.f86) none) (cond (Nat.beq n 87) (some Try.f87) none)))))))) (cond (Nat.blt n 131) (cond (Nat.blt n 109) (cond (Nat.blt n 98) (cond (Nat.blt n 93) (cond (Nat.blt n 90) (cond (Nat.blt n 89) (cond (Nat.beq n 88) (some Try.f88) none) (cond (Nat.beq n 89) (some Try.f89) none)) (cond (Nat.blt n 91) (cond (Nat.beq n 90) (some Try.f90) none) (cond (Nat.blt n 92) (cond (Nat.beq n 91) (some Try.f91) none) (cond (Nat.beq n 92) (some Try.f92) none)))) (cond (Nat.blt n 95) (cond (Nat.blt n 94) (cond (Nat.beq n 93) (some Try.f93) none) (cond (Nat.beq n 94) (some Try.f94) none)) (cond (Nat.blt n 96) (cond (Nat.beq n 95) (some Try.f95) none) (cond (Nat.blt n 97) (cond (Nat.beq n 96) (some Try.f96) none) (cond (Nat.beq n 97) (some Try.f97) none))))) (cond (Nat.blt n 103) (cond (Nat.blt n 100) (cond (Nat.blt n 99) (cond (Nat.beq n 98) (some Try.f98) none) (cond (Nat.beq n 99) (some Try.f99) none)) (cond (Nat.blt n 101) (cond (Nat.beq n 100) (some Try.f100) none) (cond (Nat.blt n 102) (cond (Nat.beq n 101) (some Try.f101) none) (cond (Nat.beq n 102) (some Try.f102) none)))) (cond (Nat.blt n 106) (cond (Nat.blt n 104) (cond (Nat.beq n 103) (some Try.f103) none) (cond (Nat.blt n 105) (cond (Nat.beq n 104) (some Try.f104) none) (cond (Nat.beq n 105) (some Try.f105) none))) (cond (Nat.blt n 107) (cond (Nat.beq n 106) (some Try.f106) none) (cond (Nat.blt n 108) (cond (Nat.beq n 107) (some Try.f107) none) (cond (Nat.beq n 108) (some Try.f108) none)))))) (cond (Nat.blt n 120) (cond (Nat.blt n 114) (cond (Nat.blt n 111) (cond (Nat.blt n 110) (cond (Nat.beq n 109) (some Try.f109) none) (cond (Nat.beq n 110) (some Try.f110) none)) (cond (Nat.blt n 112) (cond (Nat.beq n 111) (some Try.f111) none) (cond (Nat.blt n 113) (cond (Nat.beq n 112) (some Try.f112) none) (cond (Nat.beq n 113) (some Try.f113) none)))) (cond (Nat.blt n 117) (cond (Nat.blt n 115) (cond (Nat.beq n 114) (some Try.f114) none) (cond (Nat.blt n 116) (cond (Nat.beq n 115) (some Try.f115) none) (cond (Nat.beq n 116) (some Try.f116) none))) (cond (Nat.blt n 118) (cond (Nat.beq n 117) (some Try.f117) none) (cond (Nat.blt n 119) (cond (Nat.beq n 118) (some Try.f118) none) (cond (Nat.beq n 119) (some Try.f119) none))))) (cond (Nat.blt n 125) (cond (Nat.blt n 122) (cond (Nat.blt n 121) (cond (Nat.beq n 120) (some Try.f120) none) (cond (Nat.beq n 121) (some Try.f121) none)) (cond (Nat.blt n 123) (cond (Nat.beq n 122) (some Try.f122) none) (cond (Nat.blt n 124) (cond (Nat.beq n 123) (some Try.f123) none) (cond (Nat.beq n 124) (some Try.f124) none)))) (cond (Nat.blt n 128) (cond (Nat.blt n 126) (cond (Nat.beq n 125) (some Try.f125) none) (cond (Nat.blt n 127) (cond (Nat.beq n 126) (some Try.f126) none) (cond (Nat.beq n 127) (some Try.f127) none))) (cond (Nat.blt n 129) (cond (Nat.beq n 128) (some Try.f128) none) (cond (Nat.blt n 130) (cond (Nat.beq n 129) (some Try.f129) none) (cond (Nat.beq n 130) (some Try.f130) none))))))) (cond (Nat.blt n 152) (cond (Nat.blt n 141) (cond (Nat.blt n 136) (cond (Nat.blt n 133) (cond (Nat.blt n 132) (cond (Nat.beq n 131) (some Try.f131) none) (cond (Nat.beq n 132) (some Try.f132) none)) (cond (Nat.blt n 134) (cond (Nat.beq n 133) (some Try.f133) none) (cond (Nat.blt n 135) (cond (Nat.beq n 134) (some Try.f134) none) (cond (Nat.beq n 135) (some Try.f135) none)))) (cond (Nat.blt n 138) (cond (Nat.blt n 137) (cond (Nat.beq n 136) (some Try.f136) none) (cond (Nat.beq n 137) (some Try.f137) none)) (cond (Nat.blt n 139) (cond (Nat.beq n 138) (some Try.f138) none) (cond (Nat.blt n 140) (cond (Nat.beq n 139) (some Try.f139) none) (cond (Nat.beq n 140) (some Try.f140) none))))) (cond (Nat.blt n 146) (cond (Nat.blt n 143) (cond (Nat.blt n 142) (cond (Nat.beq n 141) (some Try.f141) none) (cond (Nat.beq n 142) (some Try.f142) none)) (cond (Nat.blt n 144) (cond (Nat.beq n 143) (some Try.f143) none) (cond (Nat.blt n 145) (cond (Nat.beq n 144) (some Try.f144) none) (cond (Nat.beq n 145) (some Try.f145) none)))) (cond (Nat.blt n 149) (cond (Nat.blt n 147) (cond (Nat.beq n 146) (some Try.f146) none) (cond (Nat.blt n 148) (cond (Nat.beq n 147) (some Try.f147) none) (cond (Nat.beq n 148) (some Try.f148) none))) (cond (Nat.blt n 150) (cond (Nat.beq n 149) (some Try.f149) none) (cond (Nat.blt n 151) (cond (Nat.beq n 150) (some Try.f150) none) (cond (Nat.beq n 151) (some Try.f151) none)))))) (cond (Nat.blt n 163) (cond (Nat.blt n 157) (cond (Nat.blt n 154) (cond (Nat.blt n 153) (cond (Nat.beq n 152) (some Try.f152) none) (cond (Nat.beq n 153) (some Try.f153) none)) (cond (Nat.blt n 155) (cond (Nat.beq n 154) (some Try.f154) none) (cond (Nat.blt n 156) (cond (Nat.beq n 155) (some Try.f155) none) (cond (Nat.beq n 156) (some Try.f156) none)))) (cond (Nat.blt n 160) (cond (Nat.blt n 158) (cond (Nat.beq n 157) (some Try.f157) none) (cond (Nat.blt n 159) (cond (Nat.beq n 158) (some Try.f158) none) (cond (Nat.beq n 159) (some Try.f159) none))) (cond (Nat.blt n 161) (cond (Nat.beq n 160) (some Try.f160) none) (cond (Nat.blt n 162) (cond (Nat.beq n 161) (some Try.f161) none) (cond (Nat.beq n 162) (some Try.f162) none))))) (cond (Nat.blt n 168) (cond (Nat.blt n 165) (cond (Nat.blt n 164) (cond (Nat.beq n 163) (some Try.f163) none) (cond (Nat.beq n 164) (some Try.f164) none)) (cond (Nat.blt n 166) (cond (Nat.beq n 165) (some Try.f165) none) (cond (Nat.blt n 167) (cond (Nat.beq n 166) (some Try.f166) none) (cond (Nat.beq n 167) (some Try.f167) none)))) (cond (Nat.blt n 186) (cond (Nat.blt n 169) (cond (Nat.beq n 168) (some Try.f168) none) (cond (Nat.blt n 170) (cond (Nat.beq n 169) (some Try.f169) none) (cond (Nat.beq n 170) (some Try.f170) none))) (cond (Nat.blt n 187) (cond (Nat.beq n 186) (some Try.f186) none) (cond (Nat.blt n 188) (cond (Nat.beq n 187) (some Try.f187) none) (cond (Nat.beq n 188) (some Try.f188) none))))))))
def byref (n : Nat) : Bool := Nat.beq n 70 || Nat.beq n 71 || Nat.beq n 111 || Nat.beq n 128 || Nat.beq n 136 || Nat.beq n 145 || Nat.beq n 148
def keep (n : Nat) : Bool := Nat.beq n 39 || Nat.beq n 60 || Nat.beq n 61 || Nat.beq n 68 || Nat.beq n 70 || Nat.beq n 71 || Nat.beq n 95 || Nat.beq n 105 || Nat.beq n 109 || Nat.beq n 111 || Nat.beq n 120 || Nat.beq n 124 || Nat.beq n 125 || Nat.beq n 126 || Nat.beq n 140 || Nat.beq n 141 || Nat.beq n 146 || Nat.beq n 147 || Nat.beq n 156 || Nat.beq n 161 || Nat.beq n 162 || Nat.beq n 163 || Nat.beq n 164 || Nat.beq n 166 || Nat.beq n 167 || Nat.beq n 168 || Nat.beq n 169 || Nat.beq n 170
def prom (n : Nat) : Bool := false
def mutaF (n : Nat) : Bool := Nat.beq n 5 || Nat.beq n 23 || Nat.beq n 60 || Nat.beq n 68 || Nat.beq n 75 || Nat.beq n 78 || Nat.beq n 99 || Nat.beq n 105 || Nat.beq n 119 || Nat.beq n 124 || Nat.beq n 146 || Nat.beq n 156 || Nat.beq n 170
def nestF (n : Nat) : Bool := Nat.beq n 105 || Nat.beq n 124
def muta (n s : Nat) : Bool := Nat.beq s 1001 || cond (Nat.beq s 1002) (nestF n) (mutaF n)
noncomputable def Y : XVai.Sys := { tab := tab, fn := fns, byref := byref, keep := keep, prom := prom, muta := muta, glob := fun _ => none }
theorem ty2 {Y : XVai.Sys} : TyOk Try.prog Y 2 ⟨1, false, [.int .i64 0], .int .i64, false⟩ := tyOk_of_chk (by kernel_rfl)
theorem ty3 {Y : XVai.Sys} : TyOk Try.prog Y 3 ⟨1, false, [.int .i64 0], .int .i64, false⟩ := tyOk_of_chk (by kernel_rfl)
theorem ty4 {Y : XVai.Sys} : TyOk Try.prog Y 4 ⟨1, false, [.bool false], .bool, false⟩ := tyOk_of_chk (by kernel_rfl)
theorem ty5 {Y : XVai.Sys} : TyOk Try.prog Y 5 ⟨1, false, [.int .u8 0], .int .u8, false⟩ := tyOk_of_chk (by kernel_rfl)
theorem ty9 {Y : XVai.Sys} : TyOk Try.prog Y 9 ⟨1, false, [.str ByteArray.empty], .str, false⟩ := tyOk_of_chk (by kernel_rfl)
theorem ty12 {Y : XVai.Sys} : TyOk Try.prog Y 12 ⟨1, false, [.int .u64 0], .int .u64, false⟩ := tyOk_of_chk (by kernel_rfl)
theorem ty13 {Y : XVai.Sys} : TyOk Try.prog Y 13 ⟨2, true, [.str ByteArray.empty, .int .u64 0], .strct [(9, 0, 1), (12, 1, 1)], false⟩ := tyOk_of_chk (by kernel_rfl)
theorem ty21 {Y : XVai.Sys} : TyOk Try.prog Y 21 ⟨1, false, [.int .i32 0], .int .i32, false⟩ := tyOk_of_chk (by kernel_rfl)
theorem ty22 {Y : XVai.Sys} : TyOk Try.prog Y 22 ⟨1, false, [.nils], .slice 5, false⟩ := tyOk_of_chk (by kernel_rfl)
theorem ty23 {Y : XVai.Sys} : TyOk Try.prog Y 23 ⟨1, false, [.nils], .slice 77, false⟩ := tyOk_of_chk (by kernel_rfl)
theorem ty24 {Y : XVai.Sys} : TyOk Try.prog Y 24 ⟨1, false, [.nils], .slice 82, false⟩ := tyOk_of_chk (by kernel_rfl)
theorem ty25 {Y : XVai.Sys} : TyOk Try.prog Y 25 ⟨2, true, [.nils, .nils], .strct [(23, 0, 1), (24, 1, 1)], false⟩ := tyOk_of_chk (by kernel_rfl)
theorem ty26 {Y : XVai.Sys} : TyOk Try.prog Y 26 ⟨2, true, [.nils, .nils], .strct [(23, 0, 1), (24, 1, 1)], false⟩ := tyOk_of_chk (by kernel_rfl)
theorem ty29 {Y : XVai.Sys} : TyOk Try.prog Y 29 ⟨1, false, [.nils], .slice 3, false⟩ := tyOk_of_chk (by kernel_rfl)
theorem ty33 {Y : XVai.Sys} : TyOk Try.prog Y 33 ⟨1, false, [.nils], .slice 4, false⟩ := tyOk_of_chk (by kernel_rfl)
theorem ty38 {Y : XVai.Sys} : TyOk Try.prog Y 38 ⟨1, false, [.nils], .slice 73, false⟩ := tyOk_of_chk (by kernel_rfl)
theorem ty39 {Y : XVai.Sys} : TyOk Try.prog Y 39 ⟨1, false, [.nils], .slice 91, false⟩ := tyOk_of_chk (by kernel_rfl)
theorem ty40 {Y : XVai.Sys} : TyOk Try.prog Y 40 ⟨3, true, [.nils, .nils, .nils], .strct [(29, 0, 1), (38, 1, 1), (39, 2, 1)], false⟩ := tyOk_of_chk (by kernel_rfl)
theorem ty41 {Y : XVai.Sys} : TyOk Try.prog Y 41 ⟨3, true, [.nils, .nils, .nils], .strct [(29, 0, 1), (38, 1, 1), (39, 2, 1)], false⟩ := tyOk_of_chk (by kernel_rfl)
theorem ty50 {Y : XVai.Sys} : TyOk Try.prog Y 50 ⟨1, false, [.nils], .slice 54, false⟩ := tyOk_of_chk (by kernel_rfl)
theorem ty51 {Y : XVai.Sys} : TyOk Try.prog Y 51 ⟨5, true, [.nils, .nils, .nils, .nils, .bool false], .strct [(41, 0, 3), (50, 3, 1), (4, 4, 1)], false⟩ := tyOk_of_chk (by kernel_rfl)
theorem ty52 {Y : XVai.Sys} : TyOk Try.prog Y 52 ⟨5, true, [.nils, .nils, .nils, .nils, .bool false], .strct [(41, 0, 3), (50, 3, 1), (4, 4, 1)], false⟩ := tyOk_of_chk (by kernel_rfl)
theorem ty54 {Y : XVai.Sys} : TyOk Try.prog Y 54 ⟨1, false, [.nils], .slice 61, false⟩ := tyOk_of_chk (by kernel_rfl)
theorem ty60 {Y : XVai.Sys} : TyOk Try.prog Y 60 ⟨7, true, [.int .i64 0, .int .i64 0, .int .i64 0, .int .i64 0, .int .i64 0, .int .i64 0, .int .i64 0], .strct [(3, 0, 1), (3, 1, 1), (3, 2, 1), (3, 3, 1), (3, 4, 1), (3, 5, 1), (3, 6, 1)], true⟩ := tyOk_of_chk (by kernel_rfl)
theorem ty61 {Y : XVai.Sys} : TyOk Try.prog Y 61 ⟨7, true, [.int .i64 0, .int .i64 0, .int .i64 0, .int .i64 0, .int .i64 0, .int .i64 0, .int .i64 0], .strct [(3, 0, 1), (3, 1, 1), (3, 2, 1), (3, 3, 1), (3, 4, 1), (3, 5, 1), (3, 6, 1)], true⟩ := tyOk_of_chk (by kernel_rfl)
theorem ty64 {Y : XVai.Sys} : TyOk Try.prog Y 64 ⟨1, false, [.nilptr], .ptr 102, false⟩ := tyOk_of_chk (by kernel_rfl)
theorem ty72 {Y : XVai.Sys} : TyOk Try.prog Y 72 ⟨2, true, [.int .i64 0, .int .i64 0], .strct [(3, 0, 1), (3, 1, 1)], true⟩ := tyOk_of_chk (by kernel_rfl)
theorem ty73 {Y : XVai.Sys} : TyOk Try.prog Y 73 ⟨2, true, [.int .i64 0, .int .i64 0], .strct [(3, 0, 1), (3, 1, 1)], true⟩ := tyOk_of_chk (by kernel_rfl)
theorem ty76 {Y : XVai.Sys} : TyOk Try.prog Y 76 ⟨2, true, [.int .i64 0, .int .i64 0], .strct [(3, 0, 1), (3, 1, 1)], true⟩ := tyOk_of_chk (by kernel_rfl)
theorem ty77 {Y : XVai.Sys} : TyOk Try.prog Y 77 ⟨2, true, [.int .i64 0, .int .i64 0], .strct [(3, 0, 1), (3, 1, 1)], true⟩ := tyOk_of_chk (by kernel_rfl)
theorem ty79 {Y : XVai.Sys} : TyOk Try.prog Y 79 ⟨3, true, [.int .i64 0, .int .i64 0, .int .i64 0], .strct [(3, 0, 1), (3, 1, 1), (3, 2, 1)], true⟩ := tyOk_of_chk (by kernel_rfl)
theorem ty80 {Y : XVai.Sys} : TyOk Try.prog Y 80 ⟨3, true, [.int .i64 0, .int .i64 0, .int .i64 0], .strct [(3, 0, 1), (3, 1, 1), (3, 2, 1)], true⟩ := tyOk_of_chk (by kernel_rfl)
theorem ty81 {Y : XVai.Sys} : TyOk Try.prog Y 81 ⟨8, true, [.int .i64 0, .int .i64 0, .int .i64 0, .int .i64 0, .int .i64 0, .int .i64 0, .nils, .nils], .strct [(3, 0, 1), (3, 1, 1), (80, 2, 3), (3, 5, 1), (24, 6, 1), (24, 7, 1)], false⟩ := tyOk_of_chk (by kernel_rfl)
theorem ty82 {Y : XVai.Sys} : TyOk Try.prog Y 82 ⟨8, true, [.int .i64 0, .int .i64 0, .int .i64 0, .int .i64 0, .int .i64 0, .int .i64 0, .nils, .nils], .strct [(3, 0, 1), (3, 1, 1), (80, 2, 3), (3, 5, 1), (24, 6, 1), (24, 7, 1)], false⟩ := tyOk_of_chk (by kernel_rfl)
theorem ty90 {Y : XVai.Sys} : TyOk Try.prog Y 90 ⟨2, true, [.int .i64 0, .int .i64 0], .strct [(3, 0, 1), (3, 1, 1)], true⟩ := tyOk_of_chk (by kernel_rfl)
theorem ty91 {Y : XVai.Sys} : TyOk Try.prog Y 91 ⟨2, true, [.int .i64 0, .int .i64 0], .strct [(3, 0, 1), (3, 1, 1)], true⟩ := tyOk_of_chk (by kernel_rfl)
theorem ty99 {Y : XVai.Sys} : TyOk Try.prog Y 99 ⟨1, false, [.nilptr], .ptr 82, false⟩ := tyOk_of_chk (by kernel_rfl)
theorem ty101 {Y : XVai.Sys} : TyOk Try.prog Y 101 ⟨2, true, [.nils, .int .i64 0], .strct [(22, 0, 1), (3, 1, 1)], false⟩ := tyOk_of_chk (by kernel_rfl)
theorem ty102 {Y : XVai.Sys} : TyOk Try.prog Y 102 ⟨2, true, [.nils, .int .i64 0], .strct [(22, 0, 1), (3, 1, 1)], false⟩ := tyOk_of_chk (by kernel_rfl)
theorem ty110 {Y : XVai.Sys} : TyOk Try.prog Y 110 ⟨1, false, [.nilptr], .ptr 41, false⟩ := tyOk_of_chk (by kernel_rfl)
theorem ty114 {Y : XVai.Sys} : TyOk Try.prog Y 114 ⟨3, true, [.nils, .nils, .nils], .strct [(29, 0, 1), (29, 1, 1), (29, 2, 1)], false⟩ := tyOk_of_chk (by kernel_rfl)
theorem ty115 {Y : XVai.Sys} : TyOk Try.prog Y 115 ⟨3, true, [.nils, .nils, .nils], .strct [(29, 0, 1), (29, 1, 1), (29, 2, 1)], false⟩ := tyOk_of_chk (by kernel_rfl)
theorem ty139 {Y : XVai.Sys} : TyOk Try.prog Y 139 ⟨1, false, [.nilptr], .ptr 158, false⟩ := tyOk_of_chk (by kernel_rfl)
theorem ty150 {Y : XVai.Sys} : TyOk Try.prog Y 150 ⟨1, false, [.nilptr], .ptr 168, false⟩ := tyOk_of_chk (by kernel_rfl)
theorem ty155 {Y : XVai.Sys} : TyOk Try.prog Y 155 ⟨1, false, [.nils], .slice 177, false⟩ := tyOk_of_chk (by kernel_rfl)
theorem ty156 {Y : XVai.Sys} : TyOk Try.prog Y 156 ⟨1, false, [.nils], .slice 173, false⟩ := tyOk_of_chk (by kernel_rfl)
theorem ty157 {Y : XVai.Sys} : TyOk Try.prog Y 157 ⟨15, true, [.nils, .nils, .nils, .nils, .nils, .nils, .nils, .nils, .nils, .nils, .nils, .nils, .nils, .int .i64 0, .bool false], .strct [(26, 0, 2), (115, 2, 3), (24, 5, 1), (29, 6, 1), (41, 7, 3), (50, 10, 1), (155, 11, 1), (156, 12, 1), (3, 13, 1), (4, 14, 1)], false⟩ := tyOk_of_chk (by kernel_rfl)
theorem ty158 {Y : XVai.Sys} : TyOk Try.prog Y 158 ⟨15, true, [.nils, .nils, .nils, .nils, .nils, .nils, .nils, .nils, .nils, .nils, .nils, .nils, .nils, .int .i64 0, .bool false], .strct [(26, 0, 2), (115, 2, 3), (24, 5, 1), (29, 6, 1), (41, 7, 3), (50, 10, 1), (155, 11, 1), (156, 12, 1), (3, 13, 1), (4, 14, 1)], false⟩ := tyOk_of_chk (by kernel_rfl)
theorem ty160 {Y : XVai.Sys} : TyOk Try.prog Y 160 ⟨2, true, [.int .i64 0, .int .i64 0], .arr 2 3, false⟩ := tyOk_of_chk (by kernel_rfl)
theorem ty167 {Y : XVai.Sys} : TyOk Try.prog Y 167 ⟨7, true, [.nils, .nils, .nils, .nils, .nils, .nils, .nils], .strct [(26, 0, 2), (29, 2, 1), (24, 3, 1), (23, 4, 1), (29, 5, 1), (29, 6, 1)], false⟩ := tyOk_of_chk (by kernel_rfl)
theorem ty168 {Y : XVai.Sys} : TyOk Try.prog Y 168 ⟨7, true, [.nils, .nils, .nils, .nils, .nils, .nils, .nils], .strct [(26, 0, 2), (29, 2, 1), (24, 3, 1), (23, 4, 1), (29, 5, 1), (29, 6, 1)], false⟩ := tyOk_of_chk (by kernel_rfl)
theorem ty172 {Y : XVai.Sys} : TyOk Try.prog Y 172 ⟨7, true, [.int .i64 0, .int .i64 0, .int .i64 0, .int .i64 0, .int .i64 0, .int .i64 0, .bool false], .strct [(3, 0, 1), (3, 1, 1), (3, 2, 1), (160, 3, 2), (3, 5, 1), (4, 6, 1)], false⟩ := tyOk_of_chk (by kernel_rfl)
theorem ty173 {Y : XVai.Sys} : TyOk Try.prog Y 173 ⟨7, true, [.int .i64 0, .int .i64 0, .int .i64 0, .int .i64 0, .int .i64 0, .int .i64 0, .bool false], .strct [(3, 0, 1), (3, 1, 1), (3, 2, 1), (160, 3, 2), (3, 5, 1), (4, 6, 1)], false⟩ := tyOk_of_chk (by kernel_rfl)
theorem ty176 {Y : XVai.Sys} : TyOk Try.prog Y 176 ⟨8, true, [.int .i64 0, .int .i64 0, .int .i64 0, .int .i64 0, .int .i64 0, .int .i64 0, .int .i64 0, .int .i64 0], .strct [(3, 0, 1), (61, 1, 7)], false⟩ := tyOk_of_chk (by kernel_rfl)
theorem ty177 {Y : XVai.Sys} : TyOk Try.prog Y 177 ⟨8, true, [.int .i64 0, .int .i64 0, .int .i64 0, .int .i64 0, .int .i64 0, .int .i64 0, .int .i64 0, .int .i64 0], .strct [(3, 0, 1), (61, 1, 7)], false⟩ := tyOk_of_chk (by kernel_rfl)
theorem ty187 {Y : XVai.Sys} : TyOk Try.prog Y 187 ⟨1, false, [.int .u32 0], .int .u32, false⟩ := tyOk_of_chk (by kernel_rfl)
theorem ty191 {Y : XVai.Sys} : TyOk Try.prog Y 191 ⟨1, false, [.nilptr], .ptr 5, false⟩ := tyOk_of_chk (by kernel_rfl)
theorem fo3 : FnOk Try.prog 3 Try.f3 := fnOk_of_chk Try.func3 (by kernel_rfl)
theorem fo4 : FnOk Try.prog 4 Try.f4 := fnOk_of_chk Try.func4 (by kernel_rfl)
theorem fo5 : FnOk Try.prog 5 Try.f5 := fnOk_of_chk Try.func5 (by kernel_rfl)
theorem fo6 : FnOk Try.prog 6 Try.f6 := fnOk_of_chk Try.func6 (by kernel_rfl)
theorem fo7 : FnOk Try.prog 7 Try.f7 := fnOk_of_chk Try.func7 (by kernel_rfl)
theorem fo8 : FnOk Try.prog 8 Try.f8 := fnOk_of_chk Try.func8 (by kernel_rfl)
theorem fo9 : FnOk Try.prog 9 Try.f9 := fnOk_of_chk Try.func9 (by kernel_rfl)
theorem fo10 : FnOk Try.prog 10 Try.f10 := fnOk_of_chk Try.func10 (by kernel_rfl)
theorem fo11 : FnOk Try.prog 11 Try.f11 := fnOk_of_chk Try.func11 (by kernel_rfl)
theorem fo12 : FnOk Try.prog 12 Try.f12 := fnOk_of_chk Try.func12 (by kernel_rfl)
theorem fo13 : FnOk Try.prog 13 Try.f13 := fnOk_of_chk Try.func13 (by kernel_rfl)
theorem fo14 : FnOk Try.prog 14 Try.f14 := fnOk_of_chk Try.func14 (by kernel_rfl)
theorem fo15 : FnOk Try.prog 15 Try.f15 := fnOk_of_chk Try.func15 (by kernel_rfl)
theorem fo16 : FnOk Try.prog 16 Try.f16 := fnOk_of_chk Try.func16 (by kernel_rfl)
theorem fo17 : FnOk Try.prog 17 Try.f17 := fnOk_of_chk Try.func17 (by kernel_rfl)
theorem fo18 : FnOk Try.prog 18 Try.f18 := fnOk_of_chk Try.func18 (by kernel_rfl)
theorem fo19 : FnOk Try.prog 19 Try.f19 := fnOk_of_chk Try.func19 (by kernel_rfl)
theorem fo20 : FnOk Try.prog 20 Try.f20 := fnOk_of_chk Try.func20 (by kernel_rfl)
theorem fo21 : FnOk Try.prog 21 Try.f21 := fnOk_of_chk Try.func21 (by kernel_rfl)
theorem fo22 : FnOk Try.prog 22 Try.f22 := fnOk_of_chk Try.func22 (by kernel_rfl)
theorem fo23 : FnOk Try.prog 23 Try.f23 := fnOk_of_chk Try.func23 (by kernel_rfl)
theorem fo24 : FnOk Try.prog 24 Try.f24 := fnOk_of_chk Try.func24 (by kernel_rfl)
theorem fo25 : FnOk Try.prog 25 Try.f25 := fnOk_of_chk Try.func25 (by kernel_rfl)
theorem fo26 : FnOk Try.prog 26 Try.f26 := fnOk_of_chk Try.func26 (by kernel_rfl)
theorem fo27 : FnOk Try.prog 27 Try.f27 := fnOk_of_chk Try.func27 (by kernel_rfl)
theorem fo28 : FnOk Try.prog 28 Try.f28 := fnOk_of_chk Try.func28 (by kernel_rfl)
theorem fo29 : FnOk Try.prog 29 Try.f29 := fnOk_of_chk Try.func29 (by kernel_rfl)
theorem fo30 : FnOk Try.prog 30 Try.f30 := fnOk_of_chk Try.func30 (by kernel_rfl)
theorem fo31 : FnOk Try.prog 31 Try.f31 := fnOk_of_chk Try.func31 (by kernel_rfl)
theorem fo32 : FnOk Try.prog 32 Try.f32 := fnOk_of_chk Try.func32 (by kernel_rfl)
theorem fo33 : FnOk Try.prog 33 Try.f33 := fnOk_of_chk Try.func33 (by kernel_rfl)
theorem fo34 : FnOk Try.prog 34 Try.f34 := fnOk_of_chk Try.func34 (by kernel_rfl)
theorem fo35 : FnOk Try.prog 35 Try.f35 := fnOk_of_chk Try.func35 (by kernel_rfl)
theorem fo36 : FnOk Try.prog 36 Try.f36 := fnOk_of_chk Try.func36 (by kernel_rfl)
theorem fo37 : FnOk Try.prog 37 Try.f37 := fnOk_of_chk Try.func37 (by kernel_rfl)
theorem fo38 : FnOk Try.prog 38 Try.f38 := fnOk_of_chk Try.func38 (by kernel_rfl)
theorem fo39 : FnOk Try.prog 39 Try.f39 := fnOk_of_chk Try.func39 (by kernel_rfl)
theorem fo40 : FnOk Try.prog 40 Try.f40 := fnOk_of_chk Try.func40 (by kernel_rfl)
theorem fo41 : FnOk Try.prog 41 Try.f41 := fnOk_of_chk Try.func41 (by kernel_rfl)
theorem fo42 : FnOk Try.prog 42 Try.f42 := fnOk_of_chk Try.func42 (by kernel_rfl)
theorem fo43 : FnOk Try.prog 43 Try.f43 := fnOk_of_chk Try.func43 (by kernel_rfl)
theorem fo44 : FnOk Try.prog 44 Try.f44 := fnOk_of_chk Try.func44 (by kernel_rfl)
theorem fo45 : FnOk Try.prog 45 Try.f45 := fnOk_of_chk Try.func45 (by kernel_rfl)
theorem fo46 : FnOk Try.prog 46 Try.f46 := fnOk_of_chk Try.func46 (by kernel_rfl)
theorem fo47 : FnOk Try.prog 47 Try.f47 := fnOk_of_chk Try.func47 (by kernel_rfl)
theorem fo48 : FnOk Try.prog 48 Try.f48 := fnOk_of_chk Try.func48 (by kernel_rfl)
theorem fo49 : FnOk Try.prog 49 Try.f49 := fnOk_of_chk Try.func49 (by kernel_rfl)
theorem fo50 : FnOk Try.prog 50 Try.f50 := fnOk_of_chk Try.func50 (by kernel_rfl)
theorem fo51 : FnOk Try.prog 51 Try.f51 := fnOk_of_chk Try.func51 (by kernel_rfl)
theorem fo52 : FnOk Try.prog 52 Try.f52 := fnOk_of_chk Try.func52 (by kernel_rfl)
theorem fo53 : FnOk Try.prog 53 Try.f53 := fnOk_of_chk Try.func53 (by kernel_rfl)
theorem fo54 : FnOk Try.prog 54 Try.f54 := fnOk_of_chk Try.func54 (by kernel_rfl)
theorem fo55 : FnOk Try.prog 55 Try.f55 := fnOk_of_chk Try.func55 (by kernel_rfl)
theorem fo56 : FnOk Try.prog 56 Try.f56 := fnOk_of_chk Try.func56 (by kernel_rfl)
theorem fo57 : FnOk Try.prog 57 Try.f57 := fnOk_of_chk Try.func57 (by kernel_rfl)
theorem fo58 : FnOk Try.prog 58 Try.f58 := fnOk_of_chk Try.func58 (by kernel_rfl)
theorem fo59 : FnOk Try.prog 59 Try.f59 := fnOk_of_chk Try.func59 (by kernel_rfl)
theorem fo60 : FnOk Try.prog 60 Try.f60 := fnOk_of_chk Try.func60 (by kernel_rfl)
theorem fo61 : FnOk Try.prog 61 Try.f61 := fnOk_of_chk Try.func61 (by kernel_rfl)
theorem fo62 : FnOk Try.prog 62 Try.f62 := fnOk_of_chk Try.func62 (by kernel_rfl)
theorem fo63 : FnOk Try.prog 63 Try.f63 := fnOk_of_chk Try.func63 (by kernel_rfl)
theorem fo64 : FnOk Try.prog 64 Try.f64 := fnOk_of_chk Try.func64 (by kernel_rfl)
theorem fo65 : FnOk Try.prog 65 Try.f65 := fnOk_of_chk Try.func65 (by kernel_rfl)
theorem fo66 : FnOk Try.prog 66 Try.f66 := fnOk_of_chk Try.func66 (by kernel_rfl)
theorem fo67 : FnOk Try.prog 67 Try.f67 := fnOk_of_chk Try.func67 (by kernel_rfl)
theorem fo68 : FnOk Try.prog 68 Try.f68 := fnOk_of_chk Try.func68 (by kernel_rfl)
theorem fo69 : FnOk Try.prog 69 Try.f69 := fnOk_of_chk Try.func69 (by kernel_rfl)
theorem fo70 : FnOk Try.prog 70 Try.f70 := fnOk_of_chk Try.func70 (by kernel_rfl)
theorem fo71 : FnOk Try.prog 71 Try.f71 := fnOk_of_chk Try.func71 (by kernel_rfl)
theorem fo72 : FnOk Try.prog 72 Try.f72 := fnOk_of_chk Try.func72 (by kernel_rfl)
theorem fo73 : FnOk Try.prog 73 Try.f73 := fnOk_of_chk Try.func73 (by kernel_rfl)
theorem fo74 : FnOk Try.prog 74 Try.f74 := fnOk_of_chk Try.func74 (by kernel_rfl)
theorem fo75 : FnOk Try.prog 75 Try.f75 := fnOk_of_chk Try.func75 (by kernel_rfl)
theorem fo76 : FnOk Try.prog 76 Try.f76 := fnOk_of_chk Try.func76 (by kernel_rfl)
theorem fo77 : FnOk Try.prog 77 Try.f77 := fnOk_of_chk Try.func77 (by kernel_rfl)
theorem fo78 : FnOk Try.prog 78 Try.f78 := fnOk_of_chk Try.func78 (by kernel_rfl)
theorem fo79 : FnOk Try.prog 79 Try.f79 := fnOk_of_chk Try.func79 (by kernel_rfl)
theorem fo80 : FnOk Try.prog 80 Try.f80 := fnOk_of_chk Try.func80 (by kernel_rfl)
theorem fo81 : FnOk Try.prog 81 Try.f81 := fnOk_of_chk Try.func81 (by kernel_rfl)
theorem fo82 : FnOk Try.prog 82 Try.f82 := fnOk_of_chk Try.func82 (by kernel_rfl)
theorem fo83 : FnOk Try.prog 83 Try.f83 := fnOk_of_chk Try.func83 (by kernel_rfl)
theorem fo84 : FnOk Try.prog 84 Try.f84 := fnOk_of_chk Try.func84 (by kernel_rfl)
theorem fo85 : FnOk Try.prog 85 Try.f85 := fnOk_of_chk Try.func85 (by kernel_rfl)
theorem fo86 : FnOk Try.prog 86 Try.f86 := fnOk_of_chk Try.func86 (by kernel_rfl)
theorem fo87 : FnOk Try.prog 87 Try.f87 := fnOk_of_chk Try.func87 (by kernel_rfl)
theorem fo88 : FnOk Try.prog 88 Try.f88 := fnOk_of_chk Try.func88 (by kernel_rfl)
theorem fo89 : FnOk Try.prog 89 Try.f89 := fnOk_of_chk Try.func89 (by kernel_rfl)
theorem fo90 : FnOk Try.prog 90 Try.f90 := fnOk_of_chk Try.func90 (by kernel_rfl)
theorem fo91 : FnOk Try.prog 91 Try.f91 := fnOk_of_chk Try.func91 (by kernel_rfl)
theorem fo92 : FnOk Try.prog 92 Try.f92 := fnOk_of_chk Try.func92 (by kernel_rfl)
theorem fo93 : FnOk Try.prog 93 Try.f93 := fnOk_of_chk Try.func93 (by kernel_rfl)
theorem fo94 : FnOk Try.prog 94 Try.f94 := fnOk_of_chk Try.func94 (by kernel_rfl)
theorem fo95 : FnOk Try.prog 95 Try.f95 := fnOk_of_chk Try.func95 (by kernel_rfl)
theorem fo96 : FnOk Try.prog 96 Try.f96 := fnOk_of_chk Try.func96 (by kernel_rfl)
theorem fo97 : FnOk Try.prog 97 Try.f97 := fnOk_of_chk Try.func97 (by kernel_rfl)
theorem fo98 : FnOk Try.prog 98 Try.f98 := fnOk_of_chk Try.func98 (by kernel_rfl)
theorem fo99 : FnOk Try.prog 99 Try.f99 := fnOk_of_chk Try.func99 (by kernel_rfl)
theorem fo100 : FnOk Try.prog 100 Try.f100 := fnOk_of_chk Try.func100 (by kernel_rfl)
theorem fo101 : FnOk Try.prog 101 Try.f101 := fnOk_of_chk Try.func101 (by kernel_rfl)
theorem fo102 : FnOk Try.prog 102 Try.f102 := fnOk_of_chk Try.func102 (by kernel_rfl)
theorem fo103 : FnOk Try.prog 103 Try.f103 := fnOk_of_chk Try.func103 (by kernel_rfl)
theorem fo104 : FnOk Try.prog 104 Try.f104 := fnOk_of_chk Try.func104 (by kernel_rfl)
theorem fo105 : FnOk Try.prog 105 Try.f105 := fnOk_of_chk Try.func105 (by kernel_rfl)
theorem fo106 : FnOk Try.prog 106 Try.f106 := fnOk_of_chk Try.func106 (by kernel_rfl)
theorem fo107 : FnOk Try.prog 107 Try.f107 := fnOk_of_chk Try.func107 (by kernel_rfl)
theorem fo108 : FnOk Try.prog 108 Try.f108 := fnOk_of_chk Try.func108 (by kernel_rfl)
theorem fo109 : FnOk Try.prog 109 Try.f109 := fnOk_of_chk Try.func109 (by kernel_rfl)
theorem fo110 : FnOk Try.prog 110 Try.f110 := fnOk_of_chk Try.func110 (by kernel_rfl)
theorem fo111 : FnOk Try.prog 111 Try.f111 := fnOk_of_chk Try.func111 (by kernel_rfl)
theorem fo112 : FnOk Try.prog 112 Try.f112 := fnOk_of_chk Try.func112 (by kernel_rfl)
theorem fo113 : FnOk Try.prog 113 Try.f113 := fnOk_of_chk Try.func113 (by kernel_rfl)
theorem fo114 : FnOk Try.prog 114 Try.f114 := fnOk_of_chk Try.func114 (by kernel_rfl)
theorem fo115 : FnOk Try.prog 115 Try.f115 := fnOk_of_chk Try.func115 (by kernel_rfl)
theorem fo116 : FnOk Try.prog 116 Try.f116 := fnOk_of_chk Try.func116 (by kernel_rfl)
theorem fo117 : FnOk Try.prog 117 Try.f117 := fnOk_of_chk Try.func117 (by kernel_rfl)
theorem fo118 : FnOk Try.prog 118 Try.f118 := fnOk_of_chk Try.func118 (by kernel_rfl)
theorem fo119 : FnOk Try.prog 119 Try.f119 := fnOk_of_chk Try.func119 (by kernel_rfl)
theorem fo120 : FnOk Try.prog 120 Try.f120 := fnOk_of_chk Try.func120 (by kernel_rfl)
theorem fo121 : FnOk Try.prog 121 Try.f121 := fnOk_of_chk Try.func121 (by kernel_rfl)
theorem fo122 : FnOk Try.prog 122 Try.f122 := fnOk_of_chk Try.func122 (by kernel_rfl)
theorem fo123 : FnOk Try.prog 123 Try.f123 := fnOk_of_chk Try.func123 (by kernel_rfl)
theorem fo124 : FnOk Try.prog 124 Try.f124 := fnOk_of_chk Try.func124 (by kernel_rfl)
theorem fo125 : FnOk Try.prog 125 Try.f125 := fnOk_of_chk Try.func125 (by kernel_rfl)
theorem fo126 : FnOk Try.prog 126 Try.f126 := fnOk_of_chk Try.func126 (by kernel_rfl)
theorem fo127 : FnOk Try.prog 127 Try.f127 := fnOk_of_chk Try.func127 (by kernel_rfl)
theorem fo128 : FnOk Try.prog 128 Try.f128 := fnOk_of_chk Try.func128 (by kernel_rfl)
theorem fo129 : FnOk Try.prog 129 Try.f129 := fnOk_of_chk Try.func129 (by kernel_rfl)
theorem fo130 : FnOk Try.prog 130 Try.f130 := fnOk_of_chk Try.func130 (by kernel_rfl)
theorem fo131 : FnOk Try.prog 131 Try.f131 := fnOk_of_chk Try.func131 (by kernel_rfl)
theorem fo132 : FnOk Try.prog 132 Try.f132 := fnOk_of_chk Try.func132 (by kernel_rfl)
theorem fo133 : FnOk Try.prog 133 Try.f133 := fnOk_of_chk Try.func133 (by kernel_rfl)
theorem fo134 : FnOk Try.prog 134 Try.f134 := fnOk_of_chk Try.func134 (by kernel_rfl)
theorem fo135 : FnOk Try.prog 135 Try.f135 := fnOk_of_chk Try.func135 (by kernel_rfl)
theorem fo136 : FnOk Try.prog 136 Try.f136 := fnOk_of_chk Try.func136 (by kernel_rfl)
theorem fo137 : FnOk Try.prog 137 Try.f137 := fnOk_of_chk Try.func137 (by kernel_rfl)
theorem fo138 : FnOk Try.prog 138 Try.f138 := fnOk_of_chk Try.func138 (by kernel_rfl)
theorem fo139 : FnOk Try.prog 139 Try.f139 := fnOk_of_chk Try.func139 (by kernel_rfl)
theorem fo140 : FnOk Try.prog 140 Try.f140 := fnOk_of_chk Try.func140 (by kernel_rfl)
theorem fo141 : FnOk Try.prog 141 Try.f141 := fnOk_of_chk Try.func141 (by kernel_rfl)
theorem fo142 : FnOk Try.prog 142 Try.f142 := fnOk_of_chk Try.func142 (by kernel_rfl)
theorem fo143 : FnOk Try.prog 143 Try.f143 := fnOk_of_chk Try.func143 (by kernel_rfl)
theorem fo144 : FnOk Try.prog 144 Try.f144 := fnOk_of_chk Try.func144 (by kernel_rfl)
theorem fo145 : FnOk Try.prog 145 Try.f145 := fnOk_of_chk Try.func145 (by kernel_rfl)
theorem fo146 : FnOk Try.prog 146 Try.f146 := fnOk_of_chk Try.func146 (by kernel_rfl)
theorem fo147 : FnOk Try.prog 147 Try.f147 := fnOk_of_chk Try.func147 (by kernel_rfl)
theorem fo148 : FnOk Try.prog 148 Try.f148 := fnOk_of_chk Try.func148 (by kernel_rfl)
theorem fo149 : FnOk Try.prog 149 Try.f149 := fnOk_of_chk Try.func149 (by kernel_rfl)
theorem fo150 : FnOk Try.prog 150 Try.f150 := fnOk_of_chk Try.func150 (by kernel_rfl)
theorem fo151 : FnOk Try.prog 151 Try.f151 := fnOk_of_chk Try.func151 (by kernel_rfl)
theorem fo152 : FnOk Try.prog 152 Try.f152 := fnOk_of_chk Try.func152 (by kernel_rfl)
theorem fo153 : FnOk Try.prog 153 Try.f153 := fnOk_of_chk Try.func153 (by kernel_rfl)
theorem fo154 : FnOk Try.prog 154 Try.f154 := fnOk_of_chk Try.func154 (by kernel_rfl)
theorem fo155 : FnOk Try.prog 155 Try.f155 := fnOk_of_chk Try.func155 (by kernel_rfl)
theorem fo156 : FnOk Try.prog 156 Try.f156 := fnOk_of_chk Try.func156 (by kernel_rfl)
theorem fo157 : FnOk Try.prog 157 Try.f157 := fnOk_of_chk Try.func157 (by kernel_rfl)
theorem fo158 : FnOk Try.prog 158 Try.f158 := fnOk_of_chk Try.func158 (by kernel_rfl)
theorem fo159 : FnOk Try.prog 159 Try.f159 := fnOk_of_chk Try.func159 (by kernel_rfl)
theorem fo160 : FnOk Try.prog 160 Try.f160 := fnOk_of_chk Try.func160 (by kernel_rfl)
theorem fo161 : FnOk Try.prog 161 Try.f161 := fnOk_of_chk Try.func161 (by kernel_rfl)
theorem fo162 : FnOk Try.prog 162 Try.f162 := fnOk_of_chk Try.func162 (by kernel_rfl)
theorem fo163 : FnOk Try.prog 163 Try.f163 := fnOk_of_chk Try.func163 (by kernel_rfl)
theorem fo164 : FnOk Try.prog 164 Try.f164 := fnOk_of_chk Try.func164 (by kernel_rfl)
theorem fo165 : FnOk Try.prog 165 Try.f165 := fnOk_of_chk Try.func165 (by kernel_rfl)
theorem fo166 : FnOk Try.prog 166 Try.f166 := fnOk_of_chk Try.func166 (by kernel_rfl)
theorem fo167 : FnOk Try.prog 167 Try.f167 := fnOk_of_chk Try.func167 (by kernel_rfl)
theorem fo168 : FnOk Try.prog 168 Try.f168 := fnOk_of_chk Try.func168 (by kernel_rfl)
theorem fo169 : FnOk Try.prog 169 Try.f169 := fnOk_of_chk Try.func169 (by kernel_rfl)
theorem fo170 : FnOk Try.prog 170 Try.f170 := fnOk_of_chk Try.func170 (by kernel_rfl)
theorem fo186 : FnOk Try.prog 186 Try.f186 := fnOk_of_chk Try.func186 (by kernel_rfl)
theorem fo187 : FnOk Try.prog 187 Try.f187 := fnOk_of_chk Try.func187 (by kernel_rfl)
theorem fo188 : FnOk Try.prog 188 Try.f188 := fnOk_of_chk Try.func188 (by kernel_rfl)
theorem tabOk {Y : XVai.Sys} {n : Nat} {ti : TI} (h : tab n = some ti) : TyOk Try.prog Y n ti := treeN h (fun h => treeN h (fun h => treeN h (fun h => treeN h (fun h => treeN h (fun h => treeL h (ty2)) (fun h => treeN h (fun h => treeL h (ty3)) (fun h => treeL h (ty4)))) (fun h => treeN h (fun h => treeN h (fun h => treeL h (ty5)) (fun h => treeL h (ty9))) (fun h => treeN h (fun h => treeL h (ty12)) (fun h => treeL h (ty13))))) (fun h => treeN h (fun h => treeN h (fun h => treeL h (ty21)) (fun h => treeN h (fun h => treeL h (ty22)) (fun h => treeL h (ty23)))) (fun h => treeN h (fun h => treeN h (fun h => treeL h (ty24)) (fun h => treeL h (ty25))) (fun h => treeN h (fun h => treeL h (ty26)) (fun h => treeL h (ty29)))))) (fun h => treeN h (fun h => treeN h (fun h => treeN h (fun h => treeL h (ty33)) (fun h => treeN h (fun h => treeL h (ty38)) (fun h => treeL h (ty39)))) (fun h => treeN h (fun h => treeN h (fun h => treeL h (ty40)) (fun h => treeL h (ty41))) (fun h => treeN h (fun h => treeL h (ty50)) (fun h => treeL h (ty51))))) (fun h => treeN h (fun h => treeN h (fun h => treeL h (ty52)) (fun h => treeN h (fun h => treeL h (ty54)) (fun h => treeL h (ty60)))) (fun h => treeN h (fun h => treeN h (fun h => treeL h (ty61)) (fun h => treeL h (ty64))) (fun h => treeN h (fun h => treeL h (ty72)) (fun h => treeL h (ty73))))))) (fun h => treeN h (fun h => treeN h (fun h => treeN h (fun h => treeN h (fun h => treeL h (ty76)) (fun h => treeN h (fun h => treeL h (ty77)) (fun h => treeL h (ty79)))) (fun h => treeN h (fun h => treeN h (fun h => treeL h (ty80)) (fun h => treeL h (ty81))) (fun h => treeN h (fun h => treeL h (ty82)) (fun h => treeL h (ty90))))) (fun h => treeN h (fun h => treeN h (fun h => treeL h (ty91)) (fun h => treeN h (fun h => treeL h (ty99)) (fun h => treeL h (ty101)))) (fun h => treeN h (fun h => treeN h (fun h => treeL h (ty102)) (fun h => treeL h (ty110))) (fun h => treeN h (fun h => treeL h (ty114)) (fun h => treeL h (ty115)))))) (fun h => treeN h (fun h => treeN h (fun h => treeN h (fun h => treeL h (ty139)) (fun h => treeN h (fun h => treeL h (ty150)) (fun h => treeL h (ty155)))) (fun h => treeN h (fun h => treeN h (fun h => treeL h (ty156)) (fun h => treeL h (ty157))) (fun h => treeN h (fun h => treeL h (ty158)) (fun h => treeL h (ty160))))) (fun h => treeN h (fun h => treeN h (fun h => treeN h (fun h => treeL h (ty167)) (fun h => treeL h (ty168))) (fun h => treeN h (fun h => treeL h (ty172)) (fun h => treeL h (ty173)))) (fun h => treeN h (fun h => treeN h (fun h => treeL h (ty176)) (fun h => treeL h (ty177))) (fun h => treeN h (fun h => treeL h (ty187)) (fun h => treeL h (ty191)))))))
theorem hF : ∀ f fn, Y.fn f = some fn → FnOk Try.prog f fn := fun n fn h => treeN h (fun h => treeN h (fun h => treeN h (fun h => treeN h (fun h => treeN h (fun h => treeN h (fun h => treeN h (fun h => treeL h (fo3)) (fun h => treeL h (fo4))) (fun h => treeN h (fun h => treeL h (fo5)) (fun h => treeN h (fun h => treeL h (fo6)) (fun h => treeL h (fo7))))) (fun h => treeN h (fun h => treeN h (fun h => treeL h (fo8)) (fun h => treeL h (fo9))) (fun h => treeN h (fun h => treeL h (fo10)) (fun h => treeN h (fun h => treeL h (fo11)) (fun h => treeL h (fo12)))))) (fun h => treeN h (fun h => treeN h (fun h => treeN h (fun h => treeL h (fo13)) (fun h => treeL h (fo14))) (fun h => treeN h (fun h => treeL h (fo15)) (fun h => treeN h (fun h => treeL h (fo16)) (fun h => treeL h (fo17))))) (fun h => treeN h (fun h => treeN h (fun h => treeL h (fo18)) (fun h => treeN h (fun h => treeL h (fo19)) (fun h => treeL h (fo20)))) (fun h => treeN h (fun h => treeL h (fo21)) (fun h => treeN h (fun h => treeL h (fo22)) (fun h => treeL h (fo23))))))) (fun h => treeN h (fun h => treeN h (fun h => treeN h (fun h => treeN h (fun h => treeL h (fo24)) (fun h => treeL h (fo25))) (fun h => treeN h (fun h => treeL h (fo26)) (fun h => treeN h (fun h => treeL h (fo27)) (fun h => treeL h (fo28))))) (fun h => treeN h (fun h => treeN h (fun h => treeL h (fo29)) (fun h => treeL h (fo30))) (fun h => treeN h (fun h => treeL h (fo31)) (fun h => treeN h (fun h => treeL h (fo32)) (fun h => treeL h (fo33)))))) (fun h => treeN h (fun h => treeN h (fun h => treeN h (fun h => treeL h (fo34)) (fun h => treeL h (fo35))) (fun h => treeN h (fun h => treeL h (fo36)) (fun h => treeN h (fun h => treeL h (fo37)) (fun h => treeL h (fo38))))) (fun h => treeN h (fun h => treeN h (fun h => treeL h (fo39)) (fun h => treeN h (fun h => treeL h (fo40)) (fun h => treeL h (fo41)))) (fun h => treeN h (fun h => treeL h (fo42)) (fun h => treeN h (fun h => treeL h (fo43)) (fun h => treeL h (fo44)))))))) (fun h => treeN h (fun h => treeN h (fun h => treeN h (fun h => treeN h (fun h => treeN h (fun h => treeL h (fo45)) (fun h => treeL h (fo46))) (fun h => treeN h (fun h => treeL h (fo47)) (fun h => treeN h (fun h => treeL h (fo48)) (fun h => treeL h (fo49))))) (fun h => treeN h (fun h => treeN h (fun h => treeL h (fo50)) (fun h => treeL h (fo51))) (fun h => treeN h (fun h => treeL h (fo52)) (fun h => treeN h (fun h => treeL h (fo53)) (fun h => treeL h (fo54)))))) (fun h => treeN h (fun h => treeN h (fun h => treeN h (fun h => treeL h (fo55)) (fun h => treeL h (fo56))) (fun h => treeN h (fun h => treeL h (fo57)) (fun h => treeN h (fun h => treeL h (fo58)) (fun h => treeL h (fo59))))) (fun h => treeN h (fun h => treeN h (fun h => treeL h (fo60)) (fun h => treeN h (fun h => treeL h (fo61)) (fun h => treeL h (fo62)))) (fun h => treeN h (fun h => treeL h (fo63)) (fun h => treeN h (fun h => treeL h (fo64)) (fun h => treeL h (fo65))))))) (fun h => treeN h (fun h => treeN h (fun h => treeN h (fun h => treeN h (fun h => treeL h (fo66)) (fun h => treeL h (fo67))) (fun h => treeN h (fun h => treeL h (fo68)) (fun h => treeN h (fun h => treeL h (fo69)) (fun h => treeL h (fo70))))) (fun h => treeN h (fun h => treeN h (fun h => treeL h (fo71)) (fun h => treeN h (fun h => treeL h (fo72)) (fun h => treeL h (fo73)))) (fun h => treeN h (fun h => treeL h (fo74)) (fun h => treeN h (fun h => treeL h (fo75)) (fun h => treeL h (fo76)))))) (fun h => treeN h (fun h => treeN h (fun h => treeN h (fun h => treeL h (fo77)) (fun h => treeL h (fo78))) (fun h => treeN h (fun h => treeL h (fo79)) (fun h => treeN h (fun h => treeL h (fo80)) (fun h => treeL h (fo81))))) (fun h => treeN h (fun h => treeN h (fun h => treeL h (fo82)) (fun h => treeN h (fun h => treeL h (fo83)) (fun h => treeL h (fo84)))) (fun h => treeN h (fun h => treeL h (fo85)) (fun h => treeN h (fun h => treeL h (fo86)) (fun h => treeL h (fo87))))))))) (fun h => treeN h (fun h => treeN h (fun h => treeN h (fun h => treeN h (fun h => treeN h (fun h => treeN h (fun h => treeL h (fo88)) (fun h => treeL h (fo89))) (fun h => treeN h (fun h => treeL h (fo90)) (fun h => treeN h (fun h => treeL h (fo91)) (fun h => treeL h (fo92))))) (fun h => treeN h (fun h => treeN h (fun h => treeL h (fo93)) (fun h => treeL h (fo94))) (fun h => treeN h (fun h => treeL h (fo95)) (fun h => treeN h (fun h => treeL h (fo96)) (fun h => treeL h (fo97)))))) (fun h => treeN h (fun h => treeN h (fun h => treeN h (fun h => treeL h (fo98)) (fun h => treeL h (fo99))) (fun h => treeN h (fun h => treeL h (fo100)) (fun h => treeN h (fun h => treeL h (fo101)) (fun h => treeL h (fo102))))) (fun h => treeN h (fun h => treeN h (fun h => treeL h (fo103)) (fun h => treeN h (fun h => treeL h (fo104)) (fun h => treeL h (fo105)))) (fun h => treeN h (fun h => treeL h (fo106)) (fun h => treeN h (fun h => treeL h (fo107)) (fun h => treeL h (fo108))))))) (fun h => treeN h (fun h => treeN h (fun h => treeN h (fun h => treeN h (fun h => treeL h (fo109)) (fun h => treeL h (fo110))) (fun h => treeN h (fun h => treeL h (fo111)) (fun h => treeN h (fun h => treeL h (fo112)) (fun h => treeL h (fo113))))) (fun h => treeN h (fun h => treeN h (fun h => treeL h (fo114)) (fun h => treeN h (fun h => treeL h (fo115)) (fun h => treeL h (fo116)))) (fun h => treeN h (fun h => treeL h (fo117)) (fun h => treeN h (fun h => treeL h (fo118)) (fun h => treeL h (fo119)))))) (fun h => treeN h (fun h => treeN h (fun h => treeN h (fun h => treeL h (fo120)) (fun h => treeL h (fo121))) (fun h => treeN h (fun h => treeL h (fo122)) (fun h => treeN h (fun h => treeL h (fo123)) (fun h => treeL h (fo124))))) (fun h => treeN h (fun h => treeN h (fun h => treeL h (fo125)) (fun h => treeN h (fun h => treeL h (fo126)) (fun h => treeL h (fo127)))) (fun h => treeN h (fun h => treeL h (fo128)) (fun h => treeN h (fun h => treeL h (fo129)) (fun h => treeL h (fo130)))))))) (fun h => treeN h (fun h => treeN h (fun h => treeN h (fun h => treeN h (fun h => treeN h (fun h => treeL h (fo131)) (fun h => treeL h (fo132))) (fun h => treeN h (fun h => treeL h (fo133)) (fun h => treeN h (fun h => treeL h (fo134)) (fun h => treeL h (fo135))))) (fun h => treeN h (fun h => treeN h (fun h => treeL h (fo136)) (fun h => treeL h (fo137))) (fun h => treeN h (fun h => treeL h (fo138)) (fun h => treeN h (fun h => treeL h (fo139)) (fun h => treeL h (fo140)))))) (fun h => treeN h (fun h => treeN h (fun h => treeN h (fun h => treeL h (fo141)) (fun h => treeL h (fo142))) (fun h => treeN h (fun h => treeL h (fo143)) (fun h => treeN h (fun h => treeL h (fo144)) (fun h => treeL h (fo145))))) (fun h => treeN h (fun h => treeN h (fun h => treeL h (fo146)) (fun h => treeN h (fun h => treeL h (fo147)) (fun h => treeL h (fo148)))) (fun h => treeN h (fun h => treeL h (fo149)) (fun h => treeN h (fun h => treeL h (fo150)) (fun h => treeL h (fo151))))))) (fun h => treeN h (fun h => treeN h (fun h => treeN h (fun h => treeN h (fun h => treeL h (fo152)) (fun h => treeL h (fo153))) (fun h => treeN h (fun h => treeL h (fo154)) (fun h => treeN h (fun h => treeL h (fo155)) (fun h => treeL h (fo156))))) (fun h => treeN h (fun h => treeN h (fun h => treeL h (fo157)) (fun h => treeN h (fun h => treeL h (fo158)) (fun h => treeL h (fo159)))) (fun h => treeN h (fun h => treeL h (fo160)) (fun h => treeN h (fun h => treeL h (fo161)) (fun h => treeL h (fo162)))))) (fun h => treeN h (fun h => treeN h (fun h => treeN h (fun h => treeL h (fo163)) (fun h => treeL h (fo164))) (fun h => treeN h (fun h => treeL h (fo165)) (fun h => treeN h (fun h => treeL h (fo166)) (fun h => treeL h (fo167))))) (fun h => treeN h (fun h => treeN h (fun h => treeL h (fo168)) (fun h => treeN h (fun h => treeL h (fo169)) (fun h => treeL h (fo170)))) (fun h => treeN h (fun h => treeL h (fo186)) (fun h => treeN h (fun h => treeL h (fo187)) (fun h => treeL h (fo188)))))))))
theorem hY : SysOk Y Try.prog where
  tab := fun t ti h => tabOk h
  mixed := Checked.mixed Try.checked
end Go.Proofs.XN
end
section
namespace Go.Proofs.X
open Go Go.Proofs.XVai Go.Proofs Go.Proofs.XN
set_option linter.unusedVariables false
set_option linter.unusedSimpArgs false

abbrev I (n : Int) : HV := .int .i64 n
abbrev irow (x : Int) : List HV := [.int .i64 x]
abbrev L (xs : List Int) : HV := .lst (xs.map irow)
abbrev BL (xs : List Bool) : HV := .lst (xs.map fun x => [.bool x])
theorem i64_id {n : Int} (h0 : -9223372036854775808 ≤ n) (h1 : n ≤ 9223372036854775807) : IntKind.i64.wrap n = n := by rw [IntKind.wrap_i64]; omega
theorem maxLen_eq : maxLen = 9223372036854775807 := rfl
structure Lab where
  k : Int
  t : Int
  deriving DecidableEq
structure Vl where
  kind : Int
  a : Int
  b : Int
  deriving DecidableEq
inductive Stps where
  | nil
  | cons (kind var : Int) (val : Vl) (host : Int) (thn els rest : Stps)
  deriving DecidableEq
abbrev lrow (l : Lab) : List HV := [I l.k, I l.t]
abbrev LS (ls : List Lab) : HV := .lst (ls.map lrow)
abbrev vrow (x : Vl) : List HV := [I x.kind, I x.a, I x.b]
def Stps.rows : Stps → List (List HV)
  | .nil => []
  | .cons k v x h t e r => [I k, I v, I x.kind, I x.a, I x.b, I h, .lst t.rows, .lst e.rows] :: r.rows
abbrev srow (k v : Int) (x : Vl) (h : Int) (t e : Stps) : List HV := [I k, I v, I x.kind, I x.a, I x.b, I h, .lst t.rows, .lst e.rows]
abbrev PR (ls : List Lab) (ss : Stps) : HV := .agg [LS ls, .lst ss.rows]
/-- How many steps there are, with all in them. -/
def Stps.sz : Stps → Nat
  | .nil => 0
  | .cons _ _ _ _ t e r => 1 + t.sz + e.sz + r.sz
def Stps.len : Stps → Nat
  | .nil => 0
  | .cons _ _ _ _ _ _ r => r.len + 1
theorem Stps.rows_len : ∀ l : Stps, l.rows.length = l.len
  | .nil => rfl
  | .cons _ _ _ _ _ _ r => by simp [Stps.rows, Stps.len, Stps.rows_len r]
theorem Stps.len_sz : ∀ l : Stps, l.len ≤ l.sz
  | .nil => Nat.le_refl _
  | .cons _ _ _ _ t e r => by have := Stps.len_sz r; simp [Stps.len, Stps.sz]; omega
theorem Stps.rows_pure : ∀ l : Stps, l.rows.all (fun r => r.all pureC) = true
  | .nil => rfl
  | .cons _ _ _ _ t e r => by rw [Stps.rows, List.all_cons, Stps.rows_pure r]; rfl
theorem Stps.rows_eight : ∀ l : Stps, l.rows.all (fun r => r.length == 8) = true
  | .nil => rfl
  | .cons _ _ _ _ t e r => by rw [Stps.rows, List.all_cons, Stps.rows_eight r]; rfl
theorem lrow_pure (l : List Lab) : (l.map lrow).all (fun r => r.all pureC) = true := by simp [pureC]
theorem irow_pure (l : List Int) : (l.map irow).all (fun r => r.all pureC) = true := by simp [pureC]
theorem brow_pure (l : List Bool) : (l.map fun x => [HV.bool x]).all (fun r => r.all pureC) = true := by simp [pureC]

theorem mid {α : Type} {xs pre r : List α} {x : α} (h : xs = pre ++ x :: r) : xs[pre.length]? = some x := by
  rw [h, List.getElem?_append_right (Nat.le_refl _)]; simp
theorem mid_lt {α : Type} {xs pre r : List α} {x : α} (h : xs = pre ++ x :: r) : pre.length < xs.length := by
  rw [h]; simp
theorem inc {α : Type} {pre : List α} {x : α} (h : pre.length < 9223372036854775807) : HV.int .i64 (IntKind.i64.wrap ((pre.length : Int) + 1)) = I ((pre ++ [x]).length : Nat) := by
  rw [i64_id (by omega) (by omega)]; simp

section
variable {Y : XVai.Sys} {fid : Nat} {T : Tm} {S : St} {Q : Ex → Tm → St → Prop} {b : Code}
/-- A loop over a list, by what holds ahead of the part that is left. -/
theorem C_list {α : Type} (xs : List α) (J : List α → List α → Tm → St → Prop) (h0 : J [] xs T S)
    (hs : ∀ pre x r T S, xs = pre ++ x :: r → J pre (x :: r) T S → CW Y fid b T S (Th (fun T' S' => J (pre ++ [x]) r T' S') Q))
    (he : ∀ T S, J xs [] T S → CW Y fid b T S (Th (fun _ _ => False) Q)) : CW Y fid (.loop b) T S Q := by
  refine C_loop (fun n T S => ∃ pre r, xs = pre ++ r ∧ n = r.length ∧ J pre r T S) xs.length ⟨[], xs, rfl, rfl, h0⟩ ?_
  rintro n T S ⟨pre, r, hx, rfl, hJ⟩
  cases r with
  | nil =>
    simp only [List.append_nil] at hx
    subst hx
    refine CW_mono (he T S hJ) fun ex T' S' h => ⟨?_⟩
    have := h.of
    cases ex with
    | norm => exact absurd this id
    | exit i => exact this
    | ret => exact this
  | cons x r =>
    refine CW_mono (hs pre x r T S hx hJ) fun ex T' S' h => ⟨?_⟩
    have := h.of
    cases ex with
    | norm => exact ⟨r.length, by simp, pre ++ [x], r, by rw [hx]; simp, rfl, this⟩
    | exit i => exact this
    | ret => exact this
/-- A loop over steps. -/
theorem C_stps (l : Stps) (J : List (List HV) → Stps → Tm → St → Prop) (h0 : J [] l T S)
    (hs : ∀ pre k v x h t e r T S, l.rows = pre ++ srow k v x h t e :: r.rows → 1 + t.sz + e.sz + r.sz ≤ l.sz → J pre (.cons k v x h t e r) T S → CW Y fid b T S (Th (fun T' S' => J (pre ++ [srow k v x h t e]) r T' S') Q))
    (he : ∀ pre T S, l.rows = pre → J pre .nil T S → CW Y fid b T S (Th (fun _ _ => False) Q)) : CW Y fid (.loop b) T S Q := by
  refine C_loop (fun n T S => ∃ pre r, l.rows = pre ++ Stps.rows r ∧ n = r.len ∧ r.sz ≤ l.sz ∧ J pre r T S) l.len ⟨[], l, rfl, rfl, Nat.le_refl _, h0⟩ ?_
  rintro n T S ⟨pre, r, hx, rfl, hz, hJ⟩
  cases r with
  | nil =>
    simp only [Stps.rows, List.append_nil] at hx
    refine CW_mono (he pre T S hx hJ) fun ex T' S' h => ⟨?_⟩
    have := h.of
    cases ex with
    | norm => exact absurd this id
    | exit i => exact this
    | ret => exact this
  | cons k v x h t e r =>
    simp only [Stps.sz] at hz
    refine CW_mono (hs pre k v x h t e r T S hx hz hJ) fun ex T' S' h => ⟨?_⟩
    have := h.of
    cases ex with
    | norm => exact ⟨r.len, by simp [Stps.len], _, r, by rw [hx]; simp [Stps.rows], rfl, by omega, this⟩
    | exit i => exact this
    | ret => exact this
/-! ### states that go on from another one -/
def Ext (S S1 : St) : Prop := ∃ J, S1 = S ++ J
theorem ex0 {S L : St} : Ext S (S ++ L) := ⟨L, rfl⟩
theorem ex1 {S S1 L : St} (h : Ext S S1) : Ext S (S1 ++ L) := by obtain ⟨J, rfl⟩ := h; exact ⟨J ++ L, by rw [List.append_assoc]⟩
theorem ex2 {S S1 : St} {k : Nat} {o : Ob} (h : Ext S S1) (hk : S.length ≤ k) : Ext S (S1.set k o) := by
  obtain ⟨J, rfl⟩ := h
  exact ⟨J.set (k - S.length) o, by rw [List.set_append_right _ _ hk]⟩
section
variable {Y : XVai.Sys} {f : Nat} {fn : Func} {T' : Tm} {S0 S1 L : St}
theorem rIx (hE : Ext S0 S1) {k : IntKind} {n m : Int} (hkp : Y.keep f = false := by rfl) (hr : resVs Y T' (S1 ++ L) fn.results.toList = some [.int k n] := by rfl) (hv : n = m) : RT Y f fn S0 (.int k m) S0 .ret T' (S1 ++ L) := by
  obtain ⟨J, rfl⟩ := hE
  rw [List.append_assoc] at hr ⊢
  exact rI hkp hr hv
theorem rBx (hE : Ext S0 S1) {n m : Bool} (hkp : Y.keep f = false := by rfl) (hr : resVs Y T' (S1 ++ L) fn.results.toList = some [.bool n] := by rfl) (hv : n = m) : RT Y f fn S0 (.bool m) S0 .ret T' (S1 ++ L) := by
  obtain ⟨J, rfl⟩ := hE
  rw [List.append_assoc] at hr ⊢
  exact rB hkp hr hv
/-- A value that holds no row of one's own. -/
theorem rVx (hE : Ext S0 S1) {vs : List HV} {v v' : HV} (hkp : Y.keep f = false := by rfl) (hr : resVs Y T' (S1 ++ L) fn.results.toList = some vs := by rfl) (hz : ∀ S, frzR S0.length (resTup vs) S = some (v, S) := by exact fun _ => rfl) (hi : idR S0.length v = true := by rfl) (hv : v = v' := by rfl) : RT Y f fn S0 v' S0 .ret T' (S1 ++ L) := by
  obtain ⟨J, rfl⟩ := hE
  rw [List.append_assoc] at hr ⊢
  exact rV hkp hr (hz _) hi hv
/-- A row of one's own. -/
theorem rLx (hE : Ext S0 S1) {k n : Nat} {fr : Bool} {rows rows' : List (List HV)} (hkp : Y.keep f = false := by rfl) (hr : resVs Y T' (S1 ++ L) fn.results.toList = some [.sl k n] := by rfl) (hk : S0.length ≤ k := by exact Nat.le_add_right _ _)
    (hL : (S1 ++ L)[k]? = some (.cells fr rows) := by first | exact get_old (by assumption) | exact get_set (by assumption) | exact get_own rfl) (hn : rows.length = n := by first | rfl | assumption) (hp : rows.all (fun r => r.all pureC) = true) (hv : rows = rows') : RT Y f fn S0 (.lst rows') S0 .ret T' (S1 ++ L) := by
  obtain ⟨J, rfl⟩ := hE
  rw [List.append_assoc] at hr hL ⊢
  obtain ⟨j, rfl⟩ : ∃ j, k = S0.length + j := ⟨k - S0.length, by omega⟩
  rw [List.getElem?_append_right (by omega)] at hL
  exact rL hkp hr (by simpa using hL) hn hp hv
end
end
end Go.Proofs.X
end
section
namespace Go.Proofs.X
open Go Go.Proofs.XVai Go.Proofs Go.Proofs.XN
set_option linter.unusedVariables false
set_option linter.unusedSimpArgs false

theorem k_spec_l1All (S : St) : Ev Y spec_l1All [] S (I 7) S := by
  refine E_start (h := ?_)
  repeat' (first | refine c0 ?_ | refine c7 ?_ | refine d2 ?_ | refine c9 ?_ | refine d4 ?_ | refine a5 (hk := ?_))
  exact rI (hv := rfl)
def inB (a lo hi : Int) : Bool := decide (lo ≤ a ∧ a ≤ hi)
theorem k_spec_l6In (a lo hi : Int) (S : St) : Ev Y spec_l6In [I a, I lo, I hi] S (.bool (inB a lo hi)) S := by
  refine E_start (h := ?_)
  repeat' (first | refine c0 ?_ | refine c7 ?_ | refine d2 ?_ | refine c9 ?_ | refine d4 ?_ | refine a0 (hk := ?_) | refine a3 (ht := ?_) (hf := ?_) | refine a5 (hk := ?_) | (with_reducible intro hc))
  all_goals (refine rB (hv := ?_); simp_all [inB] <;> omega)
def setB (a : Int) : Bool := inB a 0 7
theorem k_spec_l1Set (a : Int) (S : St) : Ev Y spec_l1Set [I a] S (.bool (setB a)) S := by
  refine E_start (h := ?_)
  repeat' (first | refine c0 ?_ | refine c7 ?_ | refine d2 ?_ | refine c9 ?_ | refine d4 ?_ | refine k0 (he := (by first | exact k_spec_l1All _ | exact k_spec_l6In _ _ _ _)) (hk := ?_) | refine a5 (hk := ?_))
  all_goals (refine rB (hv := ?_); rfl)
def labOk (l : Lab) : Bool := setB l.k && setB l.t
theorem k_spec_LabelOk (l : Lab) (S : St) : Ev Y spec_LabelOk [.agg (lrow l)] S (.bool (labOk l)) S := by
  refine E_start (h := ?_)
  repeat' (first | refine c0 ?_ | refine c7 ?_ | refine d2 ?_ | refine c9 ?_ | refine d4 ?_ | refine a0 (hk := ?_) | refine k0 (he := (by first | exact k_spec_l1Set _ _)) (hk := ?_) | refine b1 (hk := ?_) | refine a4 (ht := ?_) (hf := ?_) | refine a5 (hk := ?_) | refine b5 (hk := ?_) | (with_reducible intro hc))
  all_goals (refine rB (hv := ?_); simp_all [labOk])
def hasG (a i : Int) : Bool := decide (0 ≤ i ∧ i < 3) && ((a.fdiv (2 ^ (min i.toNat 64))).tmod 2 == 1)
theorem k_spec_l1Has (a i : Int) (S : St) : Ev Y spec_l1Has [I a, I i] S (.bool (hasG a i)) S := by
  refine E_start (h := ?_)
  repeat' (first | refine c0 ?_ | refine c7 ?_ | refine d2 ?_ | refine c9 ?_ | refine d4 ?_ | refine a0 (hk := ?_) | refine a2 (hk := ?_) | refine a3 (ht := ?_) (hf := ?_) | refine a5 (hk := ?_) | refine g2 (hw := ?_) | (with_reducible intro hc))
  · refine rB (hv := ?_)
    have : (0 ≤ i ∧ i < 3) := by omega
    simp [hasG, this]; rfl
  all_goals
    refine rB (hv := ?_)
    have : ¬ (0 ≤ i ∧ i < 3) := by omega
    simp only [hasG, this, decide_false, Bool.false_and]
def vOk (n : Nat) (v : Int) : Bool := inB v 0 (n - 1)
theorem k_spec_l2Var (ls : List Lab) (ss : Stps) (v : Int) (S : St) (hl : ls.length ≤ 1048576) : Ev Y spec_l2Var [PR ls ss, I v] S (.bool (vOk ls.length v)) S := by
  refine E_start (h := ?_)
  repeat' (first | refine c0 ?_ | refine c7 ?_ | refine d2 ?_ | refine c9 ?_ | refine d4 ?_ | refine k0 (he := (by first | exact k_spec_l6In _ _ _ _)) (hk := ?_) | refine b1 (hk := ?_) | refine a5 (hk := ?_) | refine b5 (hk := ?_))
  all_goals (refine rB (hv := ?_); rw [List.length_map, i64_id (by omega) (by omega)]; rfl)
def valOk (n : Nat) (x : Vl) : Bool := if x.kind = 1 then inB x.a 0 9 && x.b == 0 else if x.kind = 2 then vOk n x.a && x.b == 0 else if x.kind = 3 ∨ x.kind = 4 then vOk n x.a && vOk n x.b else false
theorem k_spec_l2Val (ls : List Lab) (ss : Stps) (x : Vl) (S : St) (hl : ls.length ≤ 1048576) : Ev Y spec_l2Val [PR ls ss, .agg (vrow x)] S (.bool (valOk ls.length x)) S := by
  refine E_start (h := ?_)
  repeat' (first | refine c0 ?_ | refine c1 ?_ | refine c3 ?_ | refine c4 ?_ | refine c7 ?_ | refine d2 ?_ | refine c8 ?_ | refine c9 ?_ | refine d0 ?_ | refine d4 ?_ | refine a0 (hk := ?_) | refine k0 (he := (by first | exact k_spec_l6In _ _ _ _ | exact k_spec_l2Var _ _ _ _ hl)) (hk := ?_) | refine b1 (hk := ?_) | refine a4 (ht := ?_) (hf := ?_) | refine a5 (hk := ?_) | refine b5 (hk := ?_) | (with_reducible intro hc) | refine u5 (hk := ?_) | refine d9 (ht := ?_) (hf := ?_))
  all_goals (refine rB (hv := ?_); simp_all [valOk])
def Vl.none (x : Vl) : Bool := x.kind == 0 && (x.a == 0 && x.b == 0)
def stepsOk (n : Nat) : Stps → Int → Bool
  | .nil, _ => true
  | .cons k v x h t e r, d => (!decide (d < 1) && vOk n v && (if k = 1 then valOk n x && h == 0 && (t.len + e.len == 0) else if k = 3 then x.none && inB h 0 2 && (t.len + e.len == 0)
      else if k = 2 then x.none && h == 0 && stepsOk n t (d - 1) && stepsOk n e (d - 1) else false)) && stepsOk n r d
def stepOk (n : Nat) (k v : Int) (x : Vl) (h : Int) (t e : Stps) (d : Int) : Bool := !decide (d < 1) && vOk n v && (if k = 1 then valOk n x && h == 0 && (t.len + e.len == 0) else if k = 3 then x.none && inB h 0 2 && (t.len + e.len == 0)
      else if k = 2 then x.none && h == 0 && stepsOk n t (d - 1) && stepsOk n e (d - 1) else false)
theorem stepsOk_cons (n : Nat) (k v : Int) (x : Vl) (h : Int) (t e r : Stps) (d : Int) : stepsOk n (.cons k v x h t e r) d = (stepOk n k v x h t e d && stepsOk n r d) := rfl
theorem lens0 {t e : Stps} (h : t.sz + e.sz ≤ 1048576) : (IntKind.i64.wrap ((t.rows.length : Int) + (e.rows.length : Int)) == 0) = (t.len + e.len == 0) := by
  have := t.len_sz
  have := e.len_sz
  rw [Stps.rows_len, Stps.rows_len, i64_id (by omega) (by omega), Bool.eq_iff_iff]
  simp; omega
end Go.Proofs.X
end
section
namespace Go.Proofs.X
open Go Go.Proofs.XVai Go.Proofs Go.Proofs.XN
set_option linter.unusedVariables false
set_option linter.unusedSimpArgs false

theorem k_spec_l2Count (n : Nat) : ∀ (l : Stps) (S : St), l.sz ≤ n → l.sz ≤ 1048576 → Ev Y spec_l2Count [.lst l.rows] S (I l.sz) S := by
  induction n with
  | zero =>
    intro l S h _
    cases l with
    | cons => simp [Stps.sz] at h
    | nil =>
      refine E_start (h := ?_)
      repeat' (first | refine c0 ?_ | refine c7 ?_ | refine d2 ?_ | refine c8 ?_ | refine d4 ?_ | refine a5 (hk := ?_))
      refine d5 ?_
      repeat' (first | refine c0 ?_ | refine c2 ?_ | refine c5 ?_ | refine c7 ?_ | refine d2 ?_ | refine c9 ?_ | refine d1 ?_ | refine d4 ?_ | refine a5 (hk := ?_) | refine d7 (hf := ?_))
      exact rI (hv := rfl)
  | succ n ih =>
    intro l S h hb
    refine E_start (h := ?_)
    repeat' (first | refine c0 ?_ | refine c7 ?_ | refine d2 ?_ | refine c8 ?_ | refine d4 ?_ | refine a5 (hk := ?_))
    refine C_stps l (fun pre r T' S' => ∃ (T0 : Tm) (S1 : St) (c : Nat), l.sz = c + r.sz ∧ Ext S S1 ∧ T' = putL T0 [(0, .lst l.rows), (3, I c), (4, I pre.length)] ∧ S' = S1 ++ [])
      ⟨_, _, 0, by omega, ex0, at_mk ⟨rfl, rfl, rfl, trivial⟩, (List.append_nil _).symm⟩ ?_ ?_
    · rintro pre k v x hh t e r T' S' hl hz ⟨T0, S1, c, hq, hE, rfl, rfl⟩
      have hg := mid hl
      have hp := mid_lt hl
      have := l.rows_len
      have := l.len_sz
      simp only [Stps.sz] at hq
      repeat' (first | refine c0 ?_ | refine c2 ?_ | refine c3 ?_ | refine c5 ?_ | refine c7 ?_ | refine d2 ?_ | refine c8 ?_ | refine c9 ?_ | refine d0 ?_ | refine d1 ?_ | refine d4 ?_ | refine d3' (h := ?_) | refine d4' ?_ | refine k0' (he := (by first | exact ih t _ (by omega) (by omega) | exact ih e _ (by omega) (by omega))) (hk := ?_) | refine a5 (hk := ?_) | refine e5' (hk := ?_) | refine f6' (hk := ?_) | refine f8' (hk := ?_) | (with_reducible intro hc) | refine d8 (ht := ?_) (hf := ?_))
      · refine ⟨_, _, c + 1 + t.sz + e.sz, by omega, ex1 hE, at_mk ⟨rfl, ?_, inc (by omega), trivial⟩, (List.append_nil _).symm⟩
        show HV.int _ _ = _
        rw [i64_id (n := (c : Int) + 1) (by omega) (by omega), i64_id (n := (c : Int) + 1 + t.sz) (by omega) (by omega), i64_id (by omega) (by omega)]
        simp
      · omega
    · rintro pre T' S' hl ⟨T0, S1, c, hq, hE, rfl, rfl⟩
      repeat' (first | refine c0 ?_ | refine c2 ?_ | refine c5 ?_ | refine c7 ?_ | refine d2 ?_ | refine c8 ?_ | refine c9 ?_ | refine d0 ?_ | refine d1 ?_ | refine d4 ?_ | refine d3' (h := ?_) | refine a5 (hk := ?_) | refine e5' (hk := ?_) | (with_reducible intro hc) | refine d8 (ht := ?_) (hf := ?_))
      · simp [hl] at hc
      · exact rIx hE (hv := by simp [Stps.sz] at hq; omega)
end Go.Proofs.X
end
section
namespace Go.Proofs.X
open Go Go.Proofs.XVai Go.Proofs Go.Proofs.XN
set_option linter.unusedVariables false
set_option linter.unusedSimpArgs false

theorem k_spec_l2Step (n : Nat) (ls : List Lab) (ss : Stps) (d : Int) (hl : ls.length ≤ 1048576) (hd0 : -9 ≤ d) (hd1 : d ≤ 100) (ih : ∀ (t : Stps) (S : St), 1 ≤ d → t.sz ≤ n → t.sz ≤ 1048576 → Ev Y spec_l2Steps [PR ls ss, .lst t.rows, I (d - 1)] S (.bool (stepsOk ls.length t (d - 1))) S)
    (k v : Int) (x : Vl) (h : Int) (t e : Stps) (S : St) (hn : t.sz + e.sz ≤ n) (hb : t.sz + e.sz ≤ 1048576) :
    Ev Y spec_l2Step [PR ls ss, .agg (srow k v x h t e), I d] S (.bool (stepOk ls.length k v x h t e d)) S := by
  have hz := lens0 hb
  have ih1 : ∀ (t : Stps) (S : St), 1 ≤ d → t.sz ≤ n → t.sz ≤ 1048576 → Ev Y spec_l2Steps [PR ls ss, .lst t.rows, .int .i64 (IntKind.i64.wrap (d - 1))] S (.bool (stepsOk ls.length t (d - 1))) S := by
    rw [i64_id (n := d - 1) (by omega) (by omega)]; exact ih
  clear ih
  refine E_start (h := ?_)
  repeat' (first | refine c0 ?_ | refine c1 ?_ | refine c3 ?_ | refine c4 ?_ | refine c7 ?_ | refine d2 ?_ | refine c8 ?_ | refine c9 ?_ | refine d0 ?_ | refine d4 ?_ | refine a0 (hk := ?_) | refine k0 (he := (by first | exact k_spec_l2Var _ _ _ _ hl | exact k_spec_l2Val _ _ _ _ hl | exact k_spec_l6In _ _ _ _ | exact ih1 _ _ (by omega) (by omega) (by omega))) (hk := ?_) | refine b1 (hk := ?_) | refine a1 (hk := ?_) | refine a2 (hk := ?_) | refine a3 (ht := ?_) (hf := ?_) | refine a4 (ht := ?_) (hf := ?_) | refine a5 (hk := ?_) | refine b5 (hk := ?_) | (with_reducible intro hc) | refine d6 (ht := ?_) | refine d9 (ht := ?_) (hf := ?_))
  all_goals (clear ih1; refine rB (hv := ?_); simp_all [stepOk, Vl.none])
theorem k_spec_l2Steps (n : Nat) : ∀ (l : Stps) (d : Int) (ls : List Lab) (ss : Stps) (S : St), l.sz ≤ n → l.sz ≤ 1048576 → ls.length ≤ 1048576 → -9 ≤ d → d ≤ 100 → Ev Y spec_l2Steps [PR ls ss, .lst l.rows, I d] S (.bool (stepsOk ls.length l d)) S := by
  induction n with
  | zero =>
    intro l d ls ss S h _ hl hd0 hd1
    cases l with
    | cons => simp [Stps.sz] at h
    | nil =>
      refine E_start (h := ?_)
      repeat' (first | refine c0 ?_ | refine c7 ?_ | refine d2 ?_ | refine c8 ?_ | refine d4 ?_ | refine b1 (hk := ?_) | refine a5 (hk := ?_))
      refine d5 ?_
      repeat' (first | refine c0 ?_ | refine c2 ?_ | refine c5 ?_ | refine c7 ?_ | refine d2 ?_ | refine c9 ?_ | refine d1 ?_ | refine d4 ?_ | refine a5 (hk := ?_) | refine d7 (hf := ?_))
      exact rB (hv := rfl)
  | succ n ih =>
    intro l d ls ss S h hb hl hd0 hd1
    refine E_start (h := ?_)
    repeat' (first | refine c0 ?_ | refine c7 ?_ | refine d2 ?_ | refine c8 ?_ | refine d4 ?_ | refine b1 (hk := ?_) | refine a5 (hk := ?_))
    refine C_stps l (fun pre r T' S' => ∃ (T0 : Tm) (S1 : St), stepsOk ls.length l d = stepsOk ls.length r d ∧ Ext S S1 ∧ S1[S.length + 0]? = some (.cells false [[LS ls, .lst ss.rows]]) ∧ T' = putL T0 [(1, .lst l.rows), (2, I d), (3, .ptr (S.length + 0) 1 0 0), (7, I pre.length)] ∧ S' = S1 ++ [])
      ⟨_, _, rfl, ex0, get_own rfl, at_mk ⟨rfl, rfl, rfl, rfl, trivial⟩, (List.append_nil _).symm⟩ ?_ ?_
    · rintro pre k v x hh t e r T' S' hx hz ⟨T0, S1, hq, hE, h0, rfl, rfl⟩
      have hg := mid hx
      have hp := mid_lt hx
      have := l.rows_len
      have := l.len_sz
      repeat' (first | refine c0 ?_ | refine c1 ?_ | refine c2 ?_ | refine c3 ?_ | refine c4 ?_ | refine c5 ?_ | refine c7 ?_ | refine d2 ?_ | refine c8 ?_ | refine c9 ?_ | refine d0 ?_ | refine d1 ?_ | refine d4 ?_ | refine d3' (h := ?_) | refine d4' ?_ | refine k0' (he := (by first | exact k_spec_l2Step n ls ss d hl hd0 hd1 (fun t S h1 h2 h3 => ih t (d - 1) ls ss S h2 h3 hl (by omega) (by omega)) _ _ _ _ _ _ _ (by omega) (by omega))) (hk := ?_) | refine a5 (hk := ?_) | refine e5' (hk := ?_) | refine f5' (hk := ?_) | refine f6' (hk := ?_) | refine f8' (hk := ?_) | (with_reducible intro hc) | refine d8 (ht := ?_) (hf := ?_) | refine d9 (ht := ?_) (hf := ?_))
      · refine rBx hE (hv := ?_)
        simp at hc
        rw [hq, stepsOk_cons, hc]; rfl
      · refine ⟨_, _, ?_, ex1 hE, get_old h0, at_mk ⟨rfl, rfl, rfl, inc (by omega), trivial⟩, (List.append_nil _).symm⟩
        simp at hc
        rw [hq, stepsOk_cons, hc]; rfl
      · omega
    · rintro pre T' S' hx ⟨T0, S1, hq, hE, h0, rfl, rfl⟩
      repeat' (first | refine c0 ?_ | refine c2 ?_ | refine c5 ?_ | refine c7 ?_ | refine d2 ?_ | refine c8 ?_ | refine c9 ?_ | refine d0 ?_ | refine d1 ?_ | refine d4 ?_ | refine d3' (h := ?_) | refine a5 (hk := ?_) | refine e5' (hk := ?_) | refine f5' (hk := ?_) | (with_reducible intro hc) | refine d8 (ht := ?_) (hf := ?_))
      · simp [hx] at hc
      · exact rBx hE (hv := by rw [hq]; rfl)
theorem k_spec_l2Steps' (l : Stps) (ls : List Lab) (ss : Stps) (S : St) (h : l.sz ≤ 1048576) (hl : ls.length ≤ 1048576) : Ev Y spec_l2Steps [PR ls ss, .lst l.rows, I 3] S (.bool (stepsOk ls.length l 3)) S := k_spec_l2Steps _ l 3 ls ss S (Nat.le_refl _) h hl (by omega) (by omega)
theorem k_spec_l2Count' (l : Stps) (S : St) (h : l.sz ≤ 1048576) : Ev Y spec_l2Count [.lst l.rows] S (I l.sz) S := k_spec_l2Count _ l S (Nat.le_refl _) h
def progOk (ls : List Lab) (ss : Stps) : Bool := decide (ls.length ≤ 4) && ls.all labOk && stepsOk ls.length ss 3 && decide (ss.sz ≤ 8)
theorem k_spec_ProgOk (ls : List Lab) (ss : Stps) (S : St) (hs : ss.sz ≤ 1048576) (hl : ls.length ≤ 1048576) : Ev Y spec_ProgOk [PR ls ss] S (.bool (progOk ls ss)) S := by
  refine E_start (h := ?_)
  repeat' (first | refine c0 ?_ | refine c1 ?_ | refine c7 ?_ | refine d2 ?_ | refine c8 ?_ | refine c9 ?_ | refine d0 ?_ | refine d4 ?_ | refine b1 (hk := ?_) | refine a5 (hk := ?_) | refine b5 (hk := ?_) | (with_reducible intro hc) | refine d8 (ht := ?_) (hf := ?_))
  · refine rB (hv := ?_)
    simp at hc
    simp [progOk]; intros; omega
  · refine C_list ls (fun pre r T' S' => ∃ (T0 : Tm) (S1 : St), ls.all labOk = r.all labOk ∧ Ext S S1 ∧ S1[S.length + 0]? = some (.cells false [[LS ls, .lst ss.rows]]) ∧ T' = putL T0 [(1, .ptr (S.length + 0) 1 0 0), (3, I pre.length)] ∧ S' = S1 ++ [])
      ⟨_, _, rfl, ex0, get_own rfl, at_mk ⟨rfl, rfl, trivial⟩, (List.append_nil _).symm⟩ ?_ ?_
    · rintro pre x r T' S' hx ⟨T0, S1, hq, hE, h0, rfl, rfl⟩
      have hg := mid hx
      have hp := mid_lt hx
      repeat' (first | refine c0 ?_ | refine c1 ?_ | refine c2 ?_ | refine c3 ?_ | refine c4 ?_ | refine c5 ?_ | refine c7 ?_ | refine d2 ?_ | refine c8 ?_ | refine c9 ?_ | refine d0 ?_ | refine d1 ?_ | refine d4 ?_ | refine k0 (he := (by first | exact k_spec_LabelOk _ _)) (hk := ?_) | refine a5 (hk := ?_) | refine b5 (hk := ?_) | refine b6 (hk := ?_) | refine b8 (hk := ?_) | (with_reducible intro hc) | refine d8 (ht := ?_) (hf := ?_) | refine d9 (ht := ?_) (hf := ?_))
      · refine rBx hE (hv := ?_)
        simp at hc
        simp [progOk, hq, hc]
      · refine ⟨_, _, ?_, ex1 hE, get_old h0, at_mk ⟨rfl, inc (by omega), trivial⟩, (List.append_nil _).symm⟩
        simp at hc
        simp [hq, hc]
      · simp at hc; omega
    · rintro T' S' ⟨T0, S1, hq, hE, h0, rfl, rfl⟩
      repeat' (first | refine c0 ?_ | refine c2 ?_ | refine c5 ?_ | refine c7 ?_ | refine d2 ?_ | refine c8 ?_ | refine c9 ?_ | refine d0 ?_ | refine d1 ?_ | refine d4 ?_ | refine a0 (hk := ?_) | refine k0 (he := (by first | exact k_spec_l2Steps' _ _ _ _ hs hl | exact k_spec_l2Count' _ _ hs)) (hk := ?_) | refine a4 (ht := ?_) (hf := ?_) | refine a5 (hk := ?_) | refine b5 (hk := ?_) | (with_reducible intro hc) | refine d8 (ht := ?_) (hf := ?_))
      · simp at hc
      all_goals
        refine rBx hE (hv := ?_)
        have e1 : progOk ls ss = (stepsOk ls.length ss 3 && decide (ss.sz ≤ 8)) := by
          have : ls.length ≤ 4 := by simp only [List.length_map] at *; omega
          simp [progOk, hq, this]
        rw [e1]
        clear hq
        simp_all
        try omega
end Go.Proofs.X
end
section
namespace Go.Proofs.X
open Go Go.Proofs.XVai Go.Proofs Go.Proofs.XN
set_option linter.unusedVariables false
set_option linter.unusedSimpArgs false

theorem wr1 : IntKind.i64.wrap 1 = 1 := by decide
theorem wr2 : IntKind.i64.wrap 2 = 2 := by decide
theorem wr3 : IntKind.i64.wrap 3 = 3 := by decide
def bothG (a b : Int) : Int := (if hasG a 0 && hasG b 0 then 1 else 0) + (if hasG a 1 && hasG b 1 then 2 else 0) + (if hasG a 2 && hasG b 2 then 4 else 0)
/-- A loop over the three hosts. -/
theorem C_three {Y : XVai.Sys} {fid : Nat} {T : Tm} {S : St} {Q : Ex → Tm → St → Prop} {b : Code} (J : Nat → Tm → St → Prop) (h0 : J 0 T S)
    (hs : ∀ i T S, i < 3 → J i T S → CW Y fid b T S (Th (fun T' S' => J (i + 1) T' S') Q)) (he : ∀ T S, J 3 T S → CW Y fid b T S (Th (fun _ _ => False) Q)) : CW Y fid (.loop b) T S Q := by
  refine C_loop (fun n T S => ∃ i, i + n = 3 ∧ J i T S) 3 ⟨0, rfl, h0⟩ ?_
  rintro n T S ⟨i, hi, hJ⟩
  cases n with
  | zero =>
    obtain rfl : i = 3 := by omega
    refine CW_mono (he T S hJ) fun ex T' S' h => ⟨?_⟩
    have := h.of
    cases ex with
    | norm => exact absurd this id
    | exit i => exact this
    | ret => exact this
  | succ n =>
    refine CW_mono (hs i T S (by omega) hJ) fun ex T' S' h => ⟨?_⟩
    have := h.of
    cases ex with
    | norm => exact ⟨n, by omega, i + 1, by omega, this⟩
    | exit i => exact this
    | ret => exact this
def bothN (a b : Int) : Nat → Int
  | 0 => 0
  | i + 1 => bothN a b i + (if hasG a i && hasG b i then 2 ^ i else 0)
theorem bothN_3 (a b : Int) : bothN a b 3 = bothG a b := by simp [bothN, bothG]
theorem bothN_le (a b : Int) (i : Nat) (h : i ≤ 3) : 0 ≤ bothN a b i ∧ bothN a b i ≤ 7 := by
  have : i = 0 ∨ i = 1 ∨ i = 2 ∨ i = 3 := by omega
  rcases this with rfl | rfl | rfl | rfl <;> simp only [bothN] <;> (repeat' split) <;> omega
theorem shl3 {i : Nat} (h : i < 3) : IntKind.i64.wrap (1 * 2 ^ min (Int.toNat (i : Int)) IntKind.i64.bits) = 2 ^ i := by
  have : i = 0 ∨ i = 1 ∨ i = 2 := by omega
  rcases this with rfl | rfl | rfl <;> decide
theorem inc3 {i : Nat} (h : i < 3) : HV.int .i64 (IntKind.i64.wrap ((i : Int) + 1)) = I ((i + 1 : Nat)) := by
  rw [i64_id (by omega) (by omega)]; simp
theorem pow3 {i : Nat} (h : i < 3) : (0 : Int) ≤ 2 ^ i ∧ (2 : Int) ^ i ≤ 4 := by
  have : i = 0 ∨ i = 1 ∨ i = 2 := by omega
  rcases this with rfl | rfl | rfl <;> decide
theorem k_spec_l1Both (a b : Int) (S : St) : Ev Y spec_l1Both [I a, I b] S (I (bothG a b)) S := by
  refine E_start (h := ?_)
  repeat' (first | refine c0 ?_ | refine c7 ?_ | refine d2 ?_ | refine c8 ?_ | refine d4 ?_ | refine a5 (hk := ?_))
  refine C_three (fun i T' S' => ∃ (T0 : Tm) (S1 : St), Ext S S1 ∧ T' = putL T0 [(0, I a), (1, I b), (5, I (bothN a b i)), (6, I i)] ∧ S' = S1 ++ [])
    ⟨_, _, ex0, at_mk ⟨rfl, rfl, rfl, rfl, trivial⟩, (List.append_nil _).symm⟩ ?_ ?_
  · rintro i T' S' hi ⟨T0, S1, hE, rfl, rfl⟩
    have hlt : (i : Int) < 3 := by omega
    have := bothN_le a b i (by omega)
    have := pow3 hi
    repeat' (first | refine c0 ?_ | refine c3 ?_ | refine c7 ?_ | refine d2 ?_ | refine c8 ?_ | refine d0 ?_ | refine d4 ?_ | refine a0 (hk := ?_) | refine k0 (he := (by first | exact k_spec_l1Has _ _ _)) (hk := ?_) | refine a4 (ht := ?_) (hf := ?_) | refine a5 (hk := ?_) | (with_reducible intro hc) | refine d7 (hf := ?_) | refine u7 (hk := ?_) | refine d9 (ht := ?_) (hf := ?_))
    · refine ⟨_, _, ex1 hE, at_mk ⟨rfl, rfl, ?_, inc3 hi, trivial⟩, (List.append_nil _).symm⟩
      show HV.int _ _ = _
      rw [shl3 hi, i64_id (by omega) (by omega)]
      simp_all [bothN]
    · refine ⟨_, _, ex1 hE, at_mk ⟨rfl, rfl, ?_, inc3 hi, trivial⟩, (List.append_nil _).symm⟩
      show HV.int _ _ = _
      simp_all [bothN]
    · refine ⟨_, _, ex1 hE, at_mk ⟨rfl, rfl, ?_, inc3 hi, trivial⟩, (List.append_nil _).symm⟩
      show HV.int _ _ = _
      simp_all [bothN]
  · rintro T' S' ⟨T0, S1, hE, rfl, rfl⟩
    repeat' (first | refine c0 ?_ | refine c2 ?_ | refine c5 ?_ | refine c7 ?_ | refine d2 ?_ | refine c9 ?_ | refine d1 ?_ | refine d4 ?_ | refine a5 (hk := ?_) | refine d7 (hf := ?_))
    exact rIx hE (hv := bothN_3 a b)
def withinG (a b : Int) : Bool := !(hasG a 0 && !hasG b 0) && (!(hasG a 1 && !hasG b 1) && !(hasG a 2 && !hasG b 2))
def withinN (a b : Int) : Nat → Bool
  | 0 => true
  | i + 1 => withinN a b i && !(hasG a i && !hasG b i)
theorem withinN_3 (a b : Int) : withinN a b 3 = withinG a b := by simp [withinN, withinG, Bool.and_assoc]
theorem withinN_f {a b : Int} {i : Nat} (hi : i < 3) (h : (hasG a i && !hasG b i) = true) : withinG a b = false := by
  have : i = 0 ∨ i = 1 ∨ i = 2 := by omega
  rcases this with rfl | rfl | rfl <;> simp at h <;> simp [withinG, h]
theorem k_spec_l1Within (a b : Int) (S : St) : Ev Y spec_l1Within [I a, I b] S (.bool (withinG a b)) S := by
  refine E_start (h := ?_)
  repeat' (first | refine c0 ?_ | refine c7 ?_ | refine d2 ?_ | refine c8 ?_ | refine d4 ?_ | refine a5 (hk := ?_))
  refine C_three (fun i T' S' => ∃ (T0 : Tm) (S1 : St), withinN a b i = true ∧ Ext S S1 ∧ T' = putL T0 [(0, I a), (1, I b), (5, I i)] ∧ S' = S1 ++ [])
    ⟨_, _, rfl, ex0, at_mk ⟨rfl, rfl, rfl, trivial⟩, (List.append_nil _).symm⟩ ?_ ?_
  · rintro i T' S' hi ⟨T0, S1, hq, hE, rfl, rfl⟩
    have hlt : (i : Int) < 3 := by omega
    repeat' (first | refine c0 ?_ | refine c1 ?_ | refine c3 ?_ | refine c4 ?_ | refine c7 ?_ | refine d2 ?_ | refine c8 ?_ | refine c9 ?_ | refine d0 ?_ | refine d4 ?_ | refine a0 (hk := ?_) | refine k0 (he := (by first | exact k_spec_l1Has _ _ _)) (hk := ?_) | refine a4 (ht := ?_) (hf := ?_) | refine a5 (hk := ?_) | (with_reducible intro hc) | refine d7 (hf := ?_) | refine u7 (hk := ?_) | refine d9 (ht := ?_) (hf := ?_))
    · exact rBx hE (hv := (withinN_f hi (by simp_all)).symm)
    · refine ⟨_, _, by simp_all [withinN], ex1 hE, at_mk ⟨rfl, rfl, inc3 hi, trivial⟩, (List.append_nil _).symm⟩
    · refine ⟨_, _, by simp_all [withinN], ex1 hE, at_mk ⟨rfl, rfl, inc3 hi, trivial⟩, (List.append_nil _).symm⟩
  · rintro T' S' ⟨T0, S1, hq, hE, rfl, rfl⟩
    repeat' (first | refine c0 ?_ | refine c2 ?_ | refine c5 ?_ | refine c7 ?_ | refine d2 ?_ | refine c9 ?_ | refine d1 ?_ | refine d4 ?_ | refine a5 (hk := ?_) | refine d7 (hf := ?_))
    exact rBx hE (hv := by rw [← withinN_3, hq])
def flowsG (a b : Lab) : Bool := labOk a && labOk b && withinG b.k a.k && withinG b.t a.t
theorem k_spec_LabelFlows (a b : Lab) (S : St) : Ev Y spec_LabelFlows [.agg (lrow a), .agg (lrow b)] S (.bool (flowsG a b)) S := by
  refine E_start (h := ?_)
  repeat' (first | refine c0 ?_ | refine c7 ?_ | refine d2 ?_ | refine c9 ?_ | refine d4 ?_ | refine a0 (hk := ?_) | refine k0 (he := (by first | exact k_spec_LabelOk _ _ | exact k_spec_l1Within _ _ _)) (hk := ?_) | refine b1 (hk := ?_) | refine a2 (hk := ?_) | refine a4 (ht := ?_) (hf := ?_) | refine a5 (hk := ?_) | refine b5 (hk := ?_) | (with_reducible intro hc))
  all_goals (refine rB (hv := ?_); simp_all [flowsG])
def lboth (a b : Lab) : Lab := if labOk a && labOk b then ⟨bothG a.k b.k, bothG a.t b.t⟩ else ⟨0, 0⟩
/-- A value out of a cell of one's own. -/
theorem rC {Y : XVai.Sys} {f : Nat} {fn : Func} {T' : Tm} {S0 L : St} {v v' : HV} (hkp : Y.keep f = false := by rfl) {a : Tmp} {t : TypeId} (hres : fn.results.toList = [.cell a t] := by rfl) {ti : TI} (h1 : Y.tab t = some ti := by rfl) {k n i o : Nat} {fr : Bool} {rows : List (List HV)} {row : List HV}
    (h2 : T' a = .ptr k n i o := by rfl) (h3 : (S0 ++ L)[k]? = some (.cells fr rows) := by first | exact get_own rfl | exact get_old (by assumption)) (h4 : rows.length = n := by rfl) (h5 : rows[i]? = some row := by rfl) (h6 : XVai.part ti.agg ti.size row o = some v := by rfl) (hz : frzR S0.length v (S0 ++ L) = some (v, S0 ++ L) := by rfl) (hi : idR S0.length v = true := by rfl) (hv : v = v' := by rfl) : RT Y f fn S0 v' S0 .ret T' (S0 ++ L) := ⟨ret_cell ret_not hkp hres h1 h2 h3 h4 h5 h6 hz hi hv⟩
theorem k_spec_LabelBoth (a b : Lab) (S : St) : Ev Y spec_LabelBoth [.agg (lrow a), .agg (lrow b)] S (.agg (lrow (lboth a b))) S := by
  refine E_start (h := ?_)
  repeat' (first | refine c0 ?_ | refine c1 ?_ | refine c7 ?_ | refine d2 ?_ | refine c9 ?_ | refine d0 ?_ | refine d4 ?_ | refine d3' (h := ?_) | refine d4' ?_ | refine a0 (hk := ?_) | refine k0 (he := (by first | exact k_spec_LabelOk _ _ | exact k_spec_l1Both _ _ _)) (hk := ?_) | refine k0' (he := (by first | exact k_spec_LabelOk _ _ | exact k_spec_l1Both _ _ _)) (hk := ?_) | refine b0 (hk := ?_) | refine b1 (hk := ?_) | refine a4 (ht := ?_) (hf := ?_) | refine a5 (hk := ?_) | refine b5 (hk := ?_) | refine b7 (hk := ?_) | refine b7b (hk := ?_) | refine e5' (hk := ?_) | refine f5' (hk := ?_) | refine b7' (hk := ?_) | (with_reducible intro hc) | refine d6 (ht := ?_) | refine d9 (ht := ?_) (hf := ?_))
  · rw [show lboth a b = ⟨0, 0⟩ by simp_all [lboth]]; exact rC
  · rw [show lboth a b = ⟨0, 0⟩ by simp_all [lboth]]; exact rC
  · rw [show lboth a b = ⟨bothG a.k b.k, bothG a.t b.t⟩ by simp_all [lboth]]; exact rC
abbrev lany : Lab := ⟨7, 7⟩
theorem k_spec_l11Any (S : St) : Ev Y spec_l11Any [] S (.agg (lrow lany)) S := by
  refine E_start (h := ?_)
  repeat' (first | refine c0 ?_ | refine c7 ?_ | refine d2 ?_ | refine c9 ?_ | refine d4 ?_ | refine k0 (he := (by first | exact k_spec_l1All _)) (hk := ?_) | refine b0 (hk := ?_) | refine a5 (hk := ?_) | refine b7 (hk := ?_))
  exact rC
end Go.Proofs.X
end
section
namespace Go.Proofs.X
open Go Go.Proofs.XVai Go.Proofs Go.Proofs.XN
set_option linter.unusedVariables false
set_option linter.unusedSimpArgs false

def Stps.app : Stps → Stps → Stps
  | .nil, s => s
  | .cons k v x h t e r, s => .cons k v x h t e (r.app s)
theorem Stps.app_rows : ∀ a b : Stps, (a.app b).rows = a.rows ++ b.rows
  | .nil, _ => rfl
  | .cons _ _ _ _ _ _ r, b => by simp [Stps.app, Stps.rows, Stps.app_rows r b]
def Stps.all : Stps → Stps
  | .nil => .nil
  | .cons k v x h t e r => .cons k v x h t e (t.all.app (e.all.app r.all))
theorem Stps.app_len : ∀ a b : Stps, (a.app b).len = a.len + b.len
  | .nil, _ => by simp [Stps.app, Stps.len]
  | .cons _ _ _ _ _ _ r, b => by simp [Stps.app, Stps.len, Stps.app_len r b]; omega
theorem Stps.all_len : ∀ a : Stps, a.all.len = a.sz
  | .nil => rfl
  | .cons _ _ _ _ t e r => by simp [Stps.all, Stps.len, Stps.app_len, Stps.sz, Stps.all_len t, Stps.all_len e, Stps.all_len r]; omega
theorem Stps.app_nil : ∀ a : Stps, a.app .nil = a
  | .nil => rfl
  | .cons _ _ _ _ _ _ r => by simp [Stps.app, Stps.app_nil r]
theorem Stps.app_assoc : ∀ a b c : Stps, (a.app b).app c = a.app (b.app c)
  | .nil, _, _ => rfl
  | .cons _ _ _ _ _ _ r, b, c => by simp [Stps.app, Stps.app_assoc r b c]
theorem Stps.rows_cells : ∀ l : Stps, l.rows.all (fun r => r.length == 8 && r.all isCell) = true
  | .nil => rfl
  | .cons _ _ _ _ t e r => by rw [Stps.rows, List.all_cons, Stps.rows_cells r]; rfl
theorem all8 {a b : List (List HV)} (ha : a.all (fun r => r.length == 8) = true) (hb : b.all (fun r => r.length == 8) = true) : (a ++ b).all (fun r => r.length == 8) = true := by rw [List.all_append, ha, hb]; rfl
theorem k_spec_l2All (n : Nat) : ∀ (l : Stps) (S : St), l.sz ≤ n → l.sz ≤ 1048576 → Ev Y spec_l2All [.lst l.rows] S (.lst l.all.rows) S := by
  induction n with
  | zero =>
    intro l S h _
    cases l with
    | cons => simp [Stps.sz] at h
    | nil =>
      refine E_start (h := ?_)
      repeat' (first | refine c0 ?_ | refine c7 ?_ | refine d2 ?_ | refine c8 ?_ | refine d4 ?_ | refine b3 (hk := ?_) | refine b4 (hk := ?_) | refine a5 (hk := ?_))
      refine d5 ?_
      repeat' (first | refine c0 ?_ | refine c2 ?_ | refine c5 ?_ | refine c7 ?_ | refine d2 ?_ | refine c9 ?_ | refine d1 ?_ | refine d4 ?_ | refine a5 (hk := ?_) | refine d7 (hf := ?_))
      exact rL (hp := rfl) (hv := rfl)
  | succ n ih =>
    intro l S h hb
    refine E_start (h := ?_)
    repeat' (first | refine c0 ?_ | refine c7 ?_ | refine d2 ?_ | refine c8 ?_ | refine d4 ?_ | refine b3 (hk := ?_) | refine b4 (hk := ?_) | refine a5 (hk := ?_))
    refine C_stps l (fun pre r T' S' => ∃ (T0 : Tm) (S1 : St) (d : Stps), l.all = d.app r.all ∧ Ext S S1 ∧ S1[S.length + 1]? = some (.cells true d.rows) ∧ T' = putL T0 [(0, .lst l.rows), (3, .sl (S.length + 1) d.rows.length), (4, I pre.length)] ∧ S' = S1 ++ [])
      ⟨_, _, .nil, rfl, ex0, get_own rfl, at_mk ⟨rfl, rfl, rfl, trivial⟩, (List.append_nil _).symm⟩ ?_ ?_
    · rintro pre k v x hh t e r T' S' hl hz ⟨T0, S1, d, hq, hE, h0, rfl, rfl⟩
      have hg := mid hl
      have hp := mid_lt hl
      have := l.rows_len
      have := l.len_sz
      have q1 := t.all.rows_cells
      have q2 := e.all.rows_cells
      have q3 := d.rows_eight
      have q4 := t.all.rows_eight
      have q5 := all8 (all8 q3 (b := [srow k v x hh t e]) rfl) q4
      have q6 := all8 q3 (b := [srow k v x hh t e]) rfl
      have z0 := l.all_len
      have z1 := t.all_len
      have z2 := e.all_len
      have z3 := congrArg Stps.len hq
      rw [Stps.app_len] at z3
      have z4 := d.rows_len
      have z5 := t.all.rows_len
      have z6 := e.all.rows_len
      repeat' (first | refine c0 ?_ | refine c2 ?_ | refine c3 ?_ | refine c5 ?_ | refine c7 ?_ | refine d2 ?_ | refine c8 ?_ | refine c9 ?_ | refine d0 ?_ | refine d1 ?_ | refine d4 ?_ | refine k0 (he := (by first | exact ih t _ (by omega) (by omega) | exact ih e _ (by omega) (by omega))) (hk := ?_) | refine a5 (hk := ?_) | refine b6 (hk := ?_) | refine b8 (hk := ?_) | refine p0 (hk := ?_) | (with_reducible intro hc) | refine d8 (ht := ?_) (hf := ?_))
      · refine ⟨_, _, d.app (.cons k v x hh t e (t.all.app e.all)), ?_, ex1 (ex2 hE (Nat.le_add_right _ _)), ?_, at_mk ⟨rfl, ?_, inc (by omega), trivial⟩, (List.append_nil _).symm⟩
        · rw [hq]; simp [Stps.all, Stps.app_assoc, Stps.app]
        · rw [get_set (h0)]; simp [Stps.app_rows, Stps.rows]
        · show HV.sl _ _ = _
          simp [Stps.app_rows, Stps.rows]; omega
      · omega
    · rintro pre T' S' hl ⟨T0, S1, d, hq, hE, h0, rfl, rfl⟩
      repeat' (first | refine c0 ?_ | refine c2 ?_ | refine c5 ?_ | refine c7 ?_ | refine d2 ?_ | refine c8 ?_ | refine c9 ?_ | refine d0 ?_ | refine d1 ?_ | refine d4 ?_ | refine a5 (hk := ?_) | (with_reducible intro hc) | refine d8 (ht := ?_) (hf := ?_))
      · simp [hl] at hc
      · exact rLx hE (hp := d.rows_pure) (hv := by rw [hq]; simp [Stps.all, Stps.app_nil])
end Go.Proofs.X
end
section
namespace Go.Proofs.X
open Go Go.Proofs.XVai Go.Proofs Go.Proofs.XN
set_option linter.unusedVariables false
set_option linter.unusedSimpArgs false

theorem k_spec_l2All' (l : Stps) (S : St) (h : l.sz ≤ 1048576) : Ev Y spec_l2All [.lst l.rows] S (.lst l.all.rows) S := k_spec_l2All _ l S (Nat.le_refl _) h

def labAt (ls : List Lab) (v : Int) : Lab := ls.getD v.toNat ⟨0, 0⟩
theorem vOk_at {ls : List Lab} {v : Int} (h : vOk ls.length v = true) : ∃ j : Nat, v = j ∧ ls[j]? = some (labAt ls v) := by
  simp only [vOk, inB, decide_eq_true_eq] at h
  obtain ⟨j, rfl⟩ := Int.eq_ofNat_of_zero_le h.1
  have hj : j < ls.length := by omega
  exact ⟨j, rfl, by simp [labAt, hj]⟩
def valLab (ls : List Lab) (x : Vl) : Lab :=
  let a := if x.kind = 1 then lany else lboth lany (labAt ls x.a)
  if x.kind = 3 ∨ x.kind = 4 then lboth a (labAt ls x.b) else a
theorem k_spec_l11Val (ls : List Lab) (ss : Stps) (x : Vl) (S : St) (hx : valOk ls.length x = true) : Ev Y spec_l11Val [PR ls ss, .agg (vrow x)] S (.agg (lrow (valLab ls x))) S := by
  obtain ⟨k, a, b⟩ := x
  simp only [valOk] at hx
  by_cases k1 : k = 1
  · subst k1
    rw [show valLab ls ⟨1, a, b⟩ = lany by simp [valLab]]
    refine E_start (h := ?_)
    repeat' (first | refine c0 ?_ | refine c7 ?_ | refine d2 ?_ | refine c9 ?_ | refine d0 ?_ | refine d4 ?_ | refine k0 (he := (by first | exact k_spec_l11Any _)) (hk := ?_) | refine b0 (hk := ?_) | refine b1 (hk := ?_) | refine a2 (hk := ?_) | refine a5 (hk := ?_) | refine b5 (hk := ?_) | refine b7 (hk := ?_) | refine d7 (hf := ?_))
    exact rC
  by_cases k2 : k = 2
  · subst k2
    simp at hx
    obtain ⟨j, rfl, hj⟩ := vOk_at hx.1
    rw [show valLab ls ⟨2, j, b⟩ = lboth lany (labAt ls j) by simp [valLab]]
    refine E_start (h := ?_)
    repeat' (first | refine c0 ?_ | refine c7 ?_ | refine d2 ?_ | refine c9 ?_ | refine d0 ?_ | refine d4 ?_ | refine d3' (h := ?_) | refine d4' ?_ | refine k0 (he := (by first | exact k_spec_l11Any _ | exact k_spec_LabelBoth _ _ _)) (hk := ?_) | refine k0' (he := (by first | exact k_spec_l11Any _ | exact k_spec_LabelBoth _ _ _)) (hk := ?_) | refine b0 (hk := ?_) | refine b1 (hk := ?_) | refine a2 (hk := ?_) | refine a5 (hk := ?_) | refine b5 (hk := ?_) | refine b7 (hk := ?_) | refine e5' (hk := ?_) | refine f5' (hk := ?_) | refine f6' (hk := ?_) | refine f8' (hk := ?_) | refine b7' (hk := ?_) | refine d6 (ht := ?_) | refine d7 (hf := ?_))
    exact rC
  by_cases k3 : k = 3
  · subst k3
    simp at hx
    obtain ⟨j, rfl, hj⟩ := vOk_at hx.1
    obtain ⟨i, rfl, hi⟩ := vOk_at hx.2
    rw [show valLab ls ⟨3, j, i⟩ = lboth (lboth lany (labAt ls j)) (labAt ls i) by simp [valLab]]
    refine E_start (h := ?_)
    repeat' (first | refine c0 ?_ | refine c7 ?_ | refine d2 ?_ | refine c9 ?_ | refine d4 ?_ | refine d3' (h := ?_) | refine d4' ?_ | refine a0 (hk := ?_) | refine k0 (he := (by first | exact k_spec_l11Any _ | exact k_spec_LabelBoth _ _ _)) (hk := ?_) | refine k0' (he := (by first | exact k_spec_l11Any _ | exact k_spec_LabelBoth _ _ _)) (hk := ?_) | refine b0 (hk := ?_) | refine b1 (hk := ?_) | refine a1 (hk := ?_) | refine a5 (hk := ?_) | refine b5 (hk := ?_) | refine b7 (hk := ?_) | refine e5' (hk := ?_) | refine f5' (hk := ?_) | refine f6' (hk := ?_) | refine f8' (hk := ?_) | refine b7' (hk := ?_) | refine d6 (ht := ?_))
    exact rC
  by_cases k4 : k = 4
  · subst k4
    simp at hx
    obtain ⟨j, rfl, hj⟩ := vOk_at hx.1
    obtain ⟨i, rfl, hi⟩ := vOk_at hx.2
    rw [show valLab ls ⟨4, j, i⟩ = lboth (lboth lany (labAt ls j)) (labAt ls i) by simp [valLab]]
    refine E_start (h := ?_)
    repeat' (first | refine c0 ?_ | refine c7 ?_ | refine d2 ?_ | refine c9 ?_ | refine d4 ?_ | refine d3' (h := ?_) | refine d4' ?_ | refine k0 (he := (by first | exact k_spec_l11Any _ | exact k_spec_LabelBoth _ _ _)) (hk := ?_) | refine k0' (he := (by first | exact k_spec_l11Any _ | exact k_spec_LabelBoth _ _ _)) (hk := ?_) | refine b0 (hk := ?_) | refine b1 (hk := ?_) | refine a2 (hk := ?_) | refine a5 (hk := ?_) | refine b5 (hk := ?_) | refine b7 (hk := ?_) | refine e5' (hk := ?_) | refine f5' (hk := ?_) | refine f6' (hk := ?_) | refine f8' (hk := ?_) | refine b7' (hk := ?_) | refine d6 (ht := ?_))
    exact rC
  simp [k1, k2, k3, k4] at hx
def fineG (ls : List Lab) (k v : Int) (x : Vl) (h : Int) (here : Lab) : Bool :=
  if k = 1 then flowsG (lboth here (valLab ls x)) (labAt ls v) else if k = 3 then hasG (bothG here.k (labAt ls v).k) h else true
theorem k_spec_l11Fine (ls : List Lab) (ss : Stps) (k v : Int) (x : Vl) (h : Int) (t e : Stps) (here : Lab) (S : St) (hv : vOk ls.length v = true) (hx : k = 1 → valOk ls.length x = true) :
    Ev Y spec_l11Fine [PR ls ss, .agg (srow k v x h t e), .agg (lrow here)] S (.bool (fineG ls k v x h here)) S := by
  obtain ⟨j, rfl, hj⟩ := vOk_at hv
  by_cases k1 : k = 1
  · subst k1
    have hx1 := hx rfl
    refine E_start (h := ?_)
    repeat' (first | refine c0 ?_ | refine c1 ?_ | refine c4 ?_ | refine c7 ?_ | refine d2 ?_ | refine c8 ?_ | refine c9 ?_ | refine d4 ?_ | refine d3' (h := ?_) | refine d4' ?_ | refine k0' (he := (by first | exact k_spec_l11Val _ _ _ _ hx1 | exact k_spec_LabelBoth _ _ _ | exact k_spec_LabelFlows _ _ _)) (hk := ?_) | refine b1 (hk := ?_) | refine a5 (hk := ?_) | refine b5 (hk := ?_) | refine e5' (hk := ?_) | refine f5' (hk := ?_) | refine f6' (hk := ?_) | refine f8' (hk := ?_) | refine d6 (ht := ?_))
    exact rB (hv := rfl)
  by_cases k3 : k = 3
  · subst k3
    refine E_start (h := ?_)
    repeat' (first | refine c0 ?_ | refine c1 ?_ | refine c4 ?_ | refine c7 ?_ | refine d2 ?_ | refine c8 ?_ | refine c9 ?_ | refine d4 ?_ | refine d3' (h := ?_) | refine d4' ?_ | refine k0' (he := (by first | exact k_spec_l1Both _ _ _ | exact k_spec_l1Has _ _ _)) (hk := ?_) | refine b1 (hk := ?_) | refine a5 (hk := ?_) | refine b5 (hk := ?_) | refine e5' (hk := ?_) | refine f5' (hk := ?_) | refine f6' (hk := ?_) | refine f8' (hk := ?_) | refine d6 (ht := ?_) | refine d7 (hf := ?_))
    exact rB (hv := rfl)
  have q1 : (k == 1) = false := by simpa using k1
  have q3 : (k == 3) = false := by simpa using k3
  refine E_start (h := ?_)
  repeat' (first | refine c0 ?_ | refine c3 ?_ | refine c7 ?_ | refine d2 ?_ | refine c8 ?_ | refine c9 ?_ | refine d0 ?_ | refine d4 ?_ | refine b1 (hk := ?_) | refine a5 (hk := ?_) | refine b5 (hk := ?_) | refine u6 (hk := ?_))
  exact rB (hv := by simp [fineG, k1, k3])
end Go.Proofs.X
end
section
namespace Go.Proofs.X
open Go Go.Proofs.XVai Go.Proofs Go.Proofs.XN
set_option linter.unusedVariables false
set_option linter.unusedSimpArgs false

/-- A state in which one old object is another one, and more is behind. -/
def ExtK (S : St) (k : Nat) (o : Ob) (S1 : St) : Prop := ∃ J, S1 = S.set k o ++ J
theorem set_self {S : St} {k : Nat} {o : Ob} (h : S[k]? = some o) : S.set k o = S := by
  obtain ⟨hk, rfl⟩ := List.getElem?_eq_some_iff.1 h
  simp
theorem xk0 {S L : St} {k : Nat} {o : Ob} (h : S[k]? = some o) : ExtK S k o (S ++ L) := ⟨L, by rw [set_self h]⟩
theorem xk1 {S S1 L : St} {k : Nat} {o o' : Ob} {o0 : Ob} (hk : S[k]? = some o0) (h : ExtK S k o S1) : ExtK S k o' (S1.set k o' ++ L) := by
  obtain ⟨J, rfl⟩ := h
  have hl : k < S.length := (List.getElem?_eq_some_iff.1 hk).1
  refine ⟨J ++ L, ?_⟩
  rw [List.set_append_left _ _ (by simpa using hl), List.set_set, List.append_assoc]
theorem xk2 {S S1 L : St} {k : Nat} {o : Ob} (h : ExtK S k o S1) : ExtK S k o (S1 ++ L) := by
  obtain ⟨J, rfl⟩ := h
  exact ⟨J ++ L, by rw [List.append_assoc]⟩
theorem xk_get {S S1 : St} {k : Nat} {o o0 : Ob} (hk : S[k]? = some o0) (h : ExtK S k o S1) : S1[k]? = some o := by
  obtain ⟨J, rfl⟩ := h
  exact get_set hk
theorem idC_pure {n0 : Nat} {c : HV} (h : pureC c = true) : idC n0 c = true := by cases c <;> simp_all [pureC, idC]
theorem idO_pure {n0 : Nat} {fr : Bool} {rows : List (List HV)} (h : rows.all (fun r => r.all pureC) = true) : idO n0 (.cells fr rows) = true := by
  simp only [idO, List.all_eq_true] at h ⊢
  exact fun r hr c hc => idC_pure (h r hr c hc)
theorem rK {Y : XVai.Sys} {f : Nat} {fn : Func} {T' : Tm} {S0 S1 L : St} {k n m : Nat} {fr : Bool} {rows : List (List HV)} {o0 : Ob} (h0 : S0[k]? = some o0) (hE : ExtK S0 k (.cells fr rows) S1) (hp : rows.all (fun r => r.all pureC) = true)
    (hkp : Y.keep f = false := by rfl) (hr : resVs Y T' (S1 ++ L) fn.results.toList = some [.sl k n] := by rfl) (hv : n = m) : RT Y f fn S0 (.sl k m) (S0.set k (.cells fr rows)) .ret T' (S1 ++ L) := by
  subst hv
  obtain ⟨J, rfl⟩ := hE
  have hk : k < S0.length := (List.getElem?_eq_some_iff.1 h0).1
  rw [List.append_assoc] at hr ⊢
  refine rS hkp hr ?_ ?_ rfl (by simp) (rS1 (o := .cells fr rows) h0 (idO_pure hp))
  · simp [resTup, frzR, frzV, frzC, hk]
  · simp [resTup, idR, idV, idC, hk]

def varsOk (n : Nat) : Stps → Bool
  | .nil => true
  | .cons _ v _ _ t e r => vOk n v && (varsOk n t && (varsOk n e && varsOk n r))
def ats (ls : List Lab) : Stps → Lab → List Lab
  | .nil, _ => []
  | .cons _ v _ _ t e r, here => here :: (ats ls t (lboth here (labAt ls v)) ++ (ats ls e (lboth here (labAt ls v)) ++ ats ls r here))
theorem ats_len (ls : List Lab) : ∀ (l : Stps) (here : Lab), (ats ls l here).length = l.sz
  | .nil, _ => rfl
  | .cons _ v _ _ t e r, here => by simp [ats, Stps.sz, ats_len ls t, ats_len ls e, ats_len ls r]; omega
theorem lrow2 (l : List Lab) : (l.map lrow).all (fun r => r.length == 2) = true := by simp
theorem all2 {a b : List (List HV)} (ha : a.all (fun r => r.length == 2) = true) (hb : b.all (fun r => r.length == 2) = true) : (a ++ b).all (fun r => r.length == 2) = true := by rw [List.all_append, ha, hb]; rfl
theorem allP {a b : List (List HV)} (ha : a.all (fun r => r.all pureC) = true) (hb : b.all (fun r => r.all pureC) = true) : (a ++ b).all (fun r => r.all pureC) = true := by rw [List.all_append, ha, hb]; rfl
theorem k_spec_l11At (n : Nat) (ls : List Lab) (ss : Stps) : ∀ (l : Stps) (here : Lab) (rows : List (List HV)) (m k : Nat) (S : St), l.sz ≤ n → l.sz ≤ 1048576 → varsOk ls.length l = true → S[k]? = some (.cells true rows) → rows.length = m → rows.all (fun r => r.length == 2) = true → rows.all (fun r => r.all pureC) = true → m + l.sz ≤ 2097152 →
    Ev Y spec_l11At [PR ls ss, .lst l.rows, .agg (lrow here), .sl k m] S (.sl k (m + l.sz)) (S.set k (.cells true (rows ++ (ats ls l here).map lrow))) := by
  induction n with
  | zero =>
    intro l here rows m k S h _ hv hS hm h2 hp hb
    cases l with
    | cons => simp [Stps.sz] at h
    | nil =>
      refine E_start (h := ?_)
      repeat' (first | refine c0 ?_ | refine c7 ?_ | refine d2 ?_ | refine c8 ?_ | refine d4 ?_ | refine b1 (hk := ?_) | refine b3 (hk := ?_) | refine a5 (hk := ?_))
      refine d5 ?_
      repeat' (first | refine c0 ?_ | refine c2 ?_ | refine c5 ?_ | refine c7 ?_ | refine d2 ?_ | refine c9 ?_ | refine d1 ?_ | refine d4 ?_ | refine a5 (hk := ?_) | refine d7 (hf := ?_))
      rw [show rows ++ (ats ls .nil here).map lrow = rows by simp [ats]]
      exact rK hS (S1 := S) ⟨[], by rw [set_self hS, List.append_nil]⟩ hp (hv := rfl)
  | succ n ih =>
    intro l here rows m k S h hsz hv hS hm h2 hp hb
    have hkl : k < S.length := (List.getElem?_eq_some_iff.1 hS).1
    refine E_start (h := ?_)
    repeat' (first | refine c0 ?_ | refine c7 ?_ | refine d2 ?_ | refine c8 ?_ | refine d4 ?_ | refine b1 (hk := ?_) | refine b3 (hk := ?_) | refine a5 (hk := ?_))
    refine C_stps l (fun pre r T' S' => ∃ (T0 : Tm) (S1 : St) (d : List Lab), varsOk ls.length r = true ∧ ats ls l here = d ++ ats ls r here ∧ ExtK S k (.cells true (rows ++ d.map lrow)) S1 ∧ S1[S.length + 0]? = some (.cells false [[LS ls, .lst ss.rows]]) ∧ S1[S.length + 1]? = some (.cells false [lrow here]) ∧
        T' = putL T0 [(1, .lst l.rows), (3, .sl k (m + d.length)), (4, .ptr (S.length + 0) 1 0 0), (6, .ptr (S.length + 1) 1 0 0), (9, I pre.length)] ∧ S' = S1 ++ [])
      ⟨_, _, [], hv, rfl, (by simp only [List.map_nil, List.append_nil]; exact xk0 hS), get_own rfl, get_own rfl, at_mk ⟨rfl, rfl, rfl, rfl, rfl, trivial⟩, (List.append_nil _).symm⟩ ?_ ?_
    · rintro pre kk v x hh t e r T' S' hl hz ⟨T0, S1, d, hvr, hq, hE, h0, h1, rfl, rfl⟩
      have hg := mid hl
      have hlt := mid_lt hl
      have := l.rows_len
      have := l.len_sz
      simp only [varsOk, Bool.and_eq_true] at hvr
      obtain ⟨hv0, hvt, hve, hvr⟩ := hvr
      obtain ⟨j, rfl, hj⟩ := vOk_at hv0
      have hcur := xk_get hS hE
      have n0 : S.length + 0 ≠ k := by omega
      have n1 : S.length + 1 ≠ k := by omega
      have z0 := ats_len ls l here
      have z1 := congrArg List.length hq
      simp only [ats, List.length_append, List.length_cons, ats_len] at z1
      have e0 : (rows ++ d.map lrow).length = m + d.length := by simp [hm]
      have e1 : (rows ++ d.map lrow).all (fun r => r.length == 2) = true := all2 h2 (lrow2 d)
      have p1 : (rows ++ d.map lrow).all (fun r => r.all pureC) = true := allP hp (lrow_pure d)
      repeat' (first | refine c0 ?_ | refine c2 ?_ | refine c3 ?_ | refine c5 ?_ | refine c7 ?_ | refine d2 ?_ | refine c8 ?_ | refine c9 ?_ | refine d0 ?_ | refine d1 ?_ | refine d4 ?_ | refine d3' (h := ?_) | refine d4' ?_ | refine k0' (he := (by first | exact k_spec_LabelBoth _ _ _ | exact ih t _ _ _ _ _ (by omega) (by omega) hvt (get_set (by assumption)) (by first | omega | (simp only [List.length_append, List.length_cons, List.length_nil, List.length_map, ats_len]; omega)) (all2 e1 rfl) (allP p1 rfl) (by first | omega | (simp only [List.length_append, List.length_cons, List.length_nil, List.length_map, ats_len]; omega)) | exact ih e _ _ _ _ _ (by omega) (by omega) hve (get_set (by assumption)) (by first | omega | (simp only [List.length_append, List.length_cons, List.length_nil, List.length_map, ats_len]; omega)) (all2 (all2 e1 rfl) (lrow2 _)) (allP (allP p1 rfl) (lrow_pure _)) (by first | omega | (simp only [List.length_append, List.length_cons, List.length_nil, List.length_map, ats_len]; omega)))) (hk := ?_) | refine k1' (he := (by first | exact k_spec_LabelBoth _ _ _ | exact ih t _ _ _ _ _ (by omega) (by omega) hvt (get_set (by assumption)) (by first | omega | (simp only [List.length_append, List.length_cons, List.length_nil, List.length_map, ats_len]; omega)) (all2 e1 rfl) (allP p1 rfl) (by first | omega | (simp only [List.length_append, List.length_cons, List.length_nil, List.length_map, ats_len]; omega)) | exact ih e _ _ _ _ _ (by omega) (by omega) hve (get_set (by assumption)) (by first | omega | (simp only [List.length_append, List.length_cons, List.length_nil, List.length_map, ats_len]; omega)) (all2 (all2 e1 rfl) (lrow2 _)) (allP (allP p1 rfl) (lrow_pure _)) (by first | omega | (simp only [List.length_append, List.length_cons, List.length_nil, List.length_map, ats_len]; omega)))) (hk := ?_) | refine a5 (hk := ?_) | refine b5 (hk := ?_) | refine p0 (hk := ?_) | refine b0' (hk := ?_) | refine e5' (hk := ?_) | refine f5' (hk := ?_) | refine f6' (hk := ?_) | refine f8' (hk := ?_) | refine b7' (hk := ?_) | (with_reducible intro hc) | refine d8 (ht := ?_) (hf := ?_))
      · refine ⟨_, _, d ++ here :: (ats ls t (lboth here (labAt ls j)) ++ ats ls e (lboth here (labAt ls j))), hvr, ?_, ?_, get_setN n0 h0, get_setN n1 h1, at_mk ⟨rfl, ?_, rfl, rfl, inc (by omega), trivial⟩, (List.append_nil _).symm⟩
        · rw [hq]; simp [ats]
        · have := xk1 (o' := .cells true (rows ++ d.map lrow ++ [lrow here] ++ (ats ls t (lboth here (labAt ls j))).map lrow ++ (ats ls e (lboth here (labAt ls j))).map lrow)) (L := []) hS hE
          simp only [List.map_append, List.map_cons, List.append_assoc, List.cons_append, List.nil_append] at this ⊢
          exact xk2 (by simpa using this)
        · show HV.sl _ _ = _
          simp [ats_len]; omega
      · omega
    · rintro pre T' S' hl ⟨T0, S1, d, hvr, hq, hE, h0, h1, rfl, rfl⟩
      repeat' (first | refine c0 ?_ | refine c2 ?_ | refine c5 ?_ | refine c7 ?_ | refine d2 ?_ | refine c8 ?_ | refine c9 ?_ | refine d0 ?_ | refine d1 ?_ | refine d4 ?_ | refine a5 (hk := ?_) | refine b5 (hk := ?_) | (with_reducible intro hc) | refine d8 (ht := ?_) (hf := ?_))
      · simp [hl] at hc
      · rw [hq, ats, List.append_nil]
        refine rK hS hE (allP hp (lrow_pure d)) (hv := ?_)
        have z0 := ats_len ls l here
        have z1 := congrArg List.length hq
        simp [ats] at z1
        omega
end Go.Proofs.X
end
section
namespace Go.Proofs.X
open Go Go.Proofs.XVai Go.Proofs Go.Proofs.XN
set_option linter.unusedVariables false
set_option linter.unusedSimpArgs false
set_option maxHeartbeats 4000000

theorem Stps.len_nil : ∀ l : Stps, l.len = 0 → l = .nil
  | .nil, _ => rfl
  | .cons .., h => by simp [Stps.len] at h
theorem stepOk_in {n : Nat} {k v : Int} {x : Vl} {h : Int} {t e : Stps} {d : Int} (hs : stepOk n k v x h t e d = true) : vOk n v = true ∧ (k = 1 → valOk n x = true) ∧ (k = 3 → inB h 0 2 = true) ∧ (stepsOk n t (d - 1) = true ∧ stepsOk n e (d - 1) = true) ∧ (k ≠ 2 → t = .nil ∧ e = .nil) ∧ (k = 1 ∨ k = 2 ∨ k = 3) ∧ 1 ≤ d := by
  simp only [stepOk, Bool.and_eq_true, Bool.not_eq_true', decide_eq_false_iff_not] at hs
  obtain ⟨⟨hd, hv⟩, hs⟩ := hs
  have hd : 1 ≤ d := by omega
  split at hs
  · rename_i k1
    simp only [Bool.and_eq_true, beq_iff_eq] at hs
    have ht := t.len_nil (by omega)
    have he := e.len_nil (by omega)
    subst ht; subst he
    exact ⟨hv, fun _ => hs.1.1, fun h => by omega, ⟨rfl, rfl⟩, fun _ => ⟨rfl, rfl⟩, .inl k1, hd⟩
  · split at hs
    · rename_i k1 k3
      simp only [Bool.and_eq_true, beq_iff_eq] at hs
      have ht := t.len_nil (by omega)
      have he := e.len_nil (by omega)
      subst ht; subst he
      exact ⟨hv, fun h => absurd h k1, fun _ => hs.1.2, ⟨rfl, rfl⟩, fun _ => ⟨rfl, rfl⟩, .inr (.inr k3), hd⟩
    · split at hs
      · rename_i k1 k3 k2
        simp only [Bool.and_eq_true, beq_iff_eq] at hs
        exact ⟨hv, fun h => absurd h k1, fun h => absurd h k3, ⟨hs.1.2, hs.2⟩, fun h => absurd k2 h, .inr (.inl k2), hd⟩
      · cases hs
theorem stepsOk_vars (n : Nat) : ∀ (l : Stps) (d : Int), stepsOk n l d = true → varsOk n l = true
  | .nil, _, _ => rfl
  | .cons k v x h t e r, d, hs => by
    rw [stepsOk_cons, Bool.and_eq_true] at hs
    obtain ⟨h1, _, _, ⟨h2, h3⟩, _⟩ := stepOk_in hs.1
    simp only [varsOk, h1, stepsOk_vars n t _ h2, stepsOk_vars n e _ h3, stepsOk_vars n r _ hs.2, Bool.and_self]
/-- Each of a list of steps is in form, but for those in it. -/
def flatOk (n : Nat) : Stps → Bool
  | .nil => true
  | .cons k v x h t e r => vOk n v && ((k != 1 || valOk n x) && ((k != 3 || inB h 0 2) && ((k == 1 || (k == 2 || k == 3)) && flatOk n r)))
theorem flatOk_app (n : Nat) : ∀ a b : Stps, flatOk n (a.app b) = (flatOk n a && flatOk n b)
  | .nil, _ => rfl
  | .cons _ _ _ _ _ _ r, b => by simp only [Stps.app, flatOk, flatOk_app n r b, Bool.and_assoc]
theorem stepsOk_flat (n : Nat) : ∀ (l : Stps) (d : Int), stepsOk n l d = true → flatOk n l.all = true
  | .nil, _, _ => rfl
  | .cons k v x h t e r, d, hs => by
    rw [stepsOk_cons, Bool.and_eq_true] at hs
    obtain ⟨h1, h1a, h1b, ⟨h2, h3⟩, _, h1c, _⟩ := stepOk_in hs.1
    have q1 : (k != 1 || valOk n x) = true := by
      by_cases hk : k = 1
      · simp [h1a hk]
      · simp [hk]
    have q2 : (k != 3 || inB h 0 2) = true := by
      by_cases hk : k = 3
      · simp [h1b hk]
      · simp [hk]
    have q3 : (k == 1 || (k == 2 || k == 3)) = true := by simpa using h1c
    simp only [Stps.all, flatOk, flatOk_app, h1, q1, q2, q3, stepsOk_flat n t _ h2, stepsOk_flat n e _ h3, stepsOk_flat n r _ hs.2, Bool.and_self]
theorem progOk_in {ls : List Lab} {ss : Stps} (h : progOk ls ss = true) : ls.length ≤ 4 ∧ ls.all labOk = true ∧ stepsOk ls.length ss 3 = true ∧ ss.sz ≤ 8 := by
  simp only [progOk, Bool.and_eq_true, decide_eq_true_eq] at h
  exact ⟨h.1.1.1, h.1.1.2, h.1.2, h.2⟩

/-- A loop over steps, from some on. -/
theorem C_stpsFrom {Y : XVai.Sys} {fid : Nat} {T : Tm} {S : St} {Q : Ex → Tm → St → Prop} {b : Code} (l : Stps) (pre0 : List (List HV)) (r0 : Stps) (hx0 : l.rows = pre0 ++ r0.rows) (hz0 : r0.sz ≤ l.sz) (J : List (List HV) → Stps → Tm → St → Prop) (h0 : J pre0 r0 T S)
    (hs : ∀ pre k v x h t e r T S, l.rows = pre ++ srow k v x h t e :: r.rows → 1 + t.sz + e.sz + r.sz ≤ l.sz → J pre (.cons k v x h t e r) T S → CW Y fid b T S (Th (fun T' S' => J (pre ++ [srow k v x h t e]) r T' S') Q))
    (he : ∀ pre T S, l.rows = pre → J pre .nil T S → CW Y fid b T S (Th (fun _ _ => False) Q)) : CW Y fid (.loop b) T S Q := by
  refine C_loop (fun n T S => ∃ pre r, l.rows = pre ++ Stps.rows r ∧ n = r.len ∧ r.sz ≤ l.sz ∧ J pre r T S) r0.len ⟨pre0, r0, hx0, rfl, hz0, h0⟩ ?_
  rintro n T S ⟨pre, r, hx, rfl, hz, hJ⟩
  cases r with
  | nil =>
    simp only [Stps.rows, List.append_nil] at hx
    refine CW_mono (he pre T S hx hJ) fun ex T' S' h => ⟨?_⟩
    have := h.of
    cases ex with
    | norm => exact absurd this id
    | exit i => exact this
    | ret => exact this
  | cons k v x h t e r =>
    simp only [Stps.sz] at hz
    refine CW_mono (hs pre k v x h t e r T S hx hz hJ) fun ex T' S' h => ⟨?_⟩
    have := h.of
    cases ex with
    | norm => exact ⟨r.len, by simp [Stps.len], _, r, by rw [hx]; simp [Stps.rows], rfl, by omega, this⟩
    | exit i => exact this
    | ret => exact this
theorem k_spec_l11At0 (ls : List Lab) (ss l : Stps) (here : Lab) (S : St) (hb : l.sz ≤ 1048576) (hv : varsOk ls.length l = true) : Ev Y spec_l11At [PR ls ss, .lst l.rows, .agg (lrow here), .nils] S (LS (ats ls l here)) S := by
  cases l with
  | nil =>
    refine E_start (h := ?_)
    repeat' (first | refine c0 ?_ | refine c7 ?_ | refine d2 ?_ | refine c8 ?_ | refine d4 ?_ | refine b1 (hk := ?_) | refine b3 (hk := ?_) | refine a5 (hk := ?_))
    refine d5 ?_
    repeat' (first | refine c0 ?_ | refine c2 ?_ | refine c5 ?_ | refine c7 ?_ | refine d2 ?_ | refine c9 ?_ | refine d1 ?_ | refine d4 ?_ | refine a5 (hk := ?_) | refine d7 (hf := ?_))
    exact rV
  | cons kk v x hh t e r =>
    have hl0 : (Stps.cons kk v x hh t e r).rows = [] ++ srow kk v x hh t e :: r.rows := rfl
    have hsz : (Stps.cons kk v x hh t e r).sz = 1 + t.sz + e.sz + r.sz := rfl
    simp only [varsOk, Bool.and_eq_true] at hv
    obtain ⟨hv0, hvt, hve, hvr⟩ := hv
    obtain ⟨j, rfl, hj⟩ := vOk_at hv0
    generalize hl : Stps.cons kk (j : Int) x hh t e r = l at *
    have hg := mid hl0
    have hlt := mid_lt hl0
    have hll := l.rows_len
    have hls := l.len_sz
    have hlt' : ((([] : List (List HV)).length : Nat) : Int) < (l.rows.length : Int) := by omega
    have hlt' : (0 : Int) < (l.rows.length : Int) := hlt'
    have ha : ats ls l here = here :: (ats ls t (lboth here (labAt ls j)) ++ (ats ls e (lboth here (labAt ls j)) ++ ats ls r here)) := by rw [← hl]; rfl
    refine E_start (h := ?_)
    repeat' (first | refine c0 ?_ | refine c7 ?_ | refine d2 ?_ | refine c8 ?_ | refine d4 ?_ | refine b1 (hk := ?_) | refine b3 (hk := ?_) | refine a5 (hk := ?_))
    refine d5 ?_
    repeat' (first | refine c0 ?_ | refine c3 ?_ | refine c7 ?_ | refine d2 ?_ | refine c8 ?_ | refine d0 ?_ | refine d4 ?_ | refine d3' (h := ?_) | refine d4' ?_ | refine k0' (he := (by first | exact k_spec_LabelBoth _ _ _ | exact k_spec_l11At t.sz ls ss t _ _ _ _ _ (Nat.le_refl _) (by omega) hvt (by first | exact get_own rfl | exact get_set (by assumption)) (by first | omega | (simp only [List.length_append, List.length_cons, List.length_nil, List.length_map, ats_len]; try omega)) rfl rfl (by first | omega | (simp only [List.length_append, List.length_cons, List.length_nil, List.length_map, ats_len]; try omega)) | exact k_spec_l11At e.sz ls ss e _ _ _ _ _ (Nat.le_refl _) (by omega) hve (by first | exact get_own rfl | exact get_set (by assumption)) (by first | omega | (simp only [List.length_append, List.length_cons, List.length_nil, List.length_map, ats_len]; try omega)) (all2 rfl (lrow2 _)) (allP rfl (lrow_pure _)) (by first | omega | (simp only [List.length_append, List.length_cons, List.length_nil, List.length_map, ats_len]; try omega)))) (hk := ?_) | refine k1' (he := (by first | exact k_spec_LabelBoth _ _ _ | exact k_spec_l11At t.sz ls ss t _ _ _ _ _ (Nat.le_refl _) (by omega) hvt (by first | exact get_own rfl | exact get_set (by assumption)) (by first | omega | (simp only [List.length_append, List.length_cons, List.length_nil, List.length_map, ats_len]; try omega)) rfl rfl (by first | omega | (simp only [List.length_append, List.length_cons, List.length_nil, List.length_map, ats_len]; try omega)) | exact k_spec_l11At e.sz ls ss e _ _ _ _ _ (Nat.le_refl _) (by omega) hve (by first | exact get_own rfl | exact get_set (by assumption)) (by first | omega | (simp only [List.length_append, List.length_cons, List.length_nil, List.length_map, ats_len]; try omega)) (all2 rfl (lrow2 _)) (allP rfl (lrow_pure _)) (by first | omega | (simp only [List.length_append, List.length_cons, List.length_nil, List.length_map, ats_len]; try omega)))) (hk := ?_) | refine p1 (hk := ?_) | refine a5 (hk := ?_) | refine b5 (hk := ?_) | refine b0' (hk := ?_) | refine e5' (hk := ?_) | refine f5' (hk := ?_) | refine f6' (hk := ?_) | refine f8' (hk := ?_) | refine b7' (hk := ?_) | refine u7 (hk := ?_))
    have e3 : ((0 : Int)) + 1 = ((1 : Nat) : Int) := rfl
    refine C_stpsFrom l [srow kk j x hh t e] r (by rw [hl0]; rfl) (by omega) (fun pre r T' S' => ∃ (T0 : Tm) (S1 : St) (d : List Lab), varsOk ls.length r = true ∧ ats ls l here = d ++ ats ls r here ∧ Ext S S1 ∧ S1[S.length + 0]? = some (.cells false [[LS ls, .lst ss.rows]]) ∧ S1[S.length + 1]? = some (.cells false [lrow here]) ∧ S1[S.length + 3]? = some (.cells true (d.map lrow)) ∧
        T' = putL T0 [(1, .lst l.rows), (3, .sl (S.length + 3) d.length), (4, .ptr (S.length + 0) 1 0 0), (6, .ptr (S.length + 1) 1 0 0), (9, I pre.length)] ∧ S' = S1 ++ [])
      ⟨_, _, here :: (ats ls t (lboth here (labAt ls j)) ++ ats ls e (lboth here (labAt ls j))), hvr, by rw [ha]; simp, ex0, get_own rfl, get_own rfl, (by rw [get_own rfl]; simp), at_mk ⟨rfl, ?_, rfl, rfl, rfl, trivial⟩, (List.append_nil _).symm⟩ ?_ ?_
    · show HV.sl _ _ = _; simp [ats_len]; omega
    · rintro pre kk v x hh t e r T' S' hx hz ⟨T0, S1, d, hvr, hq, hE, f0, f1, f3, rfl, rfl⟩
      have hg := mid hx
      have hlt := mid_lt hx
      simp only [varsOk, Bool.and_eq_true] at hvr
      obtain ⟨hv0, hvt, hve, hvr⟩ := hvr
      obtain ⟨j, rfl, hj⟩ := vOk_at hv0
      have n0 : S.length + 0 ≠ S.length + 3 := by omega
      have n1 : S.length + 1 ≠ S.length + 3 := by omega
      have z0 := ats_len ls l here
      have z1 := congrArg List.length hq
      simp only [ats, List.length_append, List.length_cons, ats_len] at z1
      have e0 : (d.map lrow).length = d.length := by simp
      have e1 := lrow2 d
      have p1 := lrow_pure d
      repeat' (first | refine c0 ?_ | refine c2 ?_ | refine c3 ?_ | refine c5 ?_ | refine c7 ?_ | refine d2 ?_ | refine c8 ?_ | refine c9 ?_ | refine d0 ?_ | refine d1 ?_ | refine d4 ?_ | refine d3' (h := ?_) | refine d4' ?_ | refine k0' (he := (by first | exact k_spec_LabelBoth _ _ _ | exact k_spec_l11At t.sz ls ss t _ _ _ _ _ (Nat.le_refl _) (by omega) hvt (get_set (by assumption)) (by first | omega | (simp only [List.length_append, List.length_cons, List.length_nil, List.length_map, ats_len]; try omega)) (all2 e1 rfl) (allP p1 rfl) (by first | omega | (simp only [List.length_append, List.length_cons, List.length_nil, List.length_map, ats_len]; try omega)) | exact k_spec_l11At e.sz ls ss e _ _ _ _ _ (Nat.le_refl _) (by omega) hve (get_set (by assumption)) (by first | omega | (simp only [List.length_append, List.length_cons, List.length_nil, List.length_map, ats_len]; try omega)) (all2 (all2 e1 rfl) (lrow2 _)) (allP (allP p1 rfl) (lrow_pure _)) (by first | omega | (simp only [List.length_append, List.length_cons, List.length_nil, List.length_map, ats_len]; try omega)))) (hk := ?_) | refine k1' (he := (by first | exact k_spec_LabelBoth _ _ _ | exact k_spec_l11At t.sz ls ss t _ _ _ _ _ (Nat.le_refl _) (by omega) hvt (get_set (by assumption)) (by first | omega | (simp only [List.length_append, List.length_cons, List.length_nil, List.length_map, ats_len]; try omega)) (all2 e1 rfl) (allP p1 rfl) (by first | omega | (simp only [List.length_append, List.length_cons, List.length_nil, List.length_map, ats_len]; try omega)) | exact k_spec_l11At e.sz ls ss e _ _ _ _ _ (Nat.le_refl _) (by omega) hve (get_set (by assumption)) (by first | omega | (simp only [List.length_append, List.length_cons, List.length_nil, List.length_map, ats_len]; try omega)) (all2 (all2 e1 rfl) (lrow2 _)) (allP (allP p1 rfl) (lrow_pure _)) (by first | omega | (simp only [List.length_append, List.length_cons, List.length_nil, List.length_map, ats_len]; try omega)))) (hk := ?_) | refine a5 (hk := ?_) | refine b5 (hk := ?_) | refine p0 (hk := ?_) | refine b0' (hk := ?_) | refine e5' (hk := ?_) | refine f5' (hk := ?_) | refine f6' (hk := ?_) | refine f8' (hk := ?_) | refine b7' (hk := ?_) | (with_reducible intro hc) | refine d8 (ht := ?_) (hf := ?_))
      · refine ⟨_, _, d ++ here :: (ats ls t (lboth here (labAt ls j)) ++ ats ls e (lboth here (labAt ls j))), hvr, ?_, ex1 (ex2 hE (Nat.le_add_right _ _)), get_setN n0 f0, get_setN n1 f1, ?_, at_mk ⟨rfl, ?_, rfl, rfl, inc (by omega), trivial⟩, (List.append_nil _).symm⟩
        · rw [hq]; simp [ats]
        · rw [get_set f3]; simp
        · show HV.sl _ _ = _
          simp [ats_len]; omega
      · omega
    · rintro pre T' S' hx ⟨T0, S1, d, hvr, hq, hE, f0, f1, f3, rfl, rfl⟩
      repeat' (first | refine c0 ?_ | refine c2 ?_ | refine c5 ?_ | refine c7 ?_ | refine d2 ?_ | refine c8 ?_ | refine c9 ?_ | refine d0 ?_ | refine d1 ?_ | refine d4 ?_ | refine a5 (hk := ?_) | refine b5 (hk := ?_) | (with_reducible intro hc) | refine d8 (ht := ?_) (hf := ?_))
      · simp [hx] at hc
      · exact rLx hE (hn := by simp) (hp := lrow_pure d) (hv := by rw [hq]; simp [ats])
theorem k_spec_TypeAt (ls : List Lab) (ss : Stps) (S : St) (hok : progOk ls ss = true) : Ev Y spec_TypeAt [PR ls ss] S (LS (ats ls ss lany)) S := by
  obtain ⟨h1, h2, h3, h4⟩ := progOk_in hok
  have hno : (!progOk ls ss) = false := by rw [hok]; rfl
  have hvs := stepsOk_vars _ _ _ h3
  refine E_start (h := ?_)
  repeat' (first | refine c0 ?_ | refine c7 ?_ | refine d2 ?_ | refine c9 ?_ | refine d0 ?_ | refine d4 ?_ | refine d3' (h := ?_) | refine d4' ?_ | refine k0 (he := (by first | exact k_spec_ProgOk _ _ _ (by omega) (by omega) | exact k_spec_l11Any _ | exact k_spec_l11At0 _ _ _ _ _ (by omega) hvs)) (hk := ?_) | refine k0' (he := (by first | exact k_spec_ProgOk _ _ _ (by omega) (by omega) | exact k_spec_l11Any _ | exact k_spec_l11At0 _ _ _ _ _ (by omega) hvs)) (hk := ?_) | refine k3' (he := (by first | exact k_spec_ProgOk _ _ _ (by omega) (by omega) | exact k_spec_l11Any _ | exact k_spec_l11At0 _ _ _ _ _ (by omega) hvs)) (hk := ?_) | refine b1 (hk := ?_) | refine b3 (hk := ?_) | refine a5 (hk := ?_) | refine b5 (hk := ?_) | refine b4' (hk := ?_) | refine e5' (hk := ?_) | refine f5' (hk := ?_) | refine u6 (hk := ?_))
  exact rV
def whyL (ls : List Lab) : Stps → List Lab → Nat → Option Nat
  | .cons k v x h _ _ r, here :: hs, i => if fineG ls k v x h here then whyL ls r hs (i + 1) else some i
  | _, _, _ => none
def whyP (ls : List Lab) (ss : Stps) : Option Nat := if progOk ls ss then whyL ls ss.all (ats ls ss lany) 0 else none
abbrev WHY (o : Option Nat) : HV := .tup [I ((o.getD 0 : Nat) : Int), .bool o.isSome]
theorem k_spec_TypeWhy (ls : List Lab) (ss : Stps) (S : St) (hs : ss.sz ≤ 1048576) (hl : ls.length ≤ 1048576) : Ev Y spec_TypeWhy [PR ls ss] S (WHY (whyP ls ss)) S := by
  by_cases hok : progOk ls ss = true
  · obtain ⟨h1, h2, h3, h4⟩ := progOk_in hok
    have hno : (!progOk ls ss) = false := by rw [hok]; rfl
    rw [show whyP ls ss = whyL ls ss.all (ats ls ss lany) 0 by simp [whyP, hok]]
    refine E_start (h := ?_)
    repeat' (first | refine c0 ?_ | refine c7 ?_ | refine d2 ?_ | refine c8 ?_ | refine d0 ?_ | refine d4 ?_ | refine k0 (he := (by first | exact k_spec_ProgOk _ _ _ hs hl | exact k_spec_l2All' _ _ hs | exact k_spec_TypeAt _ _ _ hok)) (hk := ?_) | refine b1 (hk := ?_) | refine a5 (hk := ?_) | refine b5 (hk := ?_) | refine u6 (hk := ?_))
    refine C_stps ss.all (fun pre r T' S' => ∃ (T0 : Tm) (S1 : St) (d hs' : List Lab), ats ls ss lany = d ++ hs' ∧ d.length = pre.length ∧ hs'.length = r.len ∧ flatOk ls.length r = true ∧ whyL ls ss.all (ats ls ss lany) 0 = whyL ls r hs' pre.length ∧ Ext S S1 ∧ S1[S.length + 0]? = some (.cells false [[LS ls, .lst ss.rows]]) ∧
        T' = putL T0 [(1, .ptr (S.length + 0) 1 0 0), (4, .lst ss.all.rows), (5, LS (ats ls ss lany)), (6, I pre.length)] ∧ S' = S1 ++ [])
      ⟨_, _, [], _, rfl, rfl, by rw [ats_len, Stps.all_len], stepsOk_flat _ _ _ h3, rfl, ex0, get_own rfl, at_mk ⟨rfl, rfl, rfl, rfl, trivial⟩, (List.append_nil _).symm⟩ ?_ ?_
    · rintro pre k v x hh t e r T' S' hx hz ⟨T0, S1, d, hs', he, hd, hsl, hf, hq, hE, h0, rfl, rfl⟩
      cases hs' with
      | nil => simp [Stps.len] at hsl
      | cons here hs' =>
        have hg := mid hx
        have hlt := mid_lt hx
        have hg2 := mid he
        rw [hd] at hg2
        have := ss.all.rows_len
        have := ss.all_len
        simp only [flatOk, Bool.and_eq_true] at hf
        obtain ⟨f1, f2, f3, f4, f5⟩ := hf
        simp only [whyL] at hq
        have fx : k = 1 → valOk ls.length x = true := fun hk => by simpa [hk] using f2
        repeat' (first | refine c0 ?_ | refine c1 ?_ | refine c2 ?_ | refine c3 ?_ | refine c4 ?_ | refine c5 ?_ | refine c7 ?_ | refine d2 ?_ | refine c8 ?_ | refine c9 ?_ | refine d0 ?_ | refine d1 ?_ | refine d4 ?_ | refine d3' (h := ?_) | refine d4' ?_ | refine k0' (he := (by first | exact k_spec_l11Fine _ _ _ _ _ _ _ _ _ _ f1 fx)) (hk := ?_) | refine a5 (hk := ?_) | refine e5' (hk := ?_) | refine f5' (hk := ?_) | refine f6' (hk := ?_) | refine f8' (hk := ?_) | (with_reducible intro hc) | refine d8 (ht := ?_) (hf := ?_) | refine d9 (ht := ?_) (hf := ?_))
        · refine rVx hE (hv := ?_)
          simp at hc
          rw [hq, hc]; rfl
        · refine ⟨_, _, d ++ [here], hs', by rw [he]; simp, by simp [hd], by simpa [Stps.len] using hsl, f5, ?_, ex1 hE, get_old h0, at_mk ⟨rfl, rfl, rfl, inc (by omega), trivial⟩, (List.append_nil _).symm⟩
          simp at hc
          rw [hq, hc]; simp
        · omega
    · rintro pre T' S' hx ⟨T0, S1, d, hs', he, hd, hsl, hf, hq, hE, h0, rfl, rfl⟩
      repeat' (first | refine c0 ?_ | refine c2 ?_ | refine c5 ?_ | refine c7 ?_ | refine d2 ?_ | refine c8 ?_ | refine c9 ?_ | refine d0 ?_ | refine d1 ?_ | refine d4 ?_ | refine d3' (h := ?_) | refine a5 (hk := ?_) | refine e5' (hk := ?_) | refine f5' (hk := ?_) | (with_reducible intro hc) | refine d8 (ht := ?_) (hf := ?_))
      · simp [hx] at hc
      · refine rVx hE (hv := ?_)
        rw [hq]; rfl
  · have hno : (!progOk ls ss) = true := by simpa using hok
    rw [show whyP ls ss = none by simp [whyP, hok]]
    refine E_start (h := ?_)
    repeat' (first | refine c0 ?_ | refine c1 ?_ | refine c7 ?_ | refine d2 ?_ | refine c9 ?_ | refine d4 ?_ | refine k0 (he := (by first | exact k_spec_ProgOk _ _ _ hs hl)) (hk := ?_) | refine b1 (hk := ?_) | refine a5 (hk := ?_) | refine b5 (hk := ?_) | refine u5 (hk := ?_))
    exact rV
end Go.Proofs.X
end
section
namespace Go.Proofs.X
open Go Go.Proofs.XVai Go.Proofs Go.Proofs.XN
set_option linter.unusedVariables false
set_option linter.unusedSimpArgs false
set_option maxHeartbeats 4000000

abbrev wrow (w : Int × Int) : List HV := [I w.1, I w.2]
abbrev WS (ws : List (Int × Int)) : HV := .lst (ws.map wrow)
abbrev RN (nums : List Int) (ws ss : List (Int × Int)) : HV := .agg [L nums, WS ws, WS ss]
theorem wrow_pure (l : List (Int × Int)) : (l.map wrow).all (fun r => r.all pureC) = true := by simp [pureC]
theorem irow1 (l : List Int) : (l.map irow).all (fun r => r.length == 1) = true := by simp
theorem brow1 (l : List Bool) : (l.map fun x => [HV.bool x]).all (fun r => r.length == 1) = true := by simp
theorem wrow2 (l : List (Int × Int)) : (l.map wrow).all (fun r => r.length == 2) = true := by simp
def numsOk (ls : List Lab) (ss : Stps) (nums : List Int) : Bool := progOk ls ss && (nums.length == ls.length) && nums.all (fun n => inB n 0 9)
theorem k_spec_NumsOk (ls : List Lab) (ss : Stps) (nums : List Int) (S : St) (hs : ss.sz ≤ 1048576) (hl : ls.length ≤ 1048576) (hn : nums.length ≤ 1048576) : Ev Y spec_NumsOk [PR ls ss, L nums] S (.bool (numsOk ls ss nums)) S := by
  refine E_start (h := ?_)
  repeat' (first | refine c0 ?_ | refine c1 ?_ | refine c7 ?_ | refine d2 ?_ | refine c8 ?_ | refine c9 ?_ | refine d0 ?_ | refine d4 ?_ | refine a0 (hk := ?_) | refine k0 (he := (by first | exact k_spec_ProgOk _ _ _ hs hl)) (hk := ?_) | refine b1 (hk := ?_) | refine a4 (ht := ?_) (hf := ?_) | refine a5 (hk := ?_) | refine b5 (hk := ?_) | (with_reducible intro hc) | refine d6 (ht := ?_) | refine d9 (ht := ?_) (hf := ?_))
  · refine rB (hv := ?_)
    simp at hc
    simp [numsOk, hc]
  · refine rB (hv := ?_)
    have : (nums.length == ls.length) = false := by simp only [List.length_map] at hc; simp at hc ⊢; omega
    simp [numsOk, this]
  · rename_i hp
    have h1 : progOk ls ss = true := by simpa using hp
    have h2 : (nums.length == ls.length) = true := by simp only [List.length_map] at hc; simp at hc ⊢; omega
    refine C_list nums (fun pre r T' S' => ∃ (T0 : Tm) (S1 : St), numsOk ls ss nums = r.all (fun n => inB n 0 9) ∧ Ext S S1 ∧ T' = putL T0 [(1, L nums), (5, I pre.length)] ∧ S' = S1 ++ [])
      ⟨_, _, by simp [numsOk, h1, h2], ex0, at_mk ⟨rfl, rfl, trivial⟩, (List.append_nil _).symm⟩ ?_ ?_
    · rintro pre x r T' S' hx ⟨T0, S1, hq, hE, rfl, rfl⟩
      have hg := mid hx
      have hlt := mid_lt hx
      repeat' (first | refine c0 ?_ | refine c1 ?_ | refine c2 ?_ | refine c3 ?_ | refine c4 ?_ | refine c5 ?_ | refine c7 ?_ | refine d2 ?_ | refine c8 ?_ | refine c9 ?_ | refine d0 ?_ | refine d1 ?_ | refine d4 ?_ | refine k0 (he := (by first | exact k_spec_l6In _ _ _ _)) (hk := ?_) | refine a5 (hk := ?_) | refine b6 (hk := ?_) | refine b8 (hk := ?_) | (with_reducible intro hc) | refine d8 (ht := ?_) (hf := ?_) | refine d9 (ht := ?_) (hf := ?_))
      · refine rBx hE (hv := ?_)
        simp at hc
        simp [hq, hc]
      · refine ⟨_, _, ?_, ex1 hE, at_mk ⟨rfl, inc (by omega), trivial⟩, (List.append_nil _).symm⟩
        simp at hc
        simp [hq, hc]
      · simp at hc; omega
    · rintro T' S' ⟨T0, S1, hq, hE, rfl, rfl⟩
      repeat' (first | refine c0 ?_ | refine c2 ?_ | refine c5 ?_ | refine c7 ?_ | refine d2 ?_ | refine c8 ?_ | refine c9 ?_ | refine d0 ?_ | refine d1 ?_ | refine d4 ?_ | refine a5 (hk := ?_) | (with_reducible intro hc) | refine d8 (ht := ?_) (hf := ?_))
      · simp at hc
      · exact rBx hE (hv := by rw [hq]; rfl)
def runTo (said : List (Int × Int)) (host : Int) : List Int := (said.filter fun s => s.1 == host).map (·.2)
theorem k_spec_RunTo (nums : List Int) (ws ss : List (Int × Int)) (host : Int) (S : St) (hs : ss.length ≤ 1048576) : Ev Y spec_RunTo [RN nums ws ss, I host] S (L (runTo ss host)) S := by
  refine E_start (h := ?_)
  repeat' (first | refine c0 ?_ | refine c7 ?_ | refine d2 ?_ | refine c8 ?_ | refine d4 ?_ | refine b1 (hk := ?_) | refine b3 (hk := ?_) | refine b4 (hk := ?_) | refine a5 (hk := ?_))
  refine C_list ss (fun pre r T' S' => ∃ (T0 : Tm) (S1 : St) (d : List Int), runTo ss host = d ++ runTo r host ∧ d.length ≤ pre.length ∧ Ext S S1 ∧ S1[S.length + 0]? = some (.cells false [[L nums, WS ws, WS ss]]) ∧ S1[S.length + 2]? = some (.cells true (d.map irow)) ∧
      T' = putL T0 [(1, I host), (2, .ptr (S.length + 0) 1 0 0), (5, .sl (S.length + 2) d.length), (6, I pre.length)] ∧ S' = S1 ++ [])
    ⟨_, _, [], rfl, by simp, ex0, get_own rfl, get_own rfl, at_mk ⟨rfl, rfl, rfl, rfl, trivial⟩, (List.append_nil _).symm⟩ ?_ ?_
  · rintro pre x r T' S' hx ⟨T0, S1, d, hq, hd, hE, h0, h1, rfl, rfl⟩
    have hg := mid hx
    have hlt := mid_lt hx
    have e1 := irow1 d
    have e2 : (d.map irow).length = d.length := by simp
    have n1 : S.length + 0 ≠ S.length + 2 := by omega
    repeat' (first | refine c0 ?_ | refine c2 ?_ | refine c3 ?_ | refine c5 ?_ | refine c7 ?_ | refine d2 ?_ | refine c8 ?_ | refine c9 ?_ | refine d0 ?_ | refine d1 ?_ | refine d4 ?_ | refine a5 (hk := ?_) | refine b5 (hk := ?_) | refine b6 (hk := ?_) | refine b8 (hk := ?_) | refine p0 (hk := ?_) | (with_reducible intro hc) | refine d8 (ht := ?_) (hf := ?_) | refine d9 (ht := ?_) (hf := ?_))
    · refine ⟨_, _, d ++ [x.2], ?_, by simp; omega, ex1 (ex2 hE (Nat.le_add_right _ _)), get_setN n1 h0, ?_, at_mk ⟨rfl, rfl, ?_, inc (by omega), trivial⟩, (List.append_nil _).symm⟩
      · rw [hq]; simp at hc; simp [runTo, hc]
      · rw [get_set h1, List.map_append]; rfl
      · show HV.sl _ _ = _; simp
    · refine ⟨_, _, d, ?_, by simp; omega, ex1 hE, get_old h0, get_old h1, at_mk ⟨rfl, rfl, rfl, inc (by omega), trivial⟩, (List.append_nil _).symm⟩
      rw [hq]; simp at hc; simp [runTo, hc]
    · simp at hc; omega
  · rintro T' S' ⟨T0, S1, d, hq, hd, hE, h0, h1, rfl, rfl⟩
    repeat' (first | refine c0 ?_ | refine c2 ?_ | refine c5 ?_ | refine c7 ?_ | refine d2 ?_ | refine c8 ?_ | refine c9 ?_ | refine d0 ?_ | refine d1 ?_ | refine d4 ?_ | refine a5 (hk := ?_) | refine b5 (hk := ?_) | (with_reducible intro hc) | refine d8 (ht := ?_) (hf := ?_))
    · simp at hc
    · exact rLx hE (hn := by simp) (hp := irow_pure d) (hv := by rw [hq]; simp [runTo])
def runSets (ws : List (Int × Int)) (vars : List Bool) : List (Int × Int) := ws.filter fun w => inB w.1 0 (vars.length - 1) && vars.getD w.1.toNat false
theorem k_spec_RunSets (nums : List Int) (ws ss : List (Int × Int)) (vars : List Bool) (S : St) (hs : ws.length ≤ 1048576) (hv : vars.length ≤ 1048576) : Ev Y spec_RunSets [RN nums ws ss, BL vars] S (WS (runSets ws vars)) S := by
  refine E_start (h := ?_)
  repeat' (first | refine c0 ?_ | refine c7 ?_ | refine d2 ?_ | refine c8 ?_ | refine d4 ?_ | refine b1 (hk := ?_) | refine b3 (hk := ?_) | refine b4 (hk := ?_) | refine a5 (hk := ?_))
  refine C_list ws (fun pre r T' S' => ∃ (T0 : Tm) (S1 : St) (d : List (Int × Int)), runSets ws vars = d ++ runSets r vars ∧ d.length ≤ pre.length ∧ Ext S S1 ∧ S1[S.length + 0]? = some (.cells false [[L nums, WS ws, WS ss]]) ∧ S1[S.length + 2]? = some (.cells true (d.map wrow)) ∧
      T' = putL T0 [(1, BL vars), (2, .ptr (S.length + 0) 1 0 0), (5, .sl (S.length + 2) d.length), (6, I pre.length)] ∧ S' = S1 ++ [])
    ⟨_, _, [], rfl, by simp, ex0, get_own rfl, get_own rfl, at_mk ⟨rfl, rfl, rfl, rfl, trivial⟩, (List.append_nil _).symm⟩ ?_ ?_
  · rintro pre x r T' S' hx ⟨T0, S1, d, hq, hd, hE, h0, h1, rfl, rfl⟩
    have hg := mid hx
    have hlt := mid_lt hx
    have e1 := wrow2 d
    have e2 : (d.map wrow).length = d.length := by simp
    have n1 : S.length + 0 ≠ S.length + 2 := by omega
    have e3 : IntKind.i64.wrap (((vars.map fun x => [HV.bool x]).length : Int) - 1) = (vars.length : Int) - 1 := by rw [List.length_map, i64_id (by omega) (by omega)]
    have step : runSets (x :: r) vars = (if inB x.1 0 (vars.length - 1) && vars.getD x.1.toNat false then [x] else []) ++ runSets r vars := by
      simp only [runSets, List.filter_cons]; split <;> simp
    by_cases hi : inB x.1 0 ((vars.length : Int) - 1) = true
    · simp only [inB, decide_eq_true_eq] at hi
      obtain ⟨x1, x2⟩ := x
      obtain ⟨j, rfl⟩ := Int.eq_ofNat_of_zero_le hi.1
      have hj : j < vars.length := by simp at hi; omega
      have hgv : vars[j]? = some vars[j] := by simp [hj]
      have hin : inB (j : Int) 0 ((vars.length : Int) - 1) = true := by simp only [inB, decide_eq_true_eq]; omega
      have hgd : vars.getD ((j : Nat) : Int).toNat false = vars[j] := by simp [hj]
      simp only [hin, hgd, Bool.true_and] at step
      have hin' : inB (j : Int) 0 (IntKind.i64.wrap (((vars.map fun x => [HV.bool x]).length : Int) - 1)) = true := by rw [e3]; exact hin
      clear hi e3
      repeat' (first | refine c0 ?_ | refine c2 ?_ | refine c3 ?_ | refine c5 ?_ | refine c7 ?_ | refine d2 ?_ | refine c8 ?_ | refine c9 ?_ | refine d0 ?_ | refine d1 ?_ | refine d4 ?_ | refine k0 (he := (by first | exact k_spec_l6In _ _ _ _)) (hk := ?_) | refine u1 (hk := ?_) | refine a5 (hk := ?_) | refine b5 (hk := ?_) | refine b6 (hk := ?_) | refine b8 (hk := ?_) | refine p0 (hk := ?_) | (with_reducible intro hc) | refine d8 (ht := ?_) (hf := ?_) | refine d9 (ht := ?_) (hf := ?_))
      · refine ⟨_, _, d ++ [((j : Int), x2)], ?_, by simp; omega, ex1 (ex2 hE (Nat.le_add_right _ _)), get_setN n1 h0, ?_, at_mk ⟨rfl, rfl, ?_, inc (by omega), trivial⟩, (List.append_nil _).symm⟩
        · rw [hq, step, hc]; simp
        · rw [get_set h1]; simp
        · show HV.sl _ _ = _; simp
      · refine ⟨_, _, d, ?_, by simp; omega, ex1 hE, get_old h0, get_old h1, at_mk ⟨rfl, rfl, rfl, inc (by omega), trivial⟩, (List.append_nil _).symm⟩
        rw [hq, step, hc]; simp
      · simp at hc; omega
    · have hi' : inB x.1 0 ((vars.length : Int) - 1) = false := by simpa using hi
      have hin' : inB x.1 0 (IntKind.i64.wrap (((vars.map fun x => [HV.bool x]).length : Int) - 1)) = false := by rw [e3]; exact hi'
      simp only [hi', Bool.false_and] at step
      clear hi e3
      repeat' (first | refine c0 ?_ | refine c2 ?_ | refine c3 ?_ | refine c5 ?_ | refine c7 ?_ | refine d2 ?_ | refine c8 ?_ | refine c9 ?_ | refine d0 ?_ | refine d1 ?_ | refine d4 ?_ | refine a0 (hk := ?_) | refine k0 (he := (by first | exact k_spec_l6In _ _ _ _)) (hk := ?_) | refine u2 (hk := ?_) | refine a5 (hk := ?_) | refine b5 (hk := ?_) | refine b6 (hk := ?_) | refine b8 (hk := ?_) | (with_reducible intro hc) | refine d7 (hf := ?_) | refine d8 (ht := ?_) (hf := ?_))
      · refine ⟨_, _, d, ?_, by simp; omega, ex1 hE, get_old h0, get_old h1, at_mk ⟨rfl, rfl, rfl, inc (by omega), trivial⟩, (List.append_nil _).symm⟩
        rw [hq, step]; simp
      · simp at hc; omega
  · rintro T' S' ⟨T0, S1, d, hq, hd, hE, h0, h1, rfl, rfl⟩
    repeat' (first | refine c0 ?_ | refine c2 ?_ | refine c5 ?_ | refine c7 ?_ | refine d2 ?_ | refine c8 ?_ | refine c9 ?_ | refine d0 ?_ | refine d1 ?_ | refine d4 ?_ | refine a5 (hk := ?_) | refine b5 (hk := ?_) | (with_reducible intro hc) | refine d8 (ht := ?_) (hf := ?_))
    · simp at hc
    · exact rLx hE (hn := by simp) (hp := wrow_pure d) (hv := by rw [hq]; simp [runSets])

/-! ### rows -/
def row2 (n size : Nat) : List Int := (List.range size).map fun i => ((n / 2 ^ i % 2 : Nat) : Int)
theorem row2_succ (n i : Nat) : row2 n (i + 1) = row2 n i ++ [((n / 2 ^ i % 2 : Nat) : Int)] := by simp [row2, List.range_succ]
theorem row2_len (n i : Nat) : (row2 n i).length = i := by simp [row2]
theorem k_spec_l12Row (n size : Nat) (S : St) (hn : n ≤ 1048576) (hs : size ≤ 60) : Ev Y spec_l12Row [I n, I size] S (L (row2 n size)) S := by
  refine E_start (h := ?_)
  repeat' (first | refine c0 ?_ | refine c7 ?_ | refine d2 ?_ | refine c8 ?_ | refine d4 ?_ | refine b3 (hk := ?_) | refine b4 (hk := ?_) | refine a5 (hk := ?_))
  refine C_loop (fun m T' S' => ∃ (T0 : Tm) (S1 : St) (i : Nat), i + m = size ∧ Ext S S1 ∧ S1[S.length + 1]? = some (.cells true ((row2 n i).map irow)) ∧ T' = putL T0 [(0, I n), (1, I size), (5, .sl (S.length + 1) i), (6, I i)] ∧ S' = S1 ++ []) size
    ⟨_, _, 0, by omega, ex0, get_own rfl, at_mk ⟨rfl, rfl, rfl, rfl, trivial⟩, (List.append_nil _).symm⟩ ?_
  rintro m T' S' ⟨T0, S1, i, hi, hE, h0, rfl, rfl⟩
  have e1 := irow1 (row2 n i)
  have e2 : ((row2 n i).map irow).length = i := by simp [row2_len]
  cases m with
  | zero =>
    have hc0 : ¬ ((i : Int) < (size : Int)) := by omega
    repeat' (first | refine c0 ?_ | refine c2 ?_ | refine c5 ?_ | refine c7 ?_ | refine d2 ?_ | refine c9 ?_ | refine d1 ?_ | refine d4 ?_ | refine a5 (hk := ?_) | refine u8 (hk := ?_))
    exact rLx hE (hp := irow_pure _) (hv := by rw [show i = size by omega])
  | succ m =>
    have hc0 : (i : Int) < (size : Int) := by omega
    have e3 : ((n : Int).fdiv (2 ^ min (Int.toNat (i : Int)) IntKind.i64.bits)).tmod 2 = ((n / 2 ^ i % 2 : Nat) : Int) := by
      have : min (Int.toNat (i : Int)) IntKind.i64.bits = i := by simp [IntKind.bits]; omega
      rw [this, Int.fdiv_eq_ediv_of_nonneg _ (Int.le_of_lt (Int.pow_pos (by omega)))]
      rw [show ((2 : Int) ^ i) = ((2 ^ i : Nat) : Int) by simp]
      rfl
    repeat' (first | refine c0 ?_ | refine c3 ?_ | refine c7 ?_ | refine d2 ?_ | refine c8 ?_ | refine d0 ?_ | refine d4 ?_ | refine a5 (hk := ?_) | refine p0 (hk := ?_) | refine u7 (hk := ?_))
    refine ⟨m, by omega, _, _, i + 1, by omega, ex1 (ex2 hE (Nat.le_add_right _ _)), ?_, at_mk ⟨rfl, rfl, ?_, ?_, trivial⟩, (List.append_nil _).symm⟩
    · rw [get_set h0, row2_succ, List.map_append, ← e3]; rfl
    · rfl
    · show HV.int _ _ = _
      rw [i64_id (by omega) (by omega)]; simp
theorem k_spec_l12Ints (xs ys : List Int) (S : St) (hx : xs.length ≤ 1048576) (hy : ys.length ≤ 1048576) : Ev Y spec_l12Ints [L xs, L ys] S (.bool (xs == ys)) S := by
  refine E_start (h := ?_)
  repeat' (first | refine c0 ?_ | refine c1 ?_ | refine c7 ?_ | refine d2 ?_ | refine c8 ?_ | refine c9 ?_ | refine d0 ?_ | refine d4 ?_ | refine a5 (hk := ?_) | (with_reducible intro hc) | refine d9 (ht := ?_) (hf := ?_))
  · refine rB (hv := ?_)
    simp at hc
    symm; simp; intro e; rw [e] at hc; exact hc rfl
  · have hlen : xs.length = ys.length := by simp at hc; omega
    refine C_list xs (fun pre r T' S' => ∃ (T0 : Tm) (S1 : St), (xs == ys) = (r == ys.drop pre.length) ∧ Ext S S1 ∧ T' = putL T0 [(0, L xs), (1, L ys), (5, I pre.length)] ∧ S' = S1 ++ [])
      ⟨_, _, rfl, ex0, at_mk ⟨rfl, rfl, rfl, trivial⟩, (List.append_nil _).symm⟩ ?_ ?_
    · rintro pre x r T' S' hxs ⟨T0, S1, hq, hE, rfl, rfl⟩
      have hg := mid hxs
      have hlt := mid_lt hxs
      have hlt2 : pre.length < ys.length := by omega
      have hg2 : ys[pre.length]? = some ys[pre.length] := by simp [hlt2]
      rw [List.drop_eq_getElem_cons hlt2] at hq
      have hq : (xs == ys) = (x == ys[pre.length] && r == ys.drop (pre.length + 1)) := hq
      repeat' (first | refine c0 ?_ | refine c1 ?_ | refine c2 ?_ | refine c3 ?_ | refine c4 ?_ | refine c5 ?_ | refine c7 ?_ | refine d2 ?_ | refine c8 ?_ | refine c9 ?_ | refine d0 ?_ | refine d1 ?_ | refine d4 ?_ | refine d3' (h := ?_) | refine d4' ?_ | refine a5 (hk := ?_) | refine e5' (hk := ?_) | refine f6' (hk := ?_) | refine f8' (hk := ?_) | (with_reducible intro hc) | refine d8 (ht := ?_) (hf := ?_) | refine d9 (ht := ?_) (hf := ?_))
      · refine rBx hE (hv := ?_)
        rw [hq]; simp at hc; simp [hc]
      · refine ⟨_, _, ?_, ex1 hE, at_mk ⟨rfl, rfl, inc (by omega), trivial⟩, (List.append_nil _).symm⟩
        rw [hq]; simp at hc; simp [hc]
      · simp at hc; omega
    · rintro T' S' ⟨T0, S1, hq, hE, rfl, rfl⟩
      repeat' (first | refine c0 ?_ | refine c2 ?_ | refine c5 ?_ | refine c7 ?_ | refine d2 ?_ | refine c8 ?_ | refine c9 ?_ | refine d0 ?_ | refine d1 ?_ | refine d4 ?_ | refine a5 (hk := ?_) | (with_reducible intro hc) | refine d8 (ht := ?_) (hf := ?_))
      · simp at hc
      · exact rBx hE (hv := by rw [hq, hlen]; simp)
theorem weq (a b : Int × Int) : (a.1 == b.1 && (a.2 == b.2 && true)) = (a == b) := by
  rw [Bool.eq_iff_iff]; simp [Prod.ext_iff]
theorem k_spec_l12Writes (xs ys : List (Int × Int)) (S : St) (hx : xs.length ≤ 1048576) (hy : ys.length ≤ 1048576) : Ev Y spec_l12Writes [WS xs, WS ys] S (.bool (xs == ys)) S := by
  refine E_start (h := ?_)
  repeat' (first | refine c0 ?_ | refine c1 ?_ | refine c7 ?_ | refine d2 ?_ | refine c8 ?_ | refine c9 ?_ | refine d0 ?_ | refine d4 ?_ | refine a5 (hk := ?_) | (with_reducible intro hc) | refine d9 (ht := ?_) (hf := ?_))
  · refine rB (hv := ?_)
    simp at hc
    symm; simp; intro e; rw [e] at hc; exact hc rfl
  · have hlen : xs.length = ys.length := by simp at hc; omega
    refine C_list xs (fun pre r T' S' => ∃ (T0 : Tm) (S1 : St), (xs == ys) = (r == ys.drop pre.length) ∧ Ext S S1 ∧ T' = putL T0 [(0, WS xs), (1, WS ys), (5, I pre.length)] ∧ S' = S1 ++ [])
      ⟨_, _, rfl, ex0, at_mk ⟨rfl, rfl, rfl, trivial⟩, (List.append_nil _).symm⟩ ?_ ?_
    · rintro pre x r T' S' hxs ⟨T0, S1, hq, hE, rfl, rfl⟩
      have hg := mid hxs
      have hlt := mid_lt hxs
      have hlt2 : pre.length < ys.length := by omega
      have hg2 : ys[pre.length]? = some ys[pre.length] := by simp [hlt2]
      rw [List.drop_eq_getElem_cons hlt2] at hq
      have hq : (xs == ys) = (x == ys[pre.length] && r == ys.drop (pre.length + 1)) := hq
      repeat' (first | refine c0 ?_ | refine c1 ?_ | refine c2 ?_ | refine c3 ?_ | refine c4 ?_ | refine c5 ?_ | refine c7 ?_ | refine d2 ?_ | refine c8 ?_ | refine c9 ?_ | refine d0 ?_ | refine d1 ?_ | refine d4 ?_ | refine d3' (h := ?_) | refine d4' ?_ | refine a5 (hk := ?_) | refine e5' (hk := ?_) | refine f6' (hk := ?_) | refine f8' (hk := ?_) | (with_reducible intro hc) | refine d8 (ht := ?_) (hf := ?_) | refine d9 (ht := ?_) (hf := ?_))
      · refine rBx hE (hv := ?_)
        rw [weq] at hc
        rw [hq]; simp at hc; simp [hc]
      · refine ⟨_, _, ?_, ex1 hE, at_mk ⟨rfl, rfl, inc (by omega), trivial⟩, (List.append_nil _).symm⟩
        rw [weq] at hc
        rw [hq]; simp at hc; simp [hc]
      · simp at hc; omega
    · rintro T' S' ⟨T0, S1, hq, hE, rfl, rfl⟩
      repeat' (first | refine c0 ?_ | refine c2 ?_ | refine c5 ?_ | refine c7 ?_ | refine d2 ?_ | refine c8 ?_ | refine c9 ?_ | refine d0 ?_ | refine d1 ?_ | refine d4 ?_ | refine a5 (hk := ?_) | (with_reducible intro hc) | refine d8 (ht := ?_) (hf := ?_))
      · simp at hc
      · exact rBx hE (hv := by rw [hq, hlen]; simp)
end Go.Proofs.X
end
section
namespace Go.Proofs.X
open Go Go.Proofs.XVai Go.Proofs Go.Proofs.XN
set_option linter.unusedVariables false
set_option linter.unusedSimpArgs false

def nget (nums : List Int) (v : Int) : Int := nums.getD v.toNat 0
def valNum (x : Vl) (nums : List Int) : Int := if x.kind = 1 then x.a else if x.kind = 2 then nget nums x.a else if x.kind = 3 then (nget nums x.a + nget nums x.b).tmod 10 else if nget nums x.a = nget nums x.b then 1 else 0
structure Rn where
  nums : List Int
  ws : List (Int × Int)
  ss : List (Int × Int)
  deriving DecidableEq
def run : Stps → Rn → Rn
  | .nil, r => r
  | .cons k v x h t e rest, r => run rest (if k = 1 then ⟨r.nums.set v.toNat (valNum x r.nums), r.ws ++ [(v, valNum x r.nums)], r.ss⟩
      else if k = 3 then ⟨r.nums, r.ws, r.ss ++ [(h, nget r.nums v)]⟩ else if nget r.nums v ≠ 0 then run t r else run e r)
def runOf (ls : List Lab) (ss : Stps) (nums : List Int) : Rn := if numsOk ls ss nums then run ss ⟨nums, [], []⟩ else ⟨[], [], []⟩

/-- All pairs, the first less than the second, in the order of the search. -/
def pairs (n : Nat) : List (Nat × Nat) := (List.range n).flatMap fun i => (List.range i).map fun k => (k, i)
theorem pairs_mem {n k i : Nat} : (k, i) ∈ pairs n ↔ k < i ∧ i < n := by
  simp [pairs]
  constructor
  · rintro ⟨a, ha, b, hb, rfl, rfl⟩; exact ⟨hb, ha⟩
  · rintro ⟨h1, h2⟩; exact ⟨i, h2, k, h1, rfl, rfl⟩
def sameOn (a b : List Int) : List Bool → Bool
  | [] => true
  | v :: vs => (!v || a.headD 0 == b.headD 0) && sameOn a.tail b.tail vs
def knowsOf (ls : List Lab) (h : Int) : List Bool := ls.map fun l => hasG l.k h
def trustsOf (ls : List Lab) (h : Int) : List Bool := ls.map fun l => hasG l.t h
def leakAt (ls : List Lab) (ss : Stps) (h : Int) (p : Nat × Nat) : Bool :=
  let a := row2 p.1 ls.length; let b := row2 p.2 ls.length
  sameOn a b (knowsOf ls h) && !(runTo (runOf ls ss a).ss h == runTo (runOf ls ss b).ss h)
def swayAt (ls : List Lab) (ss : Stps) (h : Int) (p : Nat × Nat) : Bool :=
  let a := row2 p.1 ls.length; let b := row2 p.2 ls.length
  sameOn a b (trustsOf ls h) && !(runSets (runOf ls ss a).ws (trustsOf ls h) == runSets (runOf ls ss b).ws (trustsOf ls h))
def leakOf (ls : List Lab) (ss : Stps) (h : Int) : Option (Nat × Nat) := if progOk ls ss && inB h 0 2 then (pairs (2 ^ ls.length)).find? (leakAt ls ss h) else none
def swayOf (ls : List Lab) (ss : Stps) (h : Int) : Option (Nat × Nat) := if progOk ls ss && inB h 0 2 then (pairs (2 ^ ls.length)).find? (swayAt ls ss h) else none

theorem row2_num {n i : Nat} (hi : i < n) (m : Nat) : (row2 m n)[i]? = some (((m / 2 ^ i % 2 : Nat) : Int)) := by simp [row2, hi]
theorem bits_ext : ∀ (n a b : Nat), a < 2 ^ n → b < 2 ^ n → (∀ i, i < n → a / 2 ^ i % 2 = b / 2 ^ i % 2) → a = b := by
  intro n
  induction n with
  | zero => intro a b ha hb _; simp at ha hb; omega
  | succ n ih =>
    intro a b ha hb h
    have h0 := h 0 (by omega)
    simp at h0
    have h1 : a / 2 = b / 2 := ih (a / 2) (b / 2) (by rw [Nat.pow_succ] at ha; omega) (by rw [Nat.pow_succ] at hb; omega) (fun i hi => by
      have := h (i + 1) (by omega)
      rw [Nat.pow_succ, Nat.mul_comm, ← Nat.div_div_eq_div_mul, ← Nat.div_div_eq_div_mul] at this
      exact this)
    omega
theorem row2_inj {n a b : Nat} (ha : a < 2 ^ n) (hb : b < 2 ^ n) (h : row2 a n = row2 b n) : a = b := by
  refine bits_ext n a b ha hb fun i hi => ?_
  have h1 := row2_num hi a
  rw [h, row2_num hi b] at h1
  exact (Int.natCast_inj.1 (Option.some.inj h1)).symm
theorem sameOn_get : ∀ (a b : List Int) (vs : List Bool), sameOn a b vs = true ↔ ∀ i, i < vs.length → vs.getD i false = true → a.getD i 0 = b.getD i 0 := by
  intro a b vs
  induction vs generalizing a b with
  | nil => simp [sameOn]
  | cons v vs ih =>
    simp only [sameOn, Bool.and_eq_true, Bool.or_eq_true, Bool.not_eq_true', beq_iff_eq, ih, List.length_cons]
    constructor
    · rintro ⟨h1, h2⟩ i hi hv
      cases i with
      | zero =>
        simp at hv
        subst hv
        simp at h1
        cases a <;> cases b <;> simpa using h1
      | succ i =>
        have := h2 i (by omega) (by simpa using hv)
        cases a <;> cases b <;> simpa using this
    · intro h
      refine ⟨?_, fun i hi hv => ?_⟩
      · cases v with
        | false => exact .inl rfl
        | true =>
          right
          have := h 0 (by omega) rfl
          cases a <;> cases b <;> simpa using this
      · have := h (i + 1) (by omega) (by simpa using hv)
        cases a <;> cases b <;> simpa using this
/-- Who trusts nothing, or everything, is not deceived. -/
theorem sway_trusts {ls : List Lab} {ss : Stps} {h : Int} {p : Nat × Nat} (hp : swayOf ls ss h = some p) : (trustsOf ls h).any id = true ∧ (trustsOf ls h).all id = false := by
  simp only [swayOf] at hp
  split at hp
  · have h1 := List.find?_some hp
    have h2 := List.mem_of_find?_eq_some hp
    obtain ⟨k, i⟩ := p
    rw [pairs_mem] at h2
    simp only [swayAt, Bool.and_eq_true, Bool.not_eq_true'] at h1
    obtain ⟨hs, hd⟩ := h1
    constructor
    · cases hany : (trustsOf ls h).any id with
      | true => rfl
      | false =>
        exfalso
        have hall : ∀ w : List (Int × Int), runSets w (trustsOf ls h) = [] := by
          intro w
          rw [runSets, List.filter_eq_nil_iff]
          intro x _ hx
          simp only [Bool.and_eq_true] at hx
          have h3 := hx.2
          rw [List.getD_eq_getElem?_getD] at h3
          cases hg : (trustsOf ls h)[x.1.toNat]? with
          | none => rw [hg] at h3; cases h3
          | some b =>
            rw [hg] at h3
            simp at h3
            subst h3
            have : (trustsOf ls h).any id = true := List.any_eq_true.2 ⟨true, List.mem_of_getElem? hg, rfl⟩
            rw [this] at hany; cases hany
        rw [hall, hall] at hd
        simp at hd
    · cases hall : (trustsOf ls h).all id with
      | false => rfl
      | true =>
        exfalso
        have heq : row2 k ls.length = row2 i ls.length := by
          refine List.ext_getElem? fun j => ?_
          by_cases hj : j < ls.length
          · have := (sameOn_get _ _ _).1 hs j (by simp [trustsOf, hj]) (by
              have hj' : j < (trustsOf ls h).length := by simp [trustsOf, hj]
              have := List.all_eq_true.1 hall _ (List.getElem_mem hj')
              rw [List.getD_eq_getElem?_getD, List.getElem?_eq_getElem hj']
              simpa using this)
            rw [row2_num hj, row2_num hj]
            rw [List.getD_eq_getElem?_getD, List.getD_eq_getElem?_getD, row2_num hj, row2_num hj] at this
            simpa using this
          · rw [List.getElem?_eq_none (by simp [row2_len]; omega), List.getElem?_eq_none (by simp [row2_len]; omega)]
        have := row2_inj (by omega) h2.2 heq
        omega
  · cases hp
end Go.Proofs.X
end
section
namespace Go.Proofs.X
open Go Go.Proofs.XVai Go.Proofs Go.Proofs.XN
set_option linter.unusedVariables false
set_option linter.unusedSimpArgs false

theorem k_impl_in (a lo hi : Int) (S : St) : Ev Y impl_in [I a, I lo, I hi] S (.bool (inB a lo hi)) S := by
  refine E_start (h := ?_)
  repeat' (first | refine c0 ?_ | refine c7 ?_ | refine d2 ?_ | refine c9 ?_ | refine d4 ?_ | refine a0 (hk := ?_) | refine a3 (ht := ?_) (hf := ?_) | refine a5 (hk := ?_) | (with_reducible intro hc))
  all_goals (refine rB (hv := ?_); simp_all [inB] <;> omega)
theorem k_impl_isHost (a : Int) (S : St) : Ev Y impl_isHost [I a] S (.bool (inB a 0 2)) S := by
  refine E_start (h := ?_)
  repeat' (first | refine c0 ?_ | refine c7 ?_ | refine d2 ?_ | refine c9 ?_ | refine d4 ?_ | refine k0 (he := (by first | exact k_impl_in _ _ _ _)) (hk := ?_) | refine a5 (hk := ?_))
  exact rB (hv := rfl)
theorem k_impl_isSet (a : Int) (S : St) : Ev Y impl_isSet [I a] S (.bool (setB a)) S := by
  refine E_start (h := ?_)
  repeat' (first | refine c0 ?_ | refine c7 ?_ | refine d2 ?_ | refine c9 ?_ | refine d4 ?_ | refine k0 (he := (by first | exact k_impl_in _ _ _ _)) (hk := ?_) | refine a5 (hk := ?_))
  exact rB (hv := rfl)
theorem k_impl_isNum (a : Int) (S : St) : Ev Y impl_isNum [I a] S (.bool (inB a 0 9)) S := by
  refine E_start (h := ?_)
  repeat' (first | refine c0 ?_ | refine c7 ?_ | refine d2 ?_ | refine c9 ?_ | refine d4 ?_ | refine k0 (he := (by first | exact k_impl_in _ _ _ _)) (hk := ?_) | refine a5 (hk := ?_))
  exact rB (hv := rfl)
theorem k_impl_LabelOk (l : Lab) (S : St) : Ev Y impl_LabelOk [.agg (lrow l)] S (.bool (labOk l)) S := by
  refine E_start (h := ?_)
  repeat' (first | refine c0 ?_ | refine c7 ?_ | refine d2 ?_ | refine c9 ?_ | refine d4 ?_ | refine a0 (hk := ?_) | refine k0 (he := (by first | exact k_impl_isSet _ _)) (hk := ?_) | refine b1 (hk := ?_) | refine a4 (ht := ?_) (hf := ?_) | refine a5 (hk := ?_) | refine b5 (hk := ?_) | (with_reducible intro hc))
  all_goals (refine rB (hv := ?_); simp_all [labOk])
theorem k_impl_ProgOk_1 (l : Lab) (S : St) : Ev Y impl_ProgOk_1 [.agg (lrow l)] S (.bool (!labOk l)) S := by
  refine E_start (h := ?_)
  repeat' (first | refine c0 ?_ | refine c7 ?_ | refine d2 ?_ | refine c9 ?_ | refine d4 ?_ | refine k0 (he := (by first | exact k_impl_LabelOk _ _)) (hk := ?_) | refine b1 (hk := ?_) | refine a5 (hk := ?_) | refine b5 (hk := ?_))
  exact rB (hv := rfl)
def hasI (a i : Int) : Bool := inB i 0 2 && (IntKind.i64.wrap (BitVec.ofInt 64 (a.fdiv (2 ^ (min i.toNat 64))) &&& BitVec.ofInt 64 1).toNat == 1)
theorem k_impl_has (a i : Int) (S : St) : Ev Y impl_has [I a, I i] S (.bool (hasI a i)) S := by
  refine E_start (h := ?_)
  by_cases hi : 0 ≤ i
  · repeat' (first | refine c0 ?_ | refine c7 ?_ | refine d2 ?_ | refine c9 ?_ | refine d4 ?_ | refine a0 (hk := ?_) | refine k0 (he := (by first | exact k_impl_isHost _ _)) (hk := ?_) | refine a4 (ht := ?_) (hf := ?_) | refine a5 (hk := ?_) | refine g2 (hw := ?_) | (with_reducible intro hc))
    · refine rB (hv := ?_)
      simp only [hasI, hc, Bool.true_and]; rfl
    · refine rB (hv := ?_)
      simp only [hasI, hc, Bool.false_and]
  · have : inB i 0 2 = false := by simp [inB]; omega
    repeat' (first | refine c0 ?_ | refine c7 ?_ | refine d2 ?_ | refine c9 ?_ | refine d4 ?_ | refine a0 (hk := ?_) | refine k0 (he := (by first | exact this ▸ k_impl_isHost i _)) (hk := ?_) | refine a2 (hk := ?_) | refine a5 (hk := ?_))
    all_goals (refine rB (hv := ?_); simp_all [hasI])
theorem k_impl_Prog_isVar (ls : List Lab) (ss : Stps) (v : Int) (S : St) (hl : ls.length ≤ 1048576) : Ev Y impl_Prog_isVar [PR ls ss, I v] S (.bool (vOk ls.length v)) S := by
  refine E_start (h := ?_)
  repeat' (first | refine c0 ?_ | refine c7 ?_ | refine d2 ?_ | refine c9 ?_ | refine d4 ?_ | refine k0 (he := (by first | exact k_impl_in _ _ _ _)) (hk := ?_) | refine b1 (hk := ?_) | refine a5 (hk := ?_) | refine b5 (hk := ?_))
  all_goals (refine rB (hv := ?_); rw [List.length_map, i64_id (by omega) (by omega)]; rfl)
theorem k_impl_Prog_valOk (ls : List Lab) (ss : Stps) (x : Vl) (S : St) (hl : ls.length ≤ 1048576) : Ev Y impl_Prog_valOk [PR ls ss, .agg (vrow x)] S (.bool (valOk ls.length x)) S := by
  refine E_start (h := ?_)
  repeat' (first | refine c0 ?_ | refine c1 ?_ | refine c3 ?_ | refine c4 ?_ | refine c7 ?_ | refine d2 ?_ | refine c8 ?_ | refine c9 ?_ | refine d0 ?_ | refine d4 ?_ | refine a0 (hk := ?_) | refine k0 (he := (by first | exact k_impl_isNum _ _ | exact k_impl_Prog_isVar _ _ _ _ hl)) (hk := ?_) | refine b1 (hk := ?_) | refine a1 (hk := ?_) | refine a2 (hk := ?_) | refine a4 (ht := ?_) (hf := ?_) | refine a5 (hk := ?_) | refine b5 (hk := ?_) | (with_reducible intro hc) | refine d9 (ht := ?_) (hf := ?_))
  all_goals (refine rB (hv := ?_); simp_all [valOk])
theorem k_impl_size (n : Nat) : ∀ (l : Stps) (S : St), l.sz ≤ n → l.sz ≤ 1048576 → Ev Y impl_size [.lst l.rows] S (I l.sz) S := by
  induction n with
  | zero =>
    intro l S h _
    cases l with
    | cons => simp [Stps.sz] at h
    | nil =>
      refine E_start (h := ?_)
      repeat' (first | refine c0 ?_ | refine c7 ?_ | refine d2 ?_ | refine c8 ?_ | refine d4 ?_ | refine a5 (hk := ?_))
      refine d5 ?_
      repeat' (first | refine c0 ?_ | refine c2 ?_ | refine c5 ?_ | refine c7 ?_ | refine d2 ?_ | refine c9 ?_ | refine d1 ?_ | refine d4 ?_ | refine a5 (hk := ?_) | refine d7 (hf := ?_))
      exact rI (hv := rfl)
  | succ n ih =>
    intro l S h hb
    refine E_start (h := ?_)
    repeat' (first | refine c0 ?_ | refine c7 ?_ | refine d2 ?_ | refine c8 ?_ | refine d4 ?_ | refine a5 (hk := ?_))
    refine C_stps l (fun pre r T' S' => ∃ (T0 : Tm) (S1 : St) (c : Nat), l.sz + r.len = c + r.sz ∧ c ≤ l.sz ∧ Ext S S1 ∧ T' = putL T0 [(3, I c), (8, .lst l.rows), (9, I l.rows.length), (10, I pre.length)] ∧ S' = S1 ++ [])
      ⟨_, _, l.len, by omega, l.len_sz, ex0, at_mk ⟨by rw [← l.rows_len]; rfl, rfl, rfl, rfl, trivial⟩, (List.append_nil _).symm⟩ ?_ ?_
    · rintro pre k v x hh t e r T' S' hl hz ⟨T0, S1, c, hq, hcl, hE, rfl, rfl⟩
      have hg := mid hl
      have hp := mid_lt hl
      have := l.rows_len
      have := l.len_sz
      have := r.len_sz
      simp only [Stps.sz, Stps.len] at hq
      repeat' (first | refine c0 ?_ | refine c2 ?_ | refine c3 ?_ | refine c5 ?_ | refine c7 ?_ | refine d2 ?_ | refine c8 ?_ | refine c9 ?_ | refine d0 ?_ | refine d1 ?_ | refine d4 ?_ | refine d3' (h := ?_) | refine d4' ?_ | refine k0' (he := (by first | exact ih t _ (by omega) (by omega) | exact ih e _ (by omega) (by omega))) (hk := ?_) | refine b0 (hk := ?_) | refine a5 (hk := ?_) | refine b6 (hk := ?_) | refine b8 (hk := ?_) | refine b7 (hk := ?_) | refine e5' (hk := ?_) | refine f5' (hk := ?_) | (with_reducible intro hc) | refine d8 (ht := ?_) (hf := ?_))
      · refine ⟨_, _, c + (t.sz + e.sz), by omega, by omega, ex1 hE, at_mk ⟨?_, rfl, rfl, inc (by omega), trivial⟩, (List.append_nil _).symm⟩
        show HV.int _ _ = _
        rw [i64_id (n := (t.sz : Int) + e.sz) (by omega) (by omega), i64_id (by omega) (by omega)]
        simp
      · omega
    · rintro pre T' S' hl ⟨T0, S1, c, hq, hcl, hE, rfl, rfl⟩
      repeat' (first | refine c0 ?_ | refine c2 ?_ | refine c5 ?_ | refine c7 ?_ | refine d2 ?_ | refine c8 ?_ | refine c9 ?_ | refine d0 ?_ | refine d1 ?_ | refine d4 ?_ | refine a5 (hk := ?_) | (with_reducible intro hc) | refine d8 (ht := ?_) (hf := ?_))
      · simp [hl] at hc
      · exact rIx hE (hv := by simp [Stps.sz, Stps.len] at hq; omega)
theorem k_impl_size' (l : Stps) (S : St) (h : l.sz ≤ 1048576) : Ev Y impl_size [.lst l.rows] S (I l.sz) S := k_impl_size _ l S (Nat.le_refl _) h
/-- Some label is not ok. -/
theorem k_IndexFunc (ls : List Lab) (g : Nat) (p : Lab → Bool) (S : St) (hl : ls.length ≤ 1048576) (hg : Y.byref g = false) (hp : ∀ l S, Ev Y g [.agg (lrow l)] S (.bool (p l)) S) : EvR Y slices_IndexFunc_impl_Label [LS ls, .fn g []] S (fun v S' => ∃ n : Int, v = I n ∧ S' = S ∧ (decide (n ≥ 0) = ls.any p)) := by
  have main : ∃ n : Int, decide (n ≥ 0) = ls.any p ∧ Ev Y slices_IndexFunc_impl_Label [LS ls, .fn g []] S (I n) S := by
    refine ⟨(match ls.findIdx? p with | some i => (i : Int) | none => -1), ?_, ?_⟩
    · cases h : ls.findIdx? p with
      | none => simp at h ⊢; exact h
      | some i =>
        have := List.findIdx?_eq_some_iff_getElem.1 h
        obtain ⟨hi, h2, _⟩ := this
        simp
        exact ⟨_, List.getElem_mem hi, h2⟩
    · refine E_start (h := ?_)
      repeat' (first | refine c0 ?_ | refine c7 ?_ | refine d2 ?_ | refine c8 ?_ | refine d4 ?_ | refine a5 (hk := ?_))
      refine C_list ls (fun pre r T' S' => ∃ (T0 : Tm) (S1 : St), (ls.findIdx? p = (r.findIdx? p).map (· + pre.length)) ∧ Ext S S1 ∧ T' = putL T0 [(0, LS ls), (1, .fn g []), (7, I (ls.map lrow).length), (8, I pre.length)] ∧ S' = S1 ++ [])
        ⟨_, _, by simp, ex0, at_mk ⟨rfl, rfl, rfl, rfl, trivial⟩, (List.append_nil _).symm⟩ ?_ ?_
      · rintro pre x r T' S' hx ⟨T0, S1, hq, hE, rfl, rfl⟩
        have hget := mid hx
        have hlt := mid_lt hx
        repeat' (first | refine c0 ?_ | refine c1 ?_ | refine c2 ?_ | refine c3 ?_ | refine c4 ?_ | refine c5 ?_ | refine c7 ?_ | refine d2 ?_ | refine c8 ?_ | refine c9 ?_ | refine d0 ?_ | refine d1 ?_ | refine d4 ?_ | refine k0 (he := (by first | exact hp _ _)) (hk := ?_) | refine a5 (hk := ?_) | refine b6 (hk := ?_) | refine b8 (hk := ?_) | (with_reducible intro hc) | refine d8 (ht := ?_) (hf := ?_) | refine d9 (ht := ?_) (hf := ?_))
        · refine rIx hE (hv := ?_)
          rw [hq, List.findIdx?_cons, hc]; simp
        · refine ⟨_, _, ?_, ex1 hE, at_mk ⟨rfl, rfl, rfl, inc (by omega), trivial⟩, (List.append_nil _).symm⟩
          rw [hq, List.findIdx?_cons, hc]; cases List.findIdx? p r <;> simp; omega
        · simp at hc; omega
      · rintro T' S' ⟨T0, S1, hq, hE, rfl, rfl⟩
        repeat' (first | refine c0 ?_ | refine c2 ?_ | refine c5 ?_ | refine c7 ?_ | refine d2 ?_ | refine c8 ?_ | refine c9 ?_ | refine d0 ?_ | refine d1 ?_ | refine d4 ?_ | refine a5 (hk := ?_) | (with_reducible intro hc) | refine d8 (ht := ?_) (hf := ?_))
        · simp at hc
        · refine rIx hE (hv := ?_)
          rw [hq]; rfl
  obtain ⟨n, h1, h2⟩ := main
  exact ⟨_, _, h2, n, rfl, rfl, h1⟩
theorem k_ContainsFunc (ls : List Lab) (g : Nat) (p : Lab → Bool) (S : St) (hl : ls.length ≤ 1048576) (hg : Y.byref g = false) (hp : ∀ l S, Ev Y g [.agg (lrow l)] S (.bool (p l)) S) : Ev Y slices_ContainsFunc_impl_Label [LS ls, .fn g []] S (.bool (ls.any p)) S := by
  obtain ⟨_, _, h1, n, rfl, rfl, h2⟩ := k_IndexFunc ls g p (S ++ []) hl hg hp
  refine E_start (h := ?_)
  repeat' (first | refine c0 ?_ | refine c7 ?_ | refine d2 ?_ | refine c9 ?_ | refine d4 ?_ | refine k0 (he := (by first | exact h1)) (hk := ?_) | refine a5 (hk := ?_))
  exact rB (hv := h2)
end Go.Proofs.X
end
section
namespace Go.Proofs.X
open Go Go.Proofs.XVai Go.Proofs Go.Proofs.XN
set_option linter.unusedVariables false
set_option linter.unusedSimpArgs false

theorem vnone (x : Vl) : (x.kind == 0 && (x.a == 0 && (x.b == 0 && true))) = x.none := by simp [Vl.none]
theorem lens1 {t e : Stps} (h : t.sz + e.sz ≤ 1048576) : decide (IntKind.i64.wrap ((t.rows.length : Int) + (e.rows.length : Int)) > 0) = !(t.len + e.len == 0) := by
  have := t.len_sz
  have := e.len_sz
  rw [Stps.rows_len, Stps.rows_len, i64_id (by omega) (by omega), Bool.eq_iff_iff]
  simp; omega
set_option maxHeartbeats 2000000 in
theorem k_impl_stepsOk (n : Nat) : ∀ (l : Stps) (d : Int) (ls : List Lab) (ss : Stps) (S : St), l.sz ≤ n → l.sz ≤ 1048576 → ls.length ≤ 1048576 → -9 ≤ d → d ≤ 100 → Ev Y impl_Prog_stepsOk [PR ls ss, .lst l.rows, I d] S (.bool (stepsOk ls.length l d)) S := by
  induction n with
  | zero =>
    intro l d ls ss S h _ hl hd0 hd1
    cases l with
    | cons => simp [Stps.sz] at h
    | nil =>
      refine E_start (h := ?_)
      repeat' (first | refine c0 ?_ | refine c7 ?_ | refine d2 ?_ | refine c8 ?_ | refine d4 ?_ | refine b1 (hk := ?_) | refine a5 (hk := ?_))
      refine d5 ?_
      repeat' (first | refine c0 ?_ | refine c2 ?_ | refine c5 ?_ | refine c7 ?_ | refine d2 ?_ | refine c9 ?_ | refine d1 ?_ | refine d4 ?_ | refine a5 (hk := ?_) | refine d7 (hf := ?_))
      exact rB (hv := rfl)
  | succ n ih =>
    intro l d ls ss S h hb hl hd0 hd1
    have ih1 : ∀ (t : Stps) (S : St), 1 ≤ d → t.sz ≤ n → t.sz ≤ 1048576 → Ev Y impl_Prog_stepsOk [PR ls ss, .lst t.rows, .int .i64 (IntKind.i64.wrap (d - 1))] S (.bool (stepsOk ls.length t (d - 1))) S := by
      rw [i64_id (n := d - 1) (by omega) (by omega)]; exact fun t S h1 h2 h3 => ih t (d - 1) ls ss S h2 h3 hl (by omega) (by omega)
    clear ih
    refine E_start (h := ?_)
    repeat' (first | refine c0 ?_ | refine c7 ?_ | refine d2 ?_ | refine c8 ?_ | refine d4 ?_ | refine b1 (hk := ?_) | refine a5 (hk := ?_))
    refine C_stps l (fun pre r T' S' => ∃ (T0 : Tm) (S1 : St), stepsOk ls.length l d = stepsOk ls.length r d ∧ Ext S S1 ∧ S1[S.length + 0]? = some (.cells false [[LS ls, .lst ss.rows]]) ∧ T' = putL T0 [(2, I d), (3, .ptr (S.length + 0) 1 0 0), (10, .lst l.rows), (11, I l.rows.length), (12, I pre.length)] ∧ S' = S1 ++ [])
      ⟨_, _, rfl, ex0, get_own rfl, at_mk ⟨rfl, rfl, rfl, rfl, rfl, trivial⟩, (List.append_nil _).symm⟩ ?_ ?_
    · rintro pre k v x hh t e r T' S' hx hz ⟨T0, S1, hq, hE, h0, rfl, rfl⟩
      have hg := mid hx
      have hp := mid_lt hx
      have := l.rows_len
      have := l.len_sz
      have hz1 := lens1 (t := t) (e := e) (by omega)
      have hbad : stepOk ls.length k v x hh t e d = false → stepsOk ls.length l d = false := fun h => by rw [hq, stepsOk_cons, h]; rfl
      have hgood : stepOk ls.length k v x hh t e d = true → stepsOk ls.length l d = stepsOk ls.length r d := fun h => by rw [hq, stepsOk_cons, h]; rfl
      clear hq hx
      by_cases k1 : k = 1
      · subst k1
        repeat' (first | refine c0 ?_ | refine c1 ?_ | refine c2 ?_ | refine c3 ?_ | refine c4 ?_ | refine c5 ?_ | refine c7 ?_ | refine d2 ?_ | refine c8 ?_ | refine c9 ?_ | refine d0 ?_ | refine d1 ?_ | refine d4 ?_ | refine a0 (hk := ?_) | refine k0 (he := (by first | exact k_impl_Prog_isVar _ _ _ _ hl | exact k_impl_Prog_valOk _ _ _ _ hl | exact k_impl_isHost _ _ | exact ih1 _ _ (by omega) (by omega) (by omega))) (hk := ?_) | refine b0 (hk := ?_) | refine a1 (hk := ?_) | refine a2 (hk := ?_) | refine a3 (ht := ?_) (hf := ?_) | refine a4 (ht := ?_) (hf := ?_) | refine a5 (hk := ?_) | refine b5 (hk := ?_) | refine b6 (hk := ?_) | refine b8 (hk := ?_) | refine b7 (hk := ?_) | (with_reducible intro hc) | refine d6 (ht := ?_) | refine d7 (hf := ?_) | refine d8 (ht := ?_) (hf := ?_))
        all_goals try (refine rBx hE (hv := (hbad ?_).symm); clear hbad hgood ih1 h0 hE hg; (try simp only [vnone] at *); simp_all [stepOk]; done)
        all_goals try (refine ⟨_, _, hgood ?_, ex1 hE, get_old h0, at_mk ⟨rfl, rfl, rfl, rfl, inc (by omega), trivial⟩, (List.append_nil _).symm⟩; clear hbad hgood ih1 h0 hE hg; (try simp only [vnone] at *); simp_all [stepOk]; done)
        all_goals try omega
      by_cases k2 : k = 2
      · subst k2
        repeat' (first | refine c0 ?_ | refine c1 ?_ | refine c2 ?_ | refine c3 ?_ | refine c4 ?_ | refine c5 ?_ | refine c7 ?_ | refine d2 ?_ | refine c8 ?_ | refine c9 ?_ | refine d0 ?_ | refine d1 ?_ | refine d4 ?_ | refine a0 (hk := ?_) | refine k0 (he := (by first | exact k_impl_Prog_isVar _ _ _ _ hl | exact k_impl_Prog_valOk _ _ _ _ hl | exact k_impl_isHost _ _ | exact ih1 _ _ (by omega) (by omega) (by omega))) (hk := ?_) | refine b0 (hk := ?_) | refine a1 (hk := ?_) | refine a2 (hk := ?_) | refine a3 (ht := ?_) (hf := ?_) | refine a4 (ht := ?_) (hf := ?_) | refine a5 (hk := ?_) | refine b5 (hk := ?_) | refine b6 (hk := ?_) | refine b8 (hk := ?_) | refine b7 (hk := ?_) | (with_reducible intro hc) | refine d6 (ht := ?_) | refine d7 (hf := ?_) | refine d8 (ht := ?_) (hf := ?_))
        all_goals try (refine rBx hE (hv := (hbad ?_).symm); clear hbad hgood ih1 h0 hE hg; (try simp only [vnone] at *); simp_all [stepOk]; done)
        all_goals try (refine ⟨_, _, hgood ?_, ex1 hE, get_old h0, at_mk ⟨rfl, rfl, rfl, rfl, inc (by omega), trivial⟩, (List.append_nil _).symm⟩; clear hbad hgood ih1 h0 hE hg; (try simp only [vnone] at *); simp_all [stepOk]; done)
        all_goals try omega
      by_cases k3 : k = 3
      · subst k3
        repeat' (first | refine c0 ?_ | refine c1 ?_ | refine c2 ?_ | refine c3 ?_ | refine c4 ?_ | refine c5 ?_ | refine c7 ?_ | refine d2 ?_ | refine c8 ?_ | refine c9 ?_ | refine d0 ?_ | refine d1 ?_ | refine d4 ?_ | refine a0 (hk := ?_) | refine k0 (he := (by first | exact k_impl_Prog_isVar _ _ _ _ hl | exact k_impl_Prog_valOk _ _ _ _ hl | exact k_impl_isHost _ _ | exact ih1 _ _ (by omega) (by omega) (by omega))) (hk := ?_) | refine b0 (hk := ?_) | refine a1 (hk := ?_) | refine a2 (hk := ?_) | refine a3 (ht := ?_) (hf := ?_) | refine a4 (ht := ?_) (hf := ?_) | refine a5 (hk := ?_) | refine b5 (hk := ?_) | refine b6 (hk := ?_) | refine b8 (hk := ?_) | refine b7 (hk := ?_) | (with_reducible intro hc) | refine d6 (ht := ?_) | refine d7 (hf := ?_) | refine d8 (ht := ?_) (hf := ?_))
        all_goals try (refine rBx hE (hv := (hbad ?_).symm); clear hbad hgood ih1 h0 hE hg; (try simp only [vnone] at *); simp_all [stepOk]; done)
        all_goals try (refine ⟨_, _, hgood ?_, ex1 hE, get_old h0, at_mk ⟨rfl, rfl, rfl, rfl, inc (by omega), trivial⟩, (List.append_nil _).symm⟩; clear hbad hgood ih1 h0 hE hg; (try simp only [vnone] at *); simp_all [stepOk]; done)
        all_goals try omega
      have q1 : (k == 1) = false := by simpa using k1
      have q2 : (k == 2) = false := by simpa using k2
      have q3 : (k == 3) = false := by simpa using k3
      have q4 : (k != 1) = true := by simpa using k1
      have q5 : (k != 2) = true := by simpa using k2
      have q6 : (k != 3) = true := by simpa using k3
      have hbad' := hbad (by simp [stepOk, k1, k2, k3])
      clear hbad hgood
      repeat' (first | refine c0 ?_ | refine c1 ?_ | refine c2 ?_ | refine c3 ?_ | refine c4 ?_ | refine c5 ?_ | refine c7 ?_ | refine d2 ?_ | refine c8 ?_ | refine c9 ?_ | refine d0 ?_ | refine d1 ?_ | refine d4 ?_ | refine a0 (hk := ?_) | refine k0 (he := (by first | exact k_impl_Prog_isVar _ _ _ _ hl | exact k_impl_Prog_valOk _ _ _ _ hl | exact k_impl_isHost _ _ | exact ih1 _ _ (by omega) (by omega) (by omega))) (hk := ?_) | refine b0 (hk := ?_) | refine a1 (hk := ?_) | refine a2 (hk := ?_) | refine u1 (hk := ?_) | refine a3 (ht := ?_) (hf := ?_) | refine a4 (ht := ?_) (hf := ?_) | refine a5 (hk := ?_) | refine b5 (hk := ?_) | refine b6 (hk := ?_) | refine b8 (hk := ?_) | refine b7 (hk := ?_) | (with_reducible intro hc) | refine d6 (ht := ?_) | refine u6 (hk := ?_) | refine d8 (ht := ?_) (hf := ?_))
      all_goals first
        | exact rBx hE (hv := hbad'.symm)
        | (exfalso; simp_all; done)
        | omega
    · rintro pre T' S' hx ⟨T0, S1, hq, hE, h0, rfl, rfl⟩
      repeat' (first | refine c0 ?_ | refine c2 ?_ | refine c5 ?_ | refine c7 ?_ | refine d2 ?_ | refine c8 ?_ | refine c9 ?_ | refine d0 ?_ | refine d1 ?_ | refine d4 ?_ | refine a5 (hk := ?_) | (with_reducible intro hc) | refine d8 (ht := ?_) (hf := ?_))
      · simp [hx] at hc
      · exact rBx hE (hv := by rw [hq]; rfl)
theorem k_impl_stepsOk' (l : Stps) (ls : List Lab) (ss : Stps) (S : St) (h : l.sz ≤ 1048576) (hl : ls.length ≤ 1048576) : Ev Y impl_Prog_stepsOk [PR ls ss, .lst l.rows, I 3] S (.bool (stepsOk ls.length l 3)) S := k_impl_stepsOk _ l 3 ls ss S (Nat.le_refl _) h hl (by omega) (by omega)
theorem k_impl_ProgOk (ls : List Lab) (ss : Stps) (S : St) (hs : ss.sz ≤ 1048576) (hl : ls.length ≤ 1048576) : Ev Y impl_ProgOk [PR ls ss] S (.bool (progOk ls ss)) S := by
  have e1 : (!ls.any fun l => !labOk l) = ls.all labOk := by rw [Bool.eq_iff_iff]; simp
  refine E_start (h := ?_)
  repeat' (first | refine c0 ?_ | refine c7 ?_ | refine d2 ?_ | refine c9 ?_ | refine d4 ?_ | refine a0 (hk := ?_) | refine k0 (he := (by first | exact k_ContainsFunc _ _ (fun l => !labOk l) _ hl rfl k_impl_ProgOk_1 | exact k_impl_stepsOk' _ _ _ _ hs hl | exact k_impl_size' _ _ hs)) (hk := ?_) | refine b1 (hk := ?_) | refine a2 (hk := ?_) | refine a3 (ht := ?_) (hf := ?_) | refine a4 (ht := ?_) (hf := ?_) | refine a5 (hk := ?_) | refine b5 (hk := ?_) | (with_reducible intro hc))
  all_goals
    refine rB (hv := ?_)
    try simp only [e1] at *
    clear e1
    simp only [List.length_map, Bool.not_eq_true', Bool.not_eq_false'] at *
    first
      | (simp_all [progOk]; done)
      | (have : ls.length ≤ 4 := by omega
         simp only [progOk, *, decide_true, Bool.true_and, Bool.and_true, Bool.false_and, Bool.and_false]; try simp; try omega)
      | (have : ¬ ls.length ≤ 4 := by omega
         simp [progOk, this])
end Go.Proofs.X
end
section
namespace Go.Proofs.X
open Go Go.Proofs.XVai Go.Proofs Go.Proofs.XN
set_option linter.unusedVariables false
set_option linter.unusedSimpArgs false
set_option maxHeartbeats 4000000

/-! ### bits -/
theorem setB_nat {v : Int} (h : setB v = true) : ∃ n : Nat, n ∈ List.range 8 ∧ v = n := by
  simp [setB, inB] at h
  exact ⟨v.toNat, by simp; omega, by omega⟩
theorem has_fin : ∀ n ∈ List.range 8, ∀ i ∈ List.range 3, hasG (n : Int) (i : Int) = hasI (n : Int) (i : Int) := by decide +kernel
theorem has_eq {v : Int} (h : setB v = true) (i : Int) : hasI v i = hasG v i := by
  by_cases hi : 0 ≤ i ∧ i < 3
  · obtain ⟨n, hn, rfl⟩ := setB_nat h
    obtain ⟨j, rfl⟩ := Int.eq_ofNat_of_zero_le hi.1
    exact (has_fin n hn j (by simp; omega)).symm
  · have h1 : inB i 0 2 = false := by simp [inB]; omega
    have h2 : decide (0 ≤ i ∧ i < 3) = false := by simpa using hi
    simp only [hasI, hasG, h1, h2, Bool.false_and]

theorem k_impl_NumsOk (ls : List Lab) (ss : Stps) (nums : List Int) (S : St) (hs : ss.sz ≤ 1048576) (hl : ls.length ≤ 1048576) (hn : nums.length ≤ 1048576) : Ev Y impl_NumsOk [PR ls ss, L nums] S (.bool (numsOk ls ss nums)) S := by
  refine E_start (h := ?_)
  repeat' (first | refine c0 ?_ | refine c7 ?_ | refine d2 ?_ | refine c8 ?_ | refine d4 ?_ | refine b1 (hk := ?_) | refine a5 (hk := ?_))
  refine C_list nums (fun pre r T' S' => ∃ (T0 : Tm) (S1 : St), (nums.all (fun n => inB n 0 9) = r.all (fun n => inB n 0 9)) ∧ Ext S S1 ∧ S1[S.length + 0]? = some (.cells false [[LS ls, .lst ss.rows]]) ∧ T' = putL T0 [(1, L nums), (2, .ptr (S.length + 0) 1 0 0), (7, L nums), (8, I (nums.map irow).length), (9, I pre.length)] ∧ S' = S1 ++ [])
    ⟨_, _, rfl, ex0, get_own rfl, at_mk ⟨rfl, rfl, rfl, rfl, rfl, trivial⟩, (List.append_nil _).symm⟩ ?_ ?_
  · rintro pre x r T' S' hx ⟨T0, S1, hq, hE, h0, rfl, rfl⟩
    have hg := mid hx
    have hlt := mid_lt hx
    repeat' (first | refine c0 ?_ | refine c1 ?_ | refine c2 ?_ | refine c3 ?_ | refine c4 ?_ | refine c5 ?_ | refine c7 ?_ | refine d2 ?_ | refine c8 ?_ | refine c9 ?_ | refine d0 ?_ | refine d1 ?_ | refine d4 ?_ | refine k0 (he := (by first | exact k_impl_isNum _ _)) (hk := ?_) | refine a5 (hk := ?_) | refine b5 (hk := ?_) | refine b6 (hk := ?_) | refine b8 (hk := ?_) | (with_reducible intro hc) | refine d8 (ht := ?_) (hf := ?_) | refine d9 (ht := ?_) (hf := ?_))
    · refine rBx hE (hv := ?_)
      simp at hc
      simp only [numsOk, hq, List.all_cons, hc, Bool.false_and, Bool.and_false]
    · refine ⟨_, _, ?_, ex1 hE, get_old h0, at_mk ⟨rfl, rfl, rfl, rfl, inc (by omega), trivial⟩, (List.append_nil _).symm⟩
      simp at hc
      simp only [hq, List.all_cons, hc, Bool.true_and]
    · simp at hc; omega
  · rintro T' S' ⟨T0, S1, hq, hE, h0, rfl, rfl⟩
    have hq : nums.all (fun n => inB n 0 9) = true := hq
    repeat' (first | refine c0 ?_ | refine c2 ?_ | refine c5 ?_ | refine c7 ?_ | refine d2 ?_ | refine c8 ?_ | refine c9 ?_ | refine d0 ?_ | refine d1 ?_ | refine d4 ?_ | refine a0 (hk := ?_) | refine k0 (he := (by first | exact k_impl_ProgOk _ _ _ hs hl)) (hk := ?_) | refine a4 (ht := ?_) (hf := ?_) | refine a5 (hk := ?_) | refine b5 (hk := ?_) | (with_reducible intro hc) | refine d8 (ht := ?_) (hf := ?_))
    · simp at hc
    all_goals
      refine rBx hE (hv := ?_)
      simp only [numsOk, hq, Bool.and_true, List.length_map]
      simp_all
    rw [Bool.eq_iff_iff]; simp; omega
theorem k_impl_RunTo (nums : List Int) (ws ss : List (Int × Int)) (host : Int) (S : St) (hs : ss.length ≤ 1048576) : Ev Y impl_RunTo [RN nums ws ss, I host] S (L (runTo ss host)) S := by
  refine E_start (h := ?_)
  repeat' (first | refine c0 ?_ | refine c7 ?_ | refine d2 ?_ | refine c8 ?_ | refine d4 ?_ | refine b1 (hk := ?_) | refine b3 (hk := ?_) | refine a5 (hk := ?_) | refine b5 (hk := ?_))
  refine C_list ss (fun pre r T' S' => ∃ (T0 : Tm) (S1 : St) (d : List Int), runTo ss host = d ++ runTo r host ∧ d.length ≤ pre.length ∧ Ext S S1 ∧ S1[S.length + 2]? = some (.cells true (d.map irow)) ∧
      T' = putL T0 [(1, I host), (5, .sl (S.length + 2) d.length), (9, WS ss), (10, I (ss.map wrow).length), (11, I pre.length)] ∧ S' = S1 ++ [])
    ⟨_, _, [], rfl, by simp, ex0, get_own rfl, at_mk ⟨rfl, rfl, rfl, rfl, rfl, trivial⟩, (List.append_nil _).symm⟩ ?_ ?_
  · rintro pre x r T' S' hx ⟨T0, S1, d, hq, hd, hE, h1, rfl, rfl⟩
    have hg := mid hx
    have hlt := mid_lt hx
    have e1 := irow1 d
    have e2 : (d.map irow).length = d.length := by simp
    repeat' (first | refine c0 ?_ | refine c2 ?_ | refine c3 ?_ | refine c5 ?_ | refine c7 ?_ | refine d2 ?_ | refine c8 ?_ | refine c9 ?_ | refine d0 ?_ | refine d1 ?_ | refine d4 ?_ | refine b0 (hk := ?_) | refine a5 (hk := ?_) | refine b5 (hk := ?_) | refine b6 (hk := ?_) | refine b8 (hk := ?_) | refine b7 (hk := ?_) | refine p0 (hk := ?_) | (with_reducible intro hc) | refine d8 (ht := ?_) (hf := ?_) | refine d9 (ht := ?_) (hf := ?_))
    · refine ⟨_, _, d ++ [x.2], ?_, by simp; omega, ex1 (ex2 hE (Nat.le_add_right _ _)), ?_, at_mk ⟨rfl, ?_, rfl, rfl, inc (by omega), trivial⟩, (List.append_nil _).symm⟩
      · rw [hq]; simp at hc; simp [runTo, hc]
      · rw [get_set h1, List.map_append]; rfl
      · show HV.sl _ _ = _; simp
    · refine ⟨_, _, d, ?_, by simp; omega, ex1 hE, get_old h1, at_mk ⟨rfl, rfl, rfl, rfl, inc (by omega), trivial⟩, (List.append_nil _).symm⟩
      rw [hq]; simp at hc; simp [runTo, hc]
    · simp at hc; omega
  · rintro T' S' ⟨T0, S1, d, hq, hd, hE, h1, rfl, rfl⟩
    repeat' (first | refine c0 ?_ | refine c2 ?_ | refine c5 ?_ | refine c7 ?_ | refine d2 ?_ | refine c8 ?_ | refine c9 ?_ | refine d0 ?_ | refine d1 ?_ | refine d4 ?_ | refine a5 (hk := ?_) | (with_reducible intro hc) | refine d8 (ht := ?_) (hf := ?_))
    · simp at hc
    · exact rLx hE (hn := by simp) (hp := irow_pure d) (hv := by rw [hq]; simp [runTo])
theorem k_impl_RunSets (nums : List Int) (ws ss : List (Int × Int)) (vars : List Bool) (S : St) (hs : ws.length ≤ 1048576) (hv : vars.length ≤ 1048576) : Ev Y impl_RunSets [RN nums ws ss, BL vars] S (WS (runSets ws vars)) S := by
  refine E_start (h := ?_)
  repeat' (first | refine c0 ?_ | refine c7 ?_ | refine d2 ?_ | refine c8 ?_ | refine d4 ?_ | refine b1 (hk := ?_) | refine b3 (hk := ?_) | refine a5 (hk := ?_) | refine b5 (hk := ?_))
  refine C_list ws (fun pre r T' S' => ∃ (T0 : Tm) (S1 : St) (d : List (Int × Int)), runSets ws vars = d ++ runSets r vars ∧ d.length ≤ pre.length ∧ Ext S S1 ∧ S1[S.length + 2]? = some (.cells true (d.map wrow)) ∧
      T' = putL T0 [(1, BL vars), (5, .sl (S.length + 2) d.length), (9, WS ws), (10, I (ws.map wrow).length), (11, I pre.length)] ∧ S' = S1 ++ [])
    ⟨_, _, [], rfl, by simp, ex0, get_own rfl, at_mk ⟨rfl, rfl, rfl, rfl, rfl, trivial⟩, (List.append_nil _).symm⟩ ?_ ?_
  · rintro pre x r T' S' hx ⟨T0, S1, d, hq, hd, hE, h1, rfl, rfl⟩
    have hg := mid hx
    have hlt := mid_lt hx
    have e1 := wrow2 d
    have e2 : (d.map wrow).length = d.length := by simp
    have e3 : IntKind.i64.wrap (((vars.map fun x => [HV.bool x]).length : Int) - 1) = (vars.length : Int) - 1 := by rw [List.length_map, i64_id (by omega) (by omega)]
    have step : runSets (x :: r) vars = (if inB x.1 0 (vars.length - 1) && vars.getD x.1.toNat false then [x] else []) ++ runSets r vars := by
      simp only [runSets, List.filter_cons]; split <;> simp
    by_cases hi : inB x.1 0 ((vars.length : Int) - 1) = true
    · simp only [inB, decide_eq_true_eq] at hi
      obtain ⟨x1, x2⟩ := x
      obtain ⟨j, rfl⟩ := Int.eq_ofNat_of_zero_le hi.1
      have hj : j < vars.length := by simp at hi; omega
      have hgv : vars[j]? = some vars[j] := by simp [hj]
      have hin : inB (j : Int) 0 ((vars.length : Int) - 1) = true := by simp only [inB, decide_eq_true_eq]; omega
      have hgd : vars.getD ((j : Nat) : Int).toNat false = vars[j] := by simp [hj]
      simp only [hin, hgd, Bool.true_and] at step
      have hin' : inB (j : Int) 0 (IntKind.i64.wrap (((vars.map fun x => [HV.bool x]).length : Int) - 1)) = true := by rw [e3]; exact hin
      clear hi e3
      repeat' (first | refine c0 ?_ | refine c2 ?_ | refine c3 ?_ | refine c5 ?_ | refine c7 ?_ | refine d2 ?_ | refine c8 ?_ | refine c9 ?_ | refine d0 ?_ | refine d1 ?_ | refine d4 ?_ | refine k0 (he := (by first | exact k_impl_in _ _ _ _)) (hk := ?_) | refine b0 (hk := ?_) | refine u1 (hk := ?_) | refine a5 (hk := ?_) | refine b5 (hk := ?_) | refine b6 (hk := ?_) | refine b8 (hk := ?_) | refine b7 (hk := ?_) | refine p0 (hk := ?_) | (with_reducible intro hc) | refine d8 (ht := ?_) (hf := ?_) | refine d9 (ht := ?_) (hf := ?_))
      · refine ⟨_, _, d ++ [((j : Int), x2)], ?_, by simp; omega, ex1 (ex2 hE (Nat.le_add_right _ _)), ?_, at_mk ⟨rfl, ?_, rfl, rfl, inc (by omega), trivial⟩, (List.append_nil _).symm⟩
        · rw [hq, step, hc]; simp
        · rw [get_set h1, List.map_append]; rfl
        · show HV.sl _ _ = _; simp
      · refine ⟨_, _, d, ?_, by simp; omega, ex1 hE, get_old h1, at_mk ⟨rfl, rfl, rfl, rfl, inc (by omega), trivial⟩, (List.append_nil _).symm⟩
        rw [hq, step, hc]; simp
      · simp at hc; omega
    · have hi' : inB x.1 0 ((vars.length : Int) - 1) = false := by simpa using hi
      have hin' : inB x.1 0 (IntKind.i64.wrap (((vars.map fun x => [HV.bool x]).length : Int) - 1)) = false := by rw [e3]; exact hi'
      simp only [hi', Bool.false_and] at step
      clear hi e3
      repeat' (first | refine c0 ?_ | refine c2 ?_ | refine c3 ?_ | refine c5 ?_ | refine c7 ?_ | refine d2 ?_ | refine c8 ?_ | refine c9 ?_ | refine d0 ?_ | refine d1 ?_ | refine d4 ?_ | refine a0 (hk := ?_) | refine k0 (he := (by first | exact k_impl_in _ _ _ _)) (hk := ?_) | refine b0 (hk := ?_) | refine u2 (hk := ?_) | refine a5 (hk := ?_) | refine b5 (hk := ?_) | refine b6 (hk := ?_) | refine b8 (hk := ?_) | refine b7 (hk := ?_) | (with_reducible intro hc) | refine d7 (hf := ?_) | refine d8 (ht := ?_) (hf := ?_))
      · refine ⟨_, _, d, ?_, by simp; omega, ex1 hE, get_old h1, at_mk ⟨rfl, rfl, rfl, rfl, inc (by omega), trivial⟩, (List.append_nil _).symm⟩
        rw [hq, step]; simp
      · simp at hc; omega
  · rintro T' S' ⟨T0, S1, d, hq, hd, hE, h1, rfl, rfl⟩
    repeat' (first | refine c0 ?_ | refine c2 ?_ | refine c5 ?_ | refine c7 ?_ | refine d2 ?_ | refine c8 ?_ | refine c9 ?_ | refine d0 ?_ | refine d1 ?_ | refine d4 ?_ | refine a5 (hk := ?_) | (with_reducible intro hc) | refine d8 (ht := ?_) (hf := ?_))
    · simp at hc
    · exact rLx hE (hn := by simp) (hp := wrow_pure d) (hv := by rw [hq]; simp [runSets])
theorem k_impl_row (n size : Nat) (S : St) (hn : n ≤ 1048576) (hs : size ≤ 60) : Ev Y impl_row [I n, I size] S (L (row2 n size)) S := by
  refine E_start (h := ?_)
  repeat' (first | refine c0 ?_ | refine c7 ?_ | refine d2 ?_ | refine c8 ?_ | refine d4 ?_ | refine b3 (hk := ?_) | refine a5 (hk := ?_))
  refine C_loop (fun m T' S' => ∃ (T0 : Tm) (S1 : St) (i : Nat), i + m = size ∧ Ext S S1 ∧ S1[S.length + 1]? = some (.cells true ((row2 n i).map irow)) ∧ T' = putL T0 [(0, I n), (5, .sl (S.length + 1) i), (7, I size), (8, I i)] ∧ S' = S1 ++ []) size
    ⟨_, _, 0, by omega, ex0, get_own rfl, at_mk ⟨rfl, rfl, rfl, rfl, trivial⟩, (List.append_nil _).symm⟩ ?_
  rintro m T' S' ⟨T0, S1, i, hi, hE, h0, rfl, rfl⟩
  have e1 := irow1 (row2 n i)
  have e2 : ((row2 n i).map irow).length = i := by simp [row2_len]
  cases m with
  | zero =>
    have hc0 : ¬ ((i : Int) < (size : Int)) := by omega
    repeat' (first | refine c0 ?_ | refine c2 ?_ | refine c5 ?_ | refine c7 ?_ | refine d2 ?_ | refine c9 ?_ | refine d1 ?_ | refine d4 ?_ | refine a5 (hk := ?_) | refine u8 (hk := ?_))
    exact rLx hE (hp := irow_pure _) (hv := by rw [show i = size by omega])
  | succ m =>
    have hc0 : (i : Int) < (size : Int) := by omega
    have e3 : IntKind.i64.wrap (BitVec.ofInt 64 ((n : Int).fdiv (2 ^ min (Int.toNat (i : Int)) IntKind.i64.bits)) &&& BitVec.ofInt 64 1).toNat = ((n / 2 ^ i % 2 : Nat) : Int) := by
      have h1 : min (Int.toNat (i : Int)) IntKind.i64.bits = i := by simp [IntKind.bits]; omega
      rw [h1, Int.fdiv_eq_ediv_of_nonneg _ (Int.le_of_lt (Int.pow_pos (by omega)))]
      rw [show ((n : Int) / (2 : Int) ^ i) = ((n / 2 ^ i : Nat) : Int) by simp]
      have h2 : n / 2 ^ i ≤ n := Nat.div_le_self _ _
      generalize n / 2 ^ i = q at *
      have h3 : (BitVec.ofInt 64 (q : Int) &&& BitVec.ofInt 64 1).toNat = q % 2 := by
        rw [BitVec.toNat_and]
        have : (BitVec.ofInt 64 (q : Int)).toNat = q := by simp; omega
        rw [this]
        exact Nat.and_one_is_mod q
      rw [h3, i64_id (by omega) (by omega)]
    repeat' (first | refine c0 ?_ | refine c3 ?_ | refine c7 ?_ | refine d2 ?_ | refine c8 ?_ | refine d0 ?_ | refine d4 ?_ | refine a5 (hk := ?_) | refine p0 (hk := ?_) | refine u7 (hk := ?_))
    refine ⟨m, by omega, _, _, i + 1, by omega, ex1 (ex2 hE (Nat.le_add_right _ _)), ?_, at_mk ⟨rfl, ?_, rfl, ?_, trivial⟩, (List.append_nil _).symm⟩
    · rw [get_set h0, row2_succ, List.map_append, ← e3]; rfl
    · rfl
    · show HV.int _ _ = _
      rw [i64_id (by omega) (by omega)]; simp
end Go.Proofs.X
end
section
namespace Go.Proofs.X
open Go Go.Proofs.XVai Go.Proofs Go.Proofs.XN
set_option linter.unusedVariables false
set_option linter.unusedSimpArgs false
set_option maxHeartbeats 4000000

theorem k_spec_l12Same (a b : List Int) (vars : List Bool) (S : St) (ha : vars.length ≤ a.length) (hb : vars.length ≤ b.length) (hl : vars.length ≤ 1048576) : Ev Y spec_l12Same [L a, L b, BL vars] S (.bool (sameOn a b vars)) S := by
  refine E_start (h := ?_)
  repeat' (first | refine c0 ?_ | refine c7 ?_ | refine d2 ?_ | refine c8 ?_ | refine d4 ?_ | refine a5 (hk := ?_))
  refine C_list vars (fun pre r T' S' => ∃ (T0 : Tm) (S1 : St), sameOn a b vars = sameOn (a.drop pre.length) (b.drop pre.length) r ∧ Ext S S1 ∧ T' = putL T0 [(0, L a), (1, L b), (2, BL vars), (7, I pre.length)] ∧ S' = S1 ++ [])
    ⟨_, _, rfl, ex0, at_mk ⟨rfl, rfl, rfl, rfl, trivial⟩, (List.append_nil _).symm⟩ ?_ ?_
  · rintro pre v r T' S' hx ⟨T0, S1, hq, hE, rfl, rfl⟩
    have hg := mid hx
    have hlt := mid_lt hx
    have ha1 : a[pre.length]? = some (a[pre.length]'(by omega)) := by simp
    have hb1 : b[pre.length]? = some (b[pre.length]'(by omega)) := by simp
    rw [List.drop_eq_getElem_cons (show pre.length < a.length by omega), List.drop_eq_getElem_cons (show pre.length < b.length by omega)] at hq
    simp only [sameOn, List.headD_cons, List.tail_cons] at hq
    generalize a[pre.length]'(by omega) = x at *
    generalize b[pre.length]'(by omega) = y at *
    have hc0 : (pre.length : Int) < ((vars.map fun x => [HV.bool x]).length : Int) := by simp; omega
    cases v with
    | false =>
      repeat' (first | refine c0 ?_ | refine c3 ?_ | refine c7 ?_ | refine d2 ?_ | refine c8 ?_ | refine d0 ?_ | refine d4 ?_ | refine d3' (h := ?_) | refine d4' ?_ | refine a5 (hk := ?_) | refine e0' (hk := ?_) | refine e2' (hk := ?_) | refine e5' (hk := ?_) | refine f6' (hk := ?_) | refine f8' (hk := ?_) | refine d7 (hf := ?_) | refine u7 (hk := ?_))
      refine ⟨_, _, ?_, ex1 hE, at_mk ⟨rfl, rfl, rfl, inc (by omega), trivial⟩, (List.append_nil _).symm⟩
      rw [hq]; simp
    | true =>
      repeat' (first | refine c0 ?_ | refine c1 ?_ | refine c3 ?_ | refine c4 ?_ | refine c7 ?_ | refine d2 ?_ | refine c8 ?_ | refine c9 ?_ | refine d0 ?_ | refine d4 ?_ | refine d3' (h := ?_) | refine d4' ?_ | refine a5 (hk := ?_) | refine e1' (hk := ?_) | refine e5' (hk := ?_) | refine f6' (hk := ?_) | refine f8' (hk := ?_) | (with_reducible intro hc) | refine u7 (hk := ?_) | refine d9 (ht := ?_) (hf := ?_))
      · refine rBx hE (hv := ?_)
        rw [hq]; simp at hc; simp [hc]
      · refine ⟨_, _, ?_, ex1 hE, at_mk ⟨rfl, rfl, rfl, inc (by omega), trivial⟩, (List.append_nil _).symm⟩
        rw [hq]; simp at hc; simp [hc]
  · rintro T' S' ⟨T0, S1, hq, hE, rfl, rfl⟩
    repeat' (first | refine c0 ?_ | refine c2 ?_ | refine c5 ?_ | refine c7 ?_ | refine d2 ?_ | refine c8 ?_ | refine c9 ?_ | refine d0 ?_ | refine d1 ?_ | refine d4 ?_ | refine d3' (h := ?_) | refine a5 (hk := ?_) | refine e5' (hk := ?_) | (with_reducible intro hc) | refine d8 (ht := ?_) (hf := ?_))
    · simp at hc
    · exact rBx hE (hv := by rw [hq]; rfl)
theorem brow_len1 (l : List Bool) : (l.map fun x => [HV.bool x]).length = l.length := by simp
theorem k_spec_TypeKnows (ls : List Lab) (ss : Stps) (h : Int) (S : St) (hs : ss.sz ≤ 1048576) (hl : ls.length ≤ 1048576) : Ev Y spec_TypeKnows [PR ls ss, I h] S (BL (if progOk ls ss then knowsOf ls h else [])) S := by
  cases hok : progOk ls ss with
  | false =>
    refine E_start (h := ?_)
    repeat' (first | refine c0 ?_ | refine c7 ?_ | refine d2 ?_ | refine c8 ?_ | refine d4 ?_ | refine b1 (hk := ?_) | refine b3 (hk := ?_) | refine b4 (hk := ?_) | refine a5 (hk := ?_))
    cases ls with
    | nil =>
      refine d5 ?_
      repeat' (first | refine c0 ?_ | refine c2 ?_ | refine c5 ?_ | refine c7 ?_ | refine d2 ?_ | refine c9 ?_ | refine d1 ?_ | refine d4 ?_ | refine a0 (hk := ?_) | refine a2 (hk := ?_) | refine a5 (hk := ?_) | refine b5 (hk := ?_) | refine d7 (hf := ?_))
      exact rL (hp := rfl) (hv := rfl)
    | cons l0 lt =>
      have hc0 : (0 : Int) < (((l0 :: lt).map lrow).length : Int) := by rw [List.length_map, List.length_cons]; omega
      refine d5 ?_
      repeat' (first | refine c0 ?_ | refine c2 ?_ | refine c5 ?_ | refine c7 ?_ | refine d2 ?_ | refine c9 ?_ | refine d1 ?_ | refine d4 ?_ | refine k0 (he := (by first | exact hok ▸ k_spec_ProgOk (l0 :: lt) ss _ hs hl)) (hk := ?_) | refine u3 (hk := ?_) | refine a5 (hk := ?_) | refine b5 (hk := ?_) | refine d7 (hf := ?_))
      exact rL (hp := rfl) (hv := rfl)
  | true =>
    refine E_start (h := ?_)
    repeat' (first | refine c0 ?_ | refine c7 ?_ | refine d2 ?_ | refine c8 ?_ | refine d4 ?_ | refine b1 (hk := ?_) | refine b3 (hk := ?_) | refine b4 (hk := ?_) | refine a5 (hk := ?_))
    refine C_list ls (fun pre r T' S' => ∃ (T0 : Tm) (S1 : St), Ext S S1 ∧ S1[S.length + 0]? = some (.cells false [[LS ls, .lst ss.rows]]) ∧ S1[S.length + 2]? = some (.cells true ((knowsOf pre h).map fun x => [HV.bool x])) ∧
        T' = putL T0 [(1, I h), (2, .ptr (S.length + 0) 1 0 0), (5, .sl (S.length + 2) pre.length), (6, I pre.length)] ∧ S' = S1 ++ [])
      ⟨_, _, ex0, get_own rfl, get_own rfl, at_mk ⟨rfl, rfl, rfl, rfl, trivial⟩, (List.append_nil _).symm⟩ ?_ ?_
    · rintro pre x r T' S' hx ⟨T0, S1, hE, f0, f2, rfl, rfl⟩
      have hg := mid hx
      have hlt := mid_lt hx
      have hc0 : (pre.length : Int) < ((ls.map lrow).length : Int) := by simp; omega
      have e1 := brow1 (knowsOf pre h)
      have e2 : ((knowsOf pre h).map fun x => [HV.bool x]).length = pre.length := by simp [knowsOf]
      have n0 : S.length + 0 ≠ S.length + 2 := by omega
      repeat' (first | refine c0 ?_ | refine c3 ?_ | refine c7 ?_ | refine d2 ?_ | refine c8 ?_ | refine d0 ?_ | refine d4 ?_ | refine k0 (he := (by first | exact hok ▸ k_spec_ProgOk ls ss _ hs hl | exact k_spec_l1Has _ _ _)) (hk := ?_) | refine u3 (hk := ?_) | refine a5 (hk := ?_) | refine b5 (hk := ?_) | refine b6 (hk := ?_) | refine b8 (hk := ?_) | refine p0 (hk := ?_) | refine d6 (ht := ?_))
      refine ⟨_, _, ex1 (ex2 hE (Nat.le_add_right _ _)), get_setN n0 f0, ?_, at_mk ⟨rfl, rfl, ?_, inc (by omega), trivial⟩, (List.append_nil _).symm⟩
      · rw [get_set f2, show knowsOf (pre ++ [x]) h = knowsOf pre h ++ [hasG x.k h] by simp [knowsOf], List.map_append]; rfl
      · show HV.sl _ _ = _; simp
    · rintro T' S' ⟨T0, S1, hE, f0, f2, rfl, rfl⟩
      have hc0 : ¬ ((ls.length : Int) < ((ls.map lrow).length : Int)) := by simp
      repeat' (first | refine c0 ?_ | refine c2 ?_ | refine c5 ?_ | refine c7 ?_ | refine d2 ?_ | refine c9 ?_ | refine d1 ?_ | refine d4 ?_ | refine a0 (hk := ?_) | refine u4 (hk := ?_) | refine a5 (hk := ?_) | refine b5 (hk := ?_) | refine d7 (hf := ?_))
      exact rLx hE (hn := by simp [knowsOf]) (hp := brow_pure _) (hv := rfl)
theorem k_spec_TypeTrusts (ls : List Lab) (ss : Stps) (h : Int) (S : St) (hs : ss.sz ≤ 1048576) (hl : ls.length ≤ 1048576) : Ev Y spec_TypeTrusts [PR ls ss, I h] S (BL (if progOk ls ss then trustsOf ls h else [])) S := by
  cases hok : progOk ls ss with
  | false =>
    refine E_start (h := ?_)
    repeat' (first | refine c0 ?_ | refine c7 ?_ | refine d2 ?_ | refine c8 ?_ | refine d4 ?_ | refine b1 (hk := ?_) | refine b3 (hk := ?_) | refine b4 (hk := ?_) | refine a5 (hk := ?_))
    cases ls with
    | nil =>
      refine d5 ?_
      repeat' (first | refine c0 ?_ | refine c2 ?_ | refine c5 ?_ | refine c7 ?_ | refine d2 ?_ | refine c9 ?_ | refine d1 ?_ | refine d4 ?_ | refine a0 (hk := ?_) | refine a2 (hk := ?_) | refine a5 (hk := ?_) | refine b5 (hk := ?_) | refine d7 (hf := ?_))
      exact rL (hp := rfl) (hv := rfl)
    | cons l0 lt =>
      have hc0 : (0 : Int) < (((l0 :: lt).map lrow).length : Int) := by rw [List.length_map, List.length_cons]; omega
      refine d5 ?_
      repeat' (first | refine c0 ?_ | refine c2 ?_ | refine c5 ?_ | refine c7 ?_ | refine d2 ?_ | refine c9 ?_ | refine d1 ?_ | refine d4 ?_ | refine k0 (he := (by first | exact hok ▸ k_spec_ProgOk (l0 :: lt) ss _ hs hl)) (hk := ?_) | refine u3 (hk := ?_) | refine a5 (hk := ?_) | refine b5 (hk := ?_) | refine d7 (hf := ?_))
      exact rL (hp := rfl) (hv := rfl)
  | true =>
    refine E_start (h := ?_)
    repeat' (first | refine c0 ?_ | refine c7 ?_ | refine d2 ?_ | refine c8 ?_ | refine d4 ?_ | refine b1 (hk := ?_) | refine b3 (hk := ?_) | refine b4 (hk := ?_) | refine a5 (hk := ?_))
    refine C_list ls (fun pre r T' S' => ∃ (T0 : Tm) (S1 : St), Ext S S1 ∧ S1[S.length + 0]? = some (.cells false [[LS ls, .lst ss.rows]]) ∧ S1[S.length + 2]? = some (.cells true ((trustsOf pre h).map fun x => [HV.bool x])) ∧
        T' = putL T0 [(1, I h), (2, .ptr (S.length + 0) 1 0 0), (5, .sl (S.length + 2) pre.length), (6, I pre.length)] ∧ S' = S1 ++ [])
      ⟨_, _, ex0, get_own rfl, get_own rfl, at_mk ⟨rfl, rfl, rfl, rfl, trivial⟩, (List.append_nil _).symm⟩ ?_ ?_
    · rintro pre x r T' S' hx ⟨T0, S1, hE, f0, f2, rfl, rfl⟩
      have hg := mid hx
      have hlt := mid_lt hx
      have hc0 : (pre.length : Int) < ((ls.map lrow).length : Int) := by simp; omega
      have e1 := brow1 (trustsOf pre h)
      have e2 : ((trustsOf pre h).map fun x => [HV.bool x]).length = pre.length := by simp [trustsOf]
      have n0 : S.length + 0 ≠ S.length + 2 := by omega
      repeat' (first | refine c0 ?_ | refine c3 ?_ | refine c7 ?_ | refine d2 ?_ | refine c8 ?_ | refine d0 ?_ | refine d4 ?_ | refine k0 (he := (by first | exact hok ▸ k_spec_ProgOk ls ss _ hs hl | exact k_spec_l1Has _ _ _)) (hk := ?_) | refine u3 (hk := ?_) | refine a5 (hk := ?_) | refine b5 (hk := ?_) | refine b6 (hk := ?_) | refine b8 (hk := ?_) | refine p0 (hk := ?_) | refine d6 (ht := ?_))
      refine ⟨_, _, ex1 (ex2 hE (Nat.le_add_right _ _)), get_setN n0 f0, ?_, at_mk ⟨rfl, rfl, ?_, inc (by omega), trivial⟩, (List.append_nil _).symm⟩
      · rw [get_set f2, show trustsOf (pre ++ [x]) h = trustsOf pre h ++ [hasG x.t h] by simp [trustsOf], List.map_append]; rfl
      · show HV.sl _ _ = _; simp
    · rintro T' S' ⟨T0, S1, hE, f0, f2, rfl, rfl⟩
      have hc0 : ¬ ((ls.length : Int) < ((ls.map lrow).length : Int)) := by simp
      repeat' (first | refine c0 ?_ | refine c2 ?_ | refine c5 ?_ | refine c7 ?_ | refine d2 ?_ | refine c9 ?_ | refine d1 ?_ | refine d4 ?_ | refine a0 (hk := ?_) | refine u4 (hk := ?_) | refine a5 (hk := ?_) | refine b5 (hk := ?_) | refine d7 (hf := ?_))
      exact rLx hE (hn := by simp [trustsOf]) (hp := brow_pure _) (hv := rfl)
end Go.Proofs.X
end
section
namespace Go.Proofs.X
open Go Go.Proofs.XVai Go.Proofs Go.Proofs.XN
set_option linter.unusedVariables false
set_option linter.unusedSimpArgs false
set_option maxHeartbeats 4000000

theorem k_Equal_int (xs ys : List Int) (S : St) (hx : xs.length ≤ 1048576) (hy : ys.length ≤ 1048576) : Ev Y slices_Equal_int [L xs, L ys] S (.bool (xs == ys)) S := by
  refine E_start (h := ?_)
  repeat' (first | refine c0 ?_ | refine c1 ?_ | refine c7 ?_ | refine d2 ?_ | refine c8 ?_ | refine c9 ?_ | refine d0 ?_ | refine d4 ?_ | refine a5 (hk := ?_) | (with_reducible intro hc) | refine d9 (ht := ?_) (hf := ?_))
  · refine rB (hv := ?_)
    simp at hc
    symm; simp; intro e; rw [e] at hc; exact hc rfl
  · have hlen : xs.length = ys.length := by simp at hc; omega
    refine C_list xs (fun pre r T' S' => ∃ (T0 : Tm) (S1 : St), (xs == ys) = (r == ys.drop pre.length) ∧ Ext S S1 ∧ T' = putL T0 [(0, L xs), (1, L ys), (12, I (xs.map irow).length), (13, I pre.length)] ∧ S' = S1 ++ [])
      ⟨_, _, rfl, ex0, at_mk ⟨rfl, rfl, rfl, rfl, trivial⟩, (List.append_nil _).symm⟩ ?_ ?_
    · rintro pre x r T' S' hxs ⟨T0, S1, hq, hE, rfl, rfl⟩
      have hg := mid hxs
      have hlt := mid_lt hxs
      have hlt2 : pre.length < ys.length := by omega
      have hg2 : ys[pre.length]? = some ys[pre.length] := by simp [hlt2]
      rw [List.drop_eq_getElem_cons hlt2] at hq
      have hq : (xs == ys) = (x == ys[pre.length] && r == ys.drop (pre.length + 1)) := hq
      repeat' (first | refine c0 ?_ | refine c1 ?_ | refine c2 ?_ | refine c3 ?_ | refine c4 ?_ | refine c5 ?_ | refine c7 ?_ | refine d2 ?_ | refine c8 ?_ | refine c9 ?_ | refine d0 ?_ | refine d1 ?_ | refine d4 ?_ | refine d3' (h := ?_) | refine d4' ?_ | refine a5 (hk := ?_) | refine e5' (hk := ?_) | refine f6' (hk := ?_) | refine f8' (hk := ?_) | (with_reducible intro hc) | refine d8 (ht := ?_) (hf := ?_) | refine d9 (ht := ?_) (hf := ?_))
      · refine rBx hE (hv := ?_)
        rw [hq]; simp at hc; simp [hc]
      · refine ⟨_, _, ?_, ex1 hE, at_mk ⟨rfl, rfl, rfl, inc (by omega), trivial⟩, (List.append_nil _).symm⟩
        rw [hq]; simp at hc; simp [hc]
      · simp at hc; omega
    · rintro T' S' ⟨T0, S1, hq, hE, rfl, rfl⟩
      repeat' (first | refine c0 ?_ | refine c2 ?_ | refine c5 ?_ | refine c7 ?_ | refine d2 ?_ | refine c8 ?_ | refine c9 ?_ | refine d0 ?_ | refine d1 ?_ | refine d4 ?_ | refine a5 (hk := ?_) | (with_reducible intro hc) | refine d8 (ht := ?_) (hf := ?_))
      · simp at hc
      · exact rBx hE (hv := by rw [hq, hlen]; simp)
theorem k_Equal_Write (xs ys : List (Int × Int)) (S : St) (hx : xs.length ≤ 1048576) (hy : ys.length ≤ 1048576) : Ev Y slices_Equal_impl_Write [WS xs, WS ys] S (.bool (xs == ys)) S := by
  refine E_start (h := ?_)
  repeat' (first | refine c0 ?_ | refine c1 ?_ | refine c7 ?_ | refine d2 ?_ | refine c8 ?_ | refine c9 ?_ | refine d0 ?_ | refine d4 ?_ | refine a5 (hk := ?_) | (with_reducible intro hc) | refine d9 (ht := ?_) (hf := ?_))
  · refine rB (hv := ?_)
    simp at hc
    symm; simp; intro e; rw [e] at hc; exact hc rfl
  · have hlen : xs.length = ys.length := by simp at hc; omega
    refine C_list xs (fun pre r T' S' => ∃ (T0 : Tm) (S1 : St), (xs == ys) = (r == ys.drop pre.length) ∧ Ext S S1 ∧ T' = putL T0 [(0, WS xs), (1, WS ys), (12, I (xs.map wrow).length), (13, I pre.length)] ∧ S' = S1 ++ [])
      ⟨_, _, rfl, ex0, at_mk ⟨rfl, rfl, rfl, rfl, trivial⟩, (List.append_nil _).symm⟩ ?_ ?_
    · rintro pre x r T' S' hxs ⟨T0, S1, hq, hE, rfl, rfl⟩
      have hg := mid hxs
      have hlt := mid_lt hxs
      have hlt2 : pre.length < ys.length := by omega
      have hg2 : ys[pre.length]? = some ys[pre.length] := by simp [hlt2]
      rw [List.drop_eq_getElem_cons hlt2] at hq
      have hq : (xs == ys) = (x == ys[pre.length] && r == ys.drop (pre.length + 1)) := hq
      repeat' (first | refine c0 ?_ | refine c1 ?_ | refine c2 ?_ | refine c3 ?_ | refine c4 ?_ | refine c5 ?_ | refine c7 ?_ | refine d2 ?_ | refine c8 ?_ | refine c9 ?_ | refine d0 ?_ | refine d1 ?_ | refine d4 ?_ | refine d3' (h := ?_) | refine d4' ?_ | refine a5 (hk := ?_) | refine e5' (hk := ?_) | refine f6' (hk := ?_) | refine f8' (hk := ?_) | (with_reducible intro hc) | refine d8 (ht := ?_) (hf := ?_) | refine d9 (ht := ?_) (hf := ?_))
      · refine rBx hE (hv := ?_)
        rw [weq] at hc
        rw [hq]; simp at hc; simp [hc]
      · refine ⟨_, _, ?_, ex1 hE, at_mk ⟨rfl, rfl, rfl, inc (by omega), trivial⟩, (List.append_nil _).symm⟩
        rw [weq] at hc
        rw [hq]; simp at hc; simp [hc]
      · simp at hc; omega
    · rintro T' S' ⟨T0, S1, hq, hE, rfl, rfl⟩
      repeat' (first | refine c0 ?_ | refine c2 ?_ | refine c5 ?_ | refine c7 ?_ | refine d2 ?_ | refine c8 ?_ | refine c9 ?_ | refine d0 ?_ | refine d1 ?_ | refine d4 ?_ | refine a5 (hk := ?_) | (with_reducible intro hc) | refine d8 (ht := ?_) (hf := ?_))
      · simp at hc
      · exact rBx hE (hv := by rw [hq, hlen]; simp)
theorem k_impl_each (ls : List Lab) (ss : Stps) (h : Int) (g : Nat) (f : Lab → Int) (S : St) (hs : ss.sz ≤ 1048576) (hl : ls.length ≤ 1048576) (hg : Y.byref g = false) (hf : ∀ l S, Ev Y g [.agg (lrow l)] S (I (f l)) S) :
    Ev Y impl_Prog_each [PR ls ss, I h, .fn g []] S (BL (if progOk ls ss then ls.map fun l => hasI (f l) h else [])) S := by
  cases hok : progOk ls ss with
  | false =>
    refine E_start (h := ?_)
    repeat' (first | refine c0 ?_ | refine c1 ?_ | refine c7 ?_ | refine d2 ?_ | refine c9 ?_ | refine d4 ?_ | refine k0 (he := (by first | exact hok ▸ k_impl_ProgOk ls ss _ hs hl)) (hk := ?_) | refine b1 (hk := ?_) | refine b3 (hk := ?_) | refine a5 (hk := ?_) | refine b5 (hk := ?_) | refine d6 (ht := ?_))
    exact rL (hp := rfl) (hv := rfl)
  | true =>
    refine E_start (h := ?_)
    repeat' (first | refine c0 ?_ | refine c7 ?_ | refine d2 ?_ | refine c8 ?_ | refine d0 ?_ | refine d4 ?_ | refine k0 (he := (by first | exact hok ▸ k_impl_ProgOk ls ss _ hs hl)) (hk := ?_) | refine b1 (hk := ?_) | refine b3 (hk := ?_) | refine a5 (hk := ?_) | refine b5 (hk := ?_) | refine d7 (hf := ?_))
    refine C_list ls (fun pre r T' S' => ∃ (T0 : Tm) (S1 : St), Ext S S1 ∧ S1[S.length + 2]? = some (.cells true ((pre.map fun l => hasI (f l) h).map fun x => [HV.bool x])) ∧
        T' = putL T0 [(1, I h), (2, .fn g []), (7, .sl (S.length + 2) pre.length), (14, LS ls), (15, I (ls.map lrow).length), (16, I pre.length)] ∧ S' = S1 ++ [])
      ⟨_, _, ex0, get_own rfl, at_mk ⟨rfl, rfl, rfl, rfl, rfl, rfl, trivial⟩, (List.append_nil _).symm⟩ ?_ ?_
    · rintro pre x r T' S' hx ⟨T0, S1, hE, f2, rfl, rfl⟩
      have hget := mid hx
      have hlt := mid_lt hx
      have hc0 : (pre.length : Int) < ((ls.map lrow).length : Int) := by simp; omega
      have e1' := brow1 (pre.map fun l => hasI (f l) h)
      have e2' : ((pre.map fun l => hasI (f l) h).map fun x => [HV.bool x]).length = pre.length := by simp
      repeat' (first | refine c0 ?_ | refine c3 ?_ | refine c7 ?_ | refine d2 ?_ | refine c8 ?_ | refine d0 ?_ | refine d4 ?_ | refine k0 (he := (by first | exact hf _ _ | exact k_impl_has _ _ _)) (hk := ?_) | refine b0 (hk := ?_) | refine a5 (hk := ?_) | refine b5 (hk := ?_) | refine b6 (hk := ?_) | refine b8 (hk := ?_) | refine b7 (hk := ?_) | refine p0 (hk := ?_) | refine u7 (hk := ?_))
      refine ⟨_, _, ex1 (ex2 hE (Nat.le_add_right _ _)), ?_, at_mk ⟨rfl, rfl, ?_, rfl, rfl, inc (by omega), trivial⟩, (List.append_nil _).symm⟩
      · rw [get_set f2, List.map_append, List.map_append]; rfl
      · show HV.sl _ _ = _; simp
    · rintro T' S' ⟨T0, S1, hE, f2, rfl, rfl⟩
      have hc0 : ¬ ((ls.length : Int) < ((ls.map lrow).length : Int)) := by simp
      repeat' (first | refine c0 ?_ | refine c2 ?_ | refine c5 ?_ | refine c7 ?_ | refine d2 ?_ | refine c9 ?_ | refine d1 ?_ | refine d4 ?_ | refine a5 (hk := ?_) | refine u8 (hk := ?_))
      exact rLx hE (hn := by simp) (hp := brow_pure _) (hv := rfl)
theorem k_impl_TypeKnows_1 (l : Lab) (S : St) : Ev Y impl_TypeKnows_1 [.agg (lrow l)] S (I l.k) S := by
  refine E_start (h := ?_)
  repeat' (first | refine c0 ?_ | refine c7 ?_ | refine d2 ?_ | refine c9 ?_ | refine d4 ?_ | refine b1 (hk := ?_) | refine a5 (hk := ?_) | refine b5 (hk := ?_))
  exact rI (hv := rfl)
theorem k_impl_TypeTrusts_1 (l : Lab) (S : St) : Ev Y impl_TypeTrusts_1 [.agg (lrow l)] S (I l.t) S := by
  refine E_start (h := ?_)
  repeat' (first | refine c0 ?_ | refine c7 ?_ | refine d2 ?_ | refine c9 ?_ | refine d4 ?_ | refine b1 (hk := ?_) | refine a5 (hk := ?_) | refine b5 (hk := ?_))
  exact rI (hv := rfl)
theorem labs_set {ls : List Lab} {ss : Stps} (h : progOk ls ss = true) : ∀ l ∈ ls, setB l.k = true ∧ setB l.t = true := fun l hl => by
  have := List.all_eq_true.1 (progOk_in h).2.1 l hl
  simpa [labOk] using this
theorem k_impl_TypeKnows (ls : List Lab) (ss : Stps) (h : Int) (S : St) (hs : ss.sz ≤ 1048576) (hl : ls.length ≤ 1048576) : Ev Y impl_TypeKnows [PR ls ss, I h] S (BL (if progOk ls ss then knowsOf ls h else [])) S := by
  have e : (if progOk ls ss then knowsOf ls h else []) = if progOk ls ss then ls.map fun l => hasI l.k h else [] := by
    cases hok : progOk ls ss with
    | false => rfl
    | true =>
      simp only [if_true, knowsOf]
      exact List.map_congr_left fun l hl => (has_eq (labs_set hok l hl).1 h).symm
  rw [e]
  refine E_start (h := ?_)
  repeat' (first | refine c0 ?_ | refine c7 ?_ | refine d2 ?_ | refine c9 ?_ | refine d4 ?_ | refine k0 (he := (by first | exact k_impl_each ls ss h _ (fun l => l.k) _ hs hl rfl k_impl_TypeKnows_1)) (hk := ?_) | refine b1 (hk := ?_) | refine b3 (hk := ?_) | refine a5 (hk := ?_) | refine b5 (hk := ?_))
  exact rV
theorem k_impl_TypeTrusts (ls : List Lab) (ss : Stps) (h : Int) (S : St) (hs : ss.sz ≤ 1048576) (hl : ls.length ≤ 1048576) : Ev Y impl_TypeTrusts [PR ls ss, I h] S (BL (if progOk ls ss then trustsOf ls h else [])) S := by
  have e : (if progOk ls ss then trustsOf ls h else []) = if progOk ls ss then ls.map fun l => hasI l.t h else [] := by
    cases hok : progOk ls ss with
    | false => rfl
    | true =>
      simp only [if_true, trustsOf]
      exact List.map_congr_left fun l hl => (has_eq (labs_set hok l hl).2 h).symm
  rw [e]
  refine E_start (h := ?_)
  repeat' (first | refine c0 ?_ | refine c7 ?_ | refine d2 ?_ | refine c9 ?_ | refine d4 ?_ | refine k0 (he := (by first | exact k_impl_each ls ss h _ (fun l => l.t) _ hs hl rfl k_impl_TypeTrusts_1)) (hk := ?_) | refine b1 (hk := ?_) | refine b3 (hk := ?_) | refine a5 (hk := ?_) | refine b5 (hk := ?_))
  exact rV
end Go.Proofs.X
end
section
namespace Go.Proofs.X
open Go Go.Proofs.XVai Go.Proofs Go.Proofs.XN
set_option linter.unusedVariables false
set_option linter.unusedSimpArgs false
set_option maxHeartbeats 4000000

theorem k_laws_lcInts (xs ys : List Int) (S : St) (hx : xs.length ≤ 1048576) (hy : ys.length ≤ 1048576) : Ev Y laws_lcInts [L xs, L ys] S (.bool (xs == ys)) S := by
  refine E_start (h := ?_)
  repeat' (first | refine c0 ?_ | refine c1 ?_ | refine c7 ?_ | refine d2 ?_ | refine c8 ?_ | refine c9 ?_ | refine d0 ?_ | refine d4 ?_ | refine a5 (hk := ?_) | (with_reducible intro hc) | refine d9 (ht := ?_) (hf := ?_))
  · refine rB (hv := ?_)
    simp at hc
    symm; simp; intro e; rw [e] at hc; exact hc rfl
  · have hlen : xs.length = ys.length := by simp at hc; omega
    refine C_list xs (fun pre r T' S' => ∃ (T0 : Tm) (S1 : St), (xs == ys) = (r == ys.drop pre.length) ∧ Ext S S1 ∧ T' = putL T0 [(0, L xs), (1, L ys), (5, I pre.length)] ∧ S' = S1 ++ [])
      ⟨_, _, rfl, ex0, at_mk ⟨rfl, rfl, rfl, trivial⟩, (List.append_nil _).symm⟩ ?_ ?_
    · rintro pre x r T' S' hxs ⟨T0, S1, hq, hE, rfl, rfl⟩
      have hg := mid hxs
      have hlt := mid_lt hxs
      have hlt2 : pre.length < ys.length := by omega
      have hg2 : ys[pre.length]? = some ys[pre.length] := by simp [hlt2]
      rw [List.drop_eq_getElem_cons hlt2] at hq
      have hq : (xs == ys) = (x == ys[pre.length] && r == ys.drop (pre.length + 1)) := hq
      repeat' (first | refine c0 ?_ | refine c1 ?_ | refine c2 ?_ | refine c3 ?_ | refine c4 ?_ | refine c5 ?_ | refine c7 ?_ | refine d2 ?_ | refine c8 ?_ | refine c9 ?_ | refine d0 ?_ | refine d1 ?_ | refine d4 ?_ | refine d3' (h := ?_) | refine d4' ?_ | refine a5 (hk := ?_) | refine e5' (hk := ?_) | refine f6' (hk := ?_) | refine f8' (hk := ?_) | (with_reducible intro hc) | refine d8 (ht := ?_) (hf := ?_) | refine d9 (ht := ?_) (hf := ?_))
      · refine rBx hE (hv := ?_)
        rw [hq]; simp at hc; simp [hc]
      · refine ⟨_, _, ?_, ex1 hE, at_mk ⟨rfl, rfl, inc (by omega), trivial⟩, (List.append_nil _).symm⟩
        rw [hq]; simp at hc; simp [hc]
      · simp at hc; omega
    · rintro T' S' ⟨T0, S1, hq, hE, rfl, rfl⟩
      repeat' (first | refine c0 ?_ | refine c2 ?_ | refine c5 ?_ | refine c7 ?_ | refine d2 ?_ | refine c8 ?_ | refine c9 ?_ | refine d0 ?_ | refine d1 ?_ | refine d4 ?_ | refine a5 (hk := ?_) | (with_reducible intro hc) | refine d8 (ht := ?_) (hf := ?_))
      · simp at hc
      · exact rBx hE (hv := by rw [hq, hlen]; simp)
theorem k_laws_lcWrites (xs ys : List (Int × Int)) (S : St) (hx : xs.length ≤ 1048576) (hy : ys.length ≤ 1048576) : Ev Y laws_lcWrites [WS xs, WS ys] S (.bool (xs == ys)) S := by
  refine E_start (h := ?_)
  repeat' (first | refine c0 ?_ | refine c1 ?_ | refine c7 ?_ | refine d2 ?_ | refine c8 ?_ | refine c9 ?_ | refine d0 ?_ | refine d4 ?_ | refine a5 (hk := ?_) | (with_reducible intro hc) | refine d9 (ht := ?_) (hf := ?_))
  · refine rB (hv := ?_)
    simp at hc
    symm; simp; intro e; rw [e] at hc; exact hc rfl
  · have hlen : xs.length = ys.length := by simp at hc; omega
    refine C_list xs (fun pre r T' S' => ∃ (T0 : Tm) (S1 : St), (xs == ys) = (r == ys.drop pre.length) ∧ Ext S S1 ∧ T' = putL T0 [(0, WS xs), (1, WS ys), (5, I pre.length)] ∧ S' = S1 ++ [])
      ⟨_, _, rfl, ex0, at_mk ⟨rfl, rfl, rfl, trivial⟩, (List.append_nil _).symm⟩ ?_ ?_
    · rintro pre x r T' S' hxs ⟨T0, S1, hq, hE, rfl, rfl⟩
      have hg := mid hxs
      have hlt := mid_lt hxs
      have hlt2 : pre.length < ys.length := by omega
      have hg2 : ys[pre.length]? = some ys[pre.length] := by simp [hlt2]
      rw [List.drop_eq_getElem_cons hlt2] at hq
      have hq : (xs == ys) = (x == ys[pre.length] && r == ys.drop (pre.length + 1)) := hq
      repeat' (first | refine c0 ?_ | refine c1 ?_ | refine c2 ?_ | refine c3 ?_ | refine c4 ?_ | refine c5 ?_ | refine c7 ?_ | refine d2 ?_ | refine c8 ?_ | refine c9 ?_ | refine d0 ?_ | refine d1 ?_ | refine d4 ?_ | refine d3' (h := ?_) | refine d4' ?_ | refine a5 (hk := ?_) | refine e5' (hk := ?_) | refine f6' (hk := ?_) | refine f8' (hk := ?_) | (with_reducible intro hc) | refine d8 (ht := ?_) (hf := ?_) | refine d9 (ht := ?_) (hf := ?_))
      · refine rBx hE (hv := ?_)
        rw [weq] at hc
        rw [hq]; simp at hc; simp [hc]
      · refine ⟨_, _, ?_, ex1 hE, at_mk ⟨rfl, rfl, inc (by omega), trivial⟩, (List.append_nil _).symm⟩
        rw [weq] at hc
        rw [hq]; simp at hc; simp [hc]
      · simp at hc; omega
    · rintro T' S' ⟨T0, S1, hq, hE, rfl, rfl⟩
      repeat' (first | refine c0 ?_ | refine c2 ?_ | refine c5 ?_ | refine c7 ?_ | refine d2 ?_ | refine c8 ?_ | refine c9 ?_ | refine d0 ?_ | refine d1 ?_ | refine d4 ?_ | refine a5 (hk := ?_) | (with_reducible intro hc) | refine d8 (ht := ?_) (hf := ?_))
      · simp at hc
      · exact rBx hE (hv := by rw [hq, hlen]; simp)

/-- Is something told to a host? -/
def tells : Stps → Int → Bool
  | .nil, _ => false
  | .cons k _ _ hh t e r, h => (k == 3 && hh == h || (tells t h || tells e h)) || tells r h
theorem k_laws_lcTells (n : Nat) : ∀ (l : Stps) (h : Int) (S : St), l.sz ≤ n → l.sz ≤ 1048576 → Ev Y laws_lcTells [.lst l.rows, I h] S (.bool (tells l h)) S := by
  induction n with
  | zero =>
    intro l h S hn _
    cases l with
    | cons => simp [Stps.sz] at hn
    | nil =>
      refine E_start (h := ?_)
      repeat' (first | refine c0 ?_ | refine c7 ?_ | refine d2 ?_ | refine c8 ?_ | refine d4 ?_ | refine a5 (hk := ?_))
      refine d5 ?_
      repeat' (first | refine c0 ?_ | refine c2 ?_ | refine c5 ?_ | refine c7 ?_ | refine d2 ?_ | refine c9 ?_ | refine d1 ?_ | refine d4 ?_ | refine a5 (hk := ?_) | refine d7 (hf := ?_))
      exact rB (hv := rfl)
  | succ n ih =>
    intro l h S hn hb
    refine E_start (h := ?_)
    repeat' (first | refine c0 ?_ | refine c7 ?_ | refine d2 ?_ | refine c8 ?_ | refine d4 ?_ | refine a5 (hk := ?_))
    refine C_stps l (fun pre r T' S' => ∃ (T0 : Tm) (S1 : St), tells l h = tells r h ∧ Ext S S1 ∧ T' = putL T0 [(0, .lst l.rows), (1, I h), (5, I pre.length)] ∧ S' = S1 ++ [])
      ⟨_, _, rfl, ex0, at_mk ⟨rfl, rfl, rfl, trivial⟩, (List.append_nil _).symm⟩ ?_ ?_
    · rintro pre k v x hh t e r T' S' hx hz ⟨T0, S1, hq, hE, rfl, rfl⟩
      have hg := mid hx
      have hlt := mid_lt hx
      have := l.rows_len
      have := l.len_sz
      have hc0 : (pre.length : Int) < (l.rows.length : Int) := by omega
      simp only [tells] at hq
      have it := fun S => ih t h S (by omega) (by omega)
      have ie := fun S => ih e h S (by omega) (by omega)
      clear ih
      repeat' (first | refine c0 ?_ | refine c1 ?_ | refine c3 ?_ | refine c4 ?_ | refine c7 ?_ | refine d2 ?_ | refine c8 ?_ | refine c9 ?_ | refine d0 ?_ | refine d4 ?_ | refine a0 (hk := ?_) | refine k0 (he := (by first | exact it _ | exact ie _)) (hk := ?_) | refine a1 (hk := ?_) | refine a2 (hk := ?_) | refine a4 (ht := ?_) (hf := ?_) | refine a5 (hk := ?_) | refine b6 (hk := ?_) | refine b8 (hk := ?_) | (with_reducible intro hc) | refine d6 (ht := ?_) | refine u7 (hk := ?_) | refine d9 (ht := ?_) (hf := ?_))
      all_goals clear it ie
      all_goals first
        | (refine rBx hE (hv := ?_); rw [hq]; clear hq; simp_all; done)
        | (refine ⟨_, _, ?_, ex1 hE, at_mk ⟨rfl, rfl, inc (by omega), trivial⟩, (List.append_nil _).symm⟩; rw [hq]; clear hq; simp_all; done)
    · rintro pre T' S' hx ⟨T0, S1, hq, hE, rfl, rfl⟩
      repeat' (first | refine c0 ?_ | refine c2 ?_ | refine c5 ?_ | refine c7 ?_ | refine d2 ?_ | refine c8 ?_ | refine c9 ?_ | refine d0 ?_ | refine d1 ?_ | refine d4 ?_ | refine a5 (hk := ?_) | (with_reducible intro hc) | refine d8 (ht := ?_) (hf := ?_))
      · simp [hx] at hc
      · exact rBx hE (hv := by rw [hq]; rfl)
theorem k_laws_lcBits (xs : List Int) (S : St) (hx : xs.length ≤ 1048576) : Ev Y laws_lcBits [L xs] S (.bool (xs.all fun x => x == 0 || x == 1)) S := by
  refine E_start (h := ?_)
  repeat' (first | refine c0 ?_ | refine c7 ?_ | refine d2 ?_ | refine c8 ?_ | refine d4 ?_ | refine a5 (hk := ?_))
  refine C_list xs (fun pre r T' S' => ∃ (T0 : Tm) (S1 : St), (xs.all fun x => x == 0 || x == 1) = (r.all fun x => x == 0 || x == 1) ∧ Ext S S1 ∧ T' = putL T0 [(0, L xs), (3, I pre.length)] ∧ S' = S1 ++ [])
    ⟨_, _, rfl, ex0, at_mk ⟨rfl, rfl, trivial⟩, (List.append_nil _).symm⟩ ?_ ?_
  · rintro pre x r T' S' hxs ⟨T0, S1, hq, hE, rfl, rfl⟩
    have hg := mid hxs
    have hlt := mid_lt hxs
    have hc0 : (pre.length : Int) < ((xs.map irow).length : Int) := by simp; omega
    simp only [List.all_cons] at hq
    repeat' (first | refine c0 ?_ | refine c1 ?_ | refine c3 ?_ | refine c4 ?_ | refine c7 ?_ | refine d2 ?_ | refine c8 ?_ | refine c9 ?_ | refine d0 ?_ | refine d4 ?_ | refine a0 (hk := ?_) | refine a4 (ht := ?_) (hf := ?_) | refine a5 (hk := ?_) | refine b6 (hk := ?_) | refine b8 (hk := ?_) | (with_reducible intro hc) | refine d7 (hf := ?_) | refine u7 (hk := ?_) | refine d9 (ht := ?_) (hf := ?_))
    all_goals first
      | (refine rBx hE (hv := ?_); rw [hq]; clear hq; simp_all; done)
      | (refine ⟨_, _, ?_, ex1 hE, at_mk ⟨rfl, inc (by omega), trivial⟩, (List.append_nil _).symm⟩; rw [hq]; clear hq; simp_all; done)
  · rintro T' S' ⟨T0, S1, hq, hE, rfl, rfl⟩
    repeat' (first | refine c0 ?_ | refine c2 ?_ | refine c5 ?_ | refine c7 ?_ | refine d2 ?_ | refine c8 ?_ | refine c9 ?_ | refine d0 ?_ | refine d1 ?_ | refine d4 ?_ | refine a5 (hk := ?_) | (with_reducible intro hc) | refine d8 (ht := ?_) (hf := ?_))
    · simp at hc
    · exact rBx hE (hv := by rw [hq]; rfl)
theorem k_laws_lcSameOf (a b : List Int) (vars : List Bool) (S : St) (ha : vars.length = a.length) (hb : vars.length = b.length) (hl : vars.length ≤ 1048576) : Ev Y laws_lcSameOf [L a, L b, BL vars] S (.bool (sameOn a b vars)) S := by
  refine E_start (h := ?_)
  repeat' (first | refine c0 ?_ | refine c7 ?_ | refine d2 ?_ | refine c8 ?_ | refine d4 ?_ | refine a5 (hk := ?_))
  refine C_list vars (fun pre r T' S' => ∃ (T0 : Tm) (S1 : St), sameOn a b vars = sameOn (a.drop pre.length) (b.drop pre.length) r ∧ Ext S S1 ∧ T' = putL T0 [(0, L a), (1, L b), (2, BL vars), (7, I pre.length)] ∧ S' = S1 ++ [])
    ⟨_, _, rfl, ex0, at_mk ⟨rfl, rfl, rfl, rfl, trivial⟩, (List.append_nil _).symm⟩ ?_ ?_
  · rintro pre v r T' S' hx ⟨T0, S1, hq, hE, rfl, rfl⟩
    have hg := mid hx
    have hlt := mid_lt hx
    have ha1 : a[pre.length]? = some (a[pre.length]'(by omega)) := by simp
    have hb1 : b[pre.length]? = some (b[pre.length]'(by omega)) := by simp
    rw [List.drop_eq_getElem_cons (show pre.length < a.length by omega), List.drop_eq_getElem_cons (show pre.length < b.length by omega)] at hq
    simp only [sameOn, List.headD_cons, List.tail_cons] at hq
    generalize a[pre.length]'(by omega) = x at *
    generalize b[pre.length]'(by omega) = y at *
    have hc0 : (pre.length : Int) < ((vars.map fun x => [HV.bool x]).length : Int) := by simp; omega
    have hc1 : (pre.length : Int) < ((a.map irow).length : Int) := by simp; omega
    have hc2 : (pre.length : Int) < ((b.map irow).length : Int) := by simp; omega
    cases v with
    | false =>
      repeat' (first | refine c0 ?_ | refine c3 ?_ | refine c7 ?_ | refine d2 ?_ | refine c8 ?_ | refine d0 ?_ | refine d4 ?_ | refine d3' (h := ?_) | refine d4' ?_ | refine u3 (hk := ?_) | refine a5 (hk := ?_) | refine e0' (hk := ?_) | refine e2' (hk := ?_) | refine e5' (hk := ?_) | refine f6' (hk := ?_) | refine f8' (hk := ?_) | refine d7 (hf := ?_) | refine u7 (hk := ?_))
      refine ⟨_, _, ?_, ex1 hE, at_mk ⟨rfl, rfl, rfl, inc (by omega), trivial⟩, (List.append_nil _).symm⟩
      rw [hq]; simp
    | true =>
      repeat' (first | refine c0 ?_ | refine c1 ?_ | refine c3 ?_ | refine c4 ?_ | refine c7 ?_ | refine d2 ?_ | refine c8 ?_ | refine c9 ?_ | refine d0 ?_ | refine d4 ?_ | refine d3' (h := ?_) | refine d4' ?_ | refine u3 (hk := ?_) | refine a5 (hk := ?_) | refine e1' (hk := ?_) | refine e5' (hk := ?_) | refine f6' (hk := ?_) | refine f8' (hk := ?_) | (with_reducible intro hc) | refine u7 (hk := ?_) | refine d9 (ht := ?_) (hf := ?_))
      · refine rBx hE (hv := ?_)
        rw [hq]; simp at hc; simp [hc]
      · refine ⟨_, _, ?_, ex1 hE, at_mk ⟨rfl, rfl, rfl, inc (by omega), trivial⟩, (List.append_nil _).symm⟩
        rw [hq]; simp at hc; simp [hc]
  · rintro T' S' ⟨T0, S1, hq, hE, rfl, rfl⟩
    have hc1 : ¬ ((vars.length : Int) < ((a.map irow).length : Int)) := by simp; omega
    repeat' (first | refine c0 ?_ | refine c2 ?_ | refine c5 ?_ | refine c7 ?_ | refine d2 ?_ | refine c9 ?_ | refine d1 ?_ | refine d4 ?_ | refine a0 (hk := ?_) | refine a2 (hk := ?_) | refine u4 (hk := ?_) | refine a5 (hk := ?_) | refine d7 (hf := ?_))
    exact rBx hE (hv := by rw [hq]; simp [sameOn]; omega)
end Go.Proofs.X
end
