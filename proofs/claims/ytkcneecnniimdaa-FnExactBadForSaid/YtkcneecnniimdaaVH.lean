/- Regions that draw their order. -/
import Derived.Test.YtkcneecnniimdaaVG
namespace Go.Proofs.XVai
open Go
set_option linter.unusedVariables false
set_option linter.unusedSimpArgs false

/-! ### ancestors -/
def ancP (ops : Array Oper) (acc : Array Nat) : Prop := acc.size ≤ ops.size ∧ ∀ j i, (acc.getD j 0).testBit i = true → ∃ o, ops[j]? = some o ∧ ∃ e ∈ o.after.toList, Region.binds .any e = true ∧ (e.on = i ∨ (acc.getD e.on 0).testBit i = true)

theorem inner_anc (look : Nat → Nat) : ∀ (l : List Edge) (s i : Nat), (l.foldl (fun s e => if Region.binds .any e then s ||| 2 ^ e.on ||| look e.on else s) s).testBit i = true →
    s.testBit i = true ∨ ∃ e ∈ l, Region.binds .any e = true ∧ (e.on = i ∨ (look e.on).testBit i = true) := by
  intro l
  induction l with
  | nil => intro s i h; exact .inl h
  | cons e l ih =>
    intro s i h
    simp only [List.foldl_cons] at h
    rcases ih _ i h with h1 | ⟨e', h1, h2⟩
    · by_cases hb : Region.binds .any e = true
      · rw [if_pos hb] at h1
        simp only [Nat.testBit_or, Bool.or_eq_true] at h1
        rcases h1 with (h1 | h1) | h1
        · exact .inl h1
        · right; refine ⟨e, by simp, hb, .inl ?_⟩
          rw [Nat.testBit_two_pow] at h1; simpa using h1
        · right; exact ⟨e, by simp, hb, .inr h1⟩
      · rw [if_neg hb] at h1; exact .inl h1
    · exact .inr ⟨e', by simp [h1], h2⟩

theorem anc_list (ops : Array Oper) : ∀ (l : List Oper) (acc : Array Nat), (∀ j : Nat, l[j]? = ops[acc.size + j]?) → ancP ops acc →
    ancP ops (l.foldl (fun acc o => acc.push (o.after.foldl (fun s e => if Region.binds .any e then s ||| 2 ^ e.on ||| acc.getD e.on 0 else s) 0)) acc) := by
  intro l
  induction l with
  | nil => intro acc _ h; exact h
  | cons o l ih =>
    intro acc hl h
    simp only [List.foldl_cons]
    have h0 : ops[acc.size]? = some o := by have := hl 0; simpa using this.symm
    refine ih _ (fun j => by have := hl (j + 1); simpa [Nat.add_assoc, Nat.add_comm 1 j] using this) ⟨by have := (Array.getElem?_eq_some_iff.1 h0).1; simp; omega, fun j i hj => ?_⟩
    have hmono : ∀ (x k i : Nat), (acc.getD k 0).testBit i = true → ((acc.push x).getD k 0).testBit i = true := fun x k i hk => by
      by_cases hlt : k < acc.size
      · have : (acc.push x).getD k 0 = acc.getD k 0 := by rw [Array.getD_eq_getD_getElem?, Array.getD_eq_getD_getElem?, Array.getElem?_push, if_neg (by omega)]
        rw [this]; exact hk
      · simp [Array.getElem?_eq_none (show acc.size ≤ k by omega)] at hk
    rcases Nat.lt_trichotomy j acc.size with hlt | heq | hgt
    · have : ∀ x, (acc.push x).getD j 0 = acc.getD j 0 := fun x => by rw [Array.getD_eq_getD_getElem?, Array.getD_eq_getD_getElem?, Array.getElem?_push, if_neg (by omega)]
      rw [this] at hj
      obtain ⟨o', h1, e, h2, h3, h4⟩ := h.2 j i hj
      exact ⟨o', h1, e, h2, h3, h4.imp id (hmono _ _ _)⟩
    · subst heq
      have : ∀ x, (acc.push x).getD acc.size 0 = x := fun x => by simp
      rw [this, ← Array.foldl_toList] at hj
      rcases inner_anc (fun k => acc.getD k 0) _ _ _ hj with h1 | ⟨e, h1, h2, h3⟩
      · simp at h1
      · exact ⟨o, h0, e, h1, h2, h3.imp id (hmono _ _ _)⟩
    · have : ∀ x, (acc.push x).getD j 0 = 0 := fun x => by
        have : (acc.push x)[j]? = none := Array.getElem?_eq_none (by simp; omega)
        simp [Array.getD_eq_getD_getElem?, this]
      rw [this] at hj; simp at hj

theorem anc_step {ops : Array Oper} {i j : Nat} (h : anc ops i j = true) : ∃ o, ops[j]? = some o ∧ ∃ e ∈ o.after.toList, Region.binds .any e = true ∧ (e.on = i ∨ anc ops i e.on = true) := by
  have := anc_list ops ops.toList #[] (fun j => by simp) ⟨by simp, fun j i h => by simp at h⟩
  unfold anc Region.before at *
  rw [← Array.foldl_toList] at *
  exact this.2 j i h

/-! ### what is checked of a region that draws -/
def edgesOk (ops : Array Oper) : Bool := (List.range ops.size).all fun j => match ops[j]? with
  | some o => o.after.toList.all fun e => !Region.binds .any e || decide (e.on < j)
  | none => true
def namesOf (ops : Array Oper) (o : Oper) : List Tmp := o.looksAt ops ++ o.dst.toList
def tmpsOk (ops : Array Oper) : Bool := (List.range ops.size).all fun i => match (ops[i]?).bind (·.dst) with
  | some d => (List.range ops.size).all fun j => i == j || match ops[j]? with
    | some o => !(namesOf ops o).contains d || anc ops i j || anc ops j i
    | none => true
  | none => true
def effOk (ops : Array Oper) : Bool := (List.range ops.size).all fun j => match ops[j]? with
  | some o => !isE o || (List.range j).all fun i => match ops[i]? with
    | some o' => !isE o' || anc ops i j
    | none => true
  | none => true
def drawOk (ops : Array Oper) : Bool := edgesOk ops && tmpsOk ops && effOk ops

section
variable {ops : Array Oper}

theorem edgesOk.spec (h : edgesOk ops = true) {j : Nat} {o : Oper} (ho : ops[j]? = some o) {e : Edge} (he : e ∈ o.after.toList) (hb : Region.binds .any e = true) : e.on < j := by
  have := List.all_eq_true.1 h j (by simpa using (Array.getElem?_eq_some_iff.1 ho).1)
  simp only [ho] at this
  have := List.all_eq_true.1 this e he
  simpa [hb] using this
theorem anc_lt (h : edgesOk ops = true) {i : Nat} : ∀ (j : Nat), anc ops i j = true → i < j := by
  intro j
  induction j using Nat.strongRecOn with
  | _ j ih =>
    intro ha
    obtain ⟨o, ho, e, he, hb, h1⟩ := anc_step ha
    have hlt := edgesOk.spec h ho he hb
    rcases h1 with h1 | h1
    · omega
    · have := ih _ hlt h1; omega
theorem tmpsOk.spec (h : tmpsOk ops = true) {i j d : Nat} {o : Oper} (hi : (ops[i]?).bind (·.dst) = some d) (hj : ops[j]? = some o) (hne : i ≠ j) (hd : d ∈ namesOf ops o) : anc ops i j = true ∨ anc ops j i = true := by
  have hlt : i < ops.size := by
    cases hq : ops[i]? with
    | none => simp [hq] at hi
    | some x => exact (Array.getElem?_eq_some_iff.1 hq).1
  have := List.all_eq_true.1 h i (by simpa using hlt)
  simp only [hi] at this
  have := List.all_eq_true.1 this j (by simpa using (Array.getElem?_eq_some_iff.1 hj).1)
  simp only [hj, Bool.or_eq_true, beq_iff_eq] at this
  rcases this with h1 | (h1 | h1) | h1
  · exact absurd h1 hne
  · simp only [Bool.not_eq_true', List.contains_eq_mem, decide_eq_false_iff_not] at h1; exact absurd hd h1
  · exact .inl h1
  · exact .inr h1
theorem effOk.spec (h : effOk ops = true) {i j : Nat} {o o' : Oper} (hj : ops[j]? = some o) (hi : ops[i]? = some o') (hlt : i < j) (h1 : isE o = true) (h2 : isE o' = true) : anc ops i j = true := by
  have := List.all_eq_true.1 h j (by simpa using (Array.getElem?_eq_some_iff.1 hj).1)
  simp only [hj, h1, Bool.not_true, Bool.false_or] at this
  have := List.all_eq_true.1 this i (by simpa using hlt)
  simpa [hi, h2] using this

/-! ### the run in the order of the text -/
noncomputable def lgOf (ops : Array Oper) (Ts : Nat → Tm) (Ss : Nat → St) (i : Nat) (o : Oper) : Log := ⟨i, if isE o then [] else reads o (Ts i), if isE o then some (Ss i, Ss (i + 1)) else none⟩

structure TStep (Y : Sys) (fid : Nat) (call : Nat → List HV → St → Option (HV × St)) (ops : Array Oper) (base : Nat) (Ts : Nat → Tm) (Ss : Nat → St) (vs : Nat → HV) (i : Nat) (o : Oper) : Prop where
  tm : Ts (i + 1) = put (Ts i) o.dst (vs i)
  yes : wantedC ops o (Ts i) = true → cop Y fid call (some (base + i)) o (Ts i) (Ss i) = some (vs i, Ss (i + 1)) ∧ quietOp o (Ts i) (base + i) (Ss i) (Ss (i + 1))
  no : wantedC ops o (Ts i) = false → vs i = .tup [] ∧ Ss (i + 1) = Ss i

theorem copsD_trace {Y : Sys} {fid : Nat} {call : Nat → List HV → St → Option (HV × St)} {base : Nat} : ∀ (rest : List Oper) (i : Nat) (L : List Log) (T : Tm) (S : St) (T' : Tm) (S' : St), copsD Y fid call ops base i rest L T S = some (T', S') →
    ∃ Ts Ss vs, Ts i = T ∧ Ss i = S ∧ Ts (i + rest.length) = T' ∧ Ss (i + rest.length) = S' ∧
      (∀ j o, rest[j]? = some o → TStep Y fid call ops base Ts Ss vs (i + j) o) ∧
      (∀ j o, rest[j]? = some o → wantedC ops o (Ts (i + j)) = true → ∀ x ∈ L, apartL ops x (lgOf ops Ts Ss (i + j) o)) ∧
      (∀ j j' o o', j < j' → rest[j]? = some o → rest[j']? = some o' → wantedC ops o (Ts (i + j)) = true → wantedC ops o' (Ts (i + j')) = true → apartL ops (lgOf ops Ts Ss (i + j) o) (lgOf ops Ts Ss (i + j') o')) := by
  intro rest
  induction rest with
  | nil =>
    intro i L T S T' S' h
    simp only [copsD, Option.some.injEq, Prod.mk.injEq] at h
    exact ⟨fun _ => T, fun _ => S, fun _ => .tup [], rfl, rfl, h.1, h.2, by simp, by simp, by simp⟩
  | cons o rest ih =>
    intro i L T S T' S' h
    have main : ∀ (v : HV) (S1 : St) (L1 : List Log), copsD Y fid call ops base (i + 1) rest L1 (put T o.dst v) S1 = some (T', S') → (∀ x ∈ L, x ∈ L1) →
        (wantedC ops o T = true → cop Y fid call (some (base + i)) o T S = some (v, S1) ∧ quietOp o T (base + i) S S1 ∧ (∀ x ∈ L, apartL ops x ⟨i, if isE o then [] else reads o T, if isE o then some (S, S1) else none⟩) ∧
          (⟨i, if isE o then [] else reads o T, if isE o then some (S, S1) else none⟩ : Log) ∈ L1) →
        (wantedC ops o T = false → v = .tup [] ∧ S1 = S) →
        ∃ Ts Ss vs, Ts i = T ∧ Ss i = S ∧ Ts (i + (o :: rest).length) = T' ∧ Ss (i + (o :: rest).length) = S' ∧
      (∀ j o_1, (o :: rest)[j]? = some o_1 → TStep Y fid call ops base Ts Ss vs (i + j) o_1) ∧
      (∀ j o_1, (o :: rest)[j]? = some o_1 → wantedC ops o_1 (Ts (i + j)) = true → ∀ x ∈ L, apartL ops x (lgOf ops Ts Ss (i + j) o_1)) ∧
      (∀ j j' o_1 o', j < j' → (o :: rest)[j]? = some o_1 → (o :: rest)[j']? = some o' → wantedC ops o_1 (Ts (i + j)) = true → wantedC ops o' (Ts (i + j')) = true → apartL ops (lgOf ops Ts Ss (i + j) o_1) (lgOf ops Ts Ss (i + j') o')) := by
      intro v S1 L1 h1 hL hyes hno
      obtain ⟨Ts, Ss, vs, a1, a2, a3, a4, a5, a6, a7⟩ := ih (i + 1) L1 _ _ T' S' h1
      refine ⟨fun k => if k = i then T else Ts k, fun k => if k = i then S else Ss k, fun k => if k = i then v else vs k, by simp, by simp, ?_, ?_, ?_, ?_, ?_⟩
      · simp only [List.length_cons, show ¬ i + (rest.length + 1) = i by omega, if_false]
        rw [← a3]; congr 1; omega
      · simp only [List.length_cons, show ¬ i + (rest.length + 1) = i by omega, if_false]
        rw [← a4]; congr 1; omega
      · intro j o' hj
        cases j with
        | zero =>
          simp only [List.getElem?_cons_zero, Option.some.injEq] at hj
          subst hj
          refine ⟨by simp [a1], fun hw => ?_, fun hw => ?_⟩
          · simp only [Nat.add_zero, if_true] at hw
            obtain ⟨b1, b2, _⟩ := hyes hw
            simp [a2]; exact ⟨b1, b2⟩
          · simp only [Nat.add_zero, if_true] at hw
            simp [a2]; exact hno hw
        | succ j =>
          have := a5 j o' (by simpa using hj)
          have e1 : i + (j + 1) = i + 1 + j := by omega
          rw [e1]
          refine ⟨?_, fun hw => ?_, fun hw => ?_⟩
          · rw [if_neg (show ¬ i + 1 + j + 1 = i by omega), if_neg (show ¬ i + 1 + j = i by omega), if_neg (show ¬ i + 1 + j = i by omega)]; exact this.tm
          · simp only [show ¬ i + 1 + j = i by omega, show ¬ i + 1 + j + 1 = i by omega, if_false] at hw ⊢
            exact this.yes hw
          · simp only [show ¬ i + 1 + j = i by omega, show ¬ i + 1 + j + 1 = i by omega, if_false] at hw ⊢
            exact this.no hw
      · intro j o' hj hw x hx
        cases j with
        | zero =>
          simp only [List.getElem?_cons_zero, Option.some.injEq] at hj
          subst hj
          simp only [Nat.add_zero, if_true] at hw
          have := (hyes hw).2.2.1 x hx
          simpa [lgOf, a2] using this
        | succ j =>
          have e1 : i + (j + 1) = i + 1 + j := by omega
          rw [e1] at hw ⊢
          simp only [show ¬ i + 1 + j = i by omega, if_false] at hw
          have := a6 j o' (by simpa using hj) hw x (hL x hx)
          simpa only [lgOf, show ¬ i + 1 + j = i by omega, show ¬ i + 1 + j + 1 = i by omega, if_false] using this
      · intro j j' o1 o' hlt hj hj' hw hw'
        cases j' with
        | zero => omega
        | succ j' =>
          have e1 : i + (j' + 1) = i + 1 + j' := by omega
          rw [e1] at hw' ⊢
          simp only [show ¬ i + 1 + j' = i by omega, if_false] at hw'
          cases j with
          | zero =>
            simp only [List.getElem?_cons_zero, Option.some.injEq] at hj
            subst hj
            simp only [Nat.add_zero, if_true] at hw
            have := a6 j' o' (by simpa using hj') hw' _ (hyes hw).2.2.2
            simpa [lgOf, a2, show ¬ i + 1 + j' = i by omega, show ¬ i + 1 + j' + 1 = i by omega] using this
          | succ j =>
            have e2 : i + (j + 1) = i + 1 + j := by omega
            rw [e2] at hw ⊢
            simp only [show ¬ i + 1 + j = i by omega, if_false] at hw
            have := a7 j j' o1 o' (by omega) (by simpa using hj) (by simpa using hj') hw hw'
            simpa only [lgOf, show ¬ i + 1 + j = i by omega, show ¬ i + 1 + j + 1 = i by omega, show ¬ i + 1 + j' = i by omega, show ¬ i + 1 + j' + 1 = i by omega, if_false] using this
    simp only [copsD] at h
    split at h
    · rename_i hw
      split at h
      · rename_i v S1 hc
        by_cases hq : quietOp o T (base + i) S S1 ∧ ∀ x ∈ L, apartL ops x ⟨i, if isE o then [] else reads o T, if isE o then some (S, S1) else none⟩
        · rw [if_pos hq] at h
          exact main v S1 _ h (fun x hx => by simp [hx]) (fun _ => ⟨hc, hq.1, hq.2, by simp⟩) (fun hf => by rw [hf] at hw; cases hw)
        · rw [if_neg hq] at h; cases h
      · cases h
    · rename_i hw
      exact main (.tup []) S L h (fun x hx => hx) (fun hf => absurd hf hw) (fun _ => ⟨rfl, rfl⟩)

end
end Go.Proofs.XVai
