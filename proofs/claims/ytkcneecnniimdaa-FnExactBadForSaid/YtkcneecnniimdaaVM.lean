/- Runs without a number of rounds: what a run ends with, by rules. -/
import Derived.Test.YtkcneecnniimdaaVL
namespace Go.Proofs.XVai
open Go
set_option linter.unusedVariables false
set_option linter.unusedSimpArgs false

abbrev CallF := Nat → List HV → St → Option (HV × St)
def CallLe (c c' : CallF) : Prop := ∀ g a S r, c g a S = some r → c' g a S = some r

section
variable {Y : Sys} {fid : Nat} {call call' : CallF}

theorem cop_mono (hc : CallLe call call') {pl : Option Nat} {o : Oper} {T : Tm} {S : St} {r : HV × St} (h : cop Y fid call pl o T S = some r) : cop Y fid call' pl o T S = some r := by
  obtain ⟨dst, op, ty, pos, after, guard⟩ := o
  cases op with
  | call c =>
    obtain ⟨callee, args, ats⟩ := c
    cases callee with
    | value f =>
      simp only [cop] at h ⊢
      split at h
      · split at h
        · rename_i hb; rw [if_pos hb]; exact hc _ _ _ _ h
        · rename_i hb
          rw [if_neg hb]
          split at h
          · exact hc _ _ _ _ h
          · cases h
      · cases h
    | builtin b => cases b <;> (simp only [cop] at h ⊢; exact h)
    | invoke a b => simp only [cop] at h; cases h
  | makeMap t r => cases r <;> (simp only [cop] at h ⊢; exact h)
  | slice t x lo hi mx => cases mx <;> (simp only [cop] at h ⊢; exact h)
  | _ => simp only [cop] at h ⊢; exact h

theorem cops_mono (hc : CallLe call call') {ops : Array Oper} : ∀ (l : List Oper) (T : Tm) (S : St) (r : Tm × St), cops Y fid call ops l T S = some r → cops Y fid call' ops l T S = some r := by
  intro l
  induction l with
  | nil => intro T S r h; exact h
  | cons o l ih =>
    intro T S r h
    simp only [cops] at h ⊢
    split at h
    · rename_i hw
      rw [if_pos hw]
      split at h
      · rename_i hco
        rw [cop_mono hc hco]; exact ih _ _ _ h
      · cases h
    · rename_i hw
      rw [if_neg hw]; exact ih _ _ _ h

theorem copsD_mono (hc : CallLe call call') {ops : Array Oper} {base : Nat} : ∀ (l : List Oper) (i : Nat) (L : List Log) (T : Tm) (S : St) (r : Tm × St), copsD Y fid call ops base i l L T S = some r → copsD Y fid call' ops base i l L T S = some r := by
  intro l
  induction l with
  | nil => intro i L T S r h; exact h
  | cons o l ih =>
    intro i L T S r h
    simp only [copsD] at h ⊢
    split at h
    · rename_i hw
      rw [if_pos hw]
      split at h
      · rename_i v S' hco
        rw [cop_mono hc hco]
        by_cases hq : quietOp o T (base + i) S S' ∧ ∀ x ∈ L, apartL ops x ⟨i, if isE o then [] else reads o T, if isE o then some (S, S') else none⟩
        · simp only at h ⊢
          rw [if_pos hq] at h ⊢; exact ih _ _ _ _ _ h
        · rw [if_neg hq] at h; cases h
      · cases h
    · rename_i hw
      rw [if_neg hw]; exact ih _ _ _ _ _ h

theorem iter_mono {f f' : Tm → St → Res} (hf : ∀ T S r, f T S = some r → f' T S = some r) : ∀ (m m' : Nat) (T : Tm) (S : St) (r : Ex × Tm × St), m ≤ m' → iter m f T S = some r → iter m' f' T S = some r := by
  intro m
  induction m with
  | zero => intro m' T S r _ h; simp [iter] at h
  | succ m ih =>
    intro m' T S r hm h
    obtain ⟨n, rfl⟩ : ∃ n, m' = n + 1 := ⟨m' - 1, by omega⟩
    simp only [iter] at h ⊢
    split at h
    · rename_i T' S' hb
      rw [hf _ _ _ hb]; exact ih n _ _ _ (by omega) h
    · rename_i hne
      rw [hf _ _ _ h]
      obtain ⟨ex, T', S'⟩ := r
      cases ex with
      | norm => exact absurd h (hne _ _)
      | _ => rfl

theorem crun_mono (hc : CallLe call call') {m m' : Nat} (hm : m ≤ m') : ∀ (c : Code) (T : Tm) (S : St) (r : Ex × Tm × St), crun Y fid call m c T S = some r → crun Y fid call' m' c T S = some r := by
  intro c
  induction c with
  | region id ops draw =>
    intro T S r h
    cases draw with
    | false =>
      simp only [crun] at h ⊢
      split at h
      · rename_i hco; rw [cops_mono hc _ _ _ _ hco]; exact h
      · cases h
    | true =>
      simp only [crun] at h ⊢
      split at h
      · rename_i hco; rw [copsD_mono hc _ _ _ _ _ _ hco]; exact h
      · cases h
  | seq x y ihx ihy =>
    intro T S r h
    simp only [crun] at h ⊢
    split at h
    · rename_i hx; rw [ihx _ _ _ hx]; exact ihy _ _ _ h
    · rename_i hne
      rw [ihx _ _ _ h]
      obtain ⟨ex, T', S'⟩ := r
      cases ex with
      | norm => exact absurd h (hne _ _)
      | _ => rfl
  | cond c x y ihx ihy =>
    intro T S r h
    simp only [crun] at h ⊢
    split at h
    · exact ihx _ _ _ h
    · exact ihy _ _ _ h
    · cases h
  | block id b ih =>
    intro T S r h
    simp only [crun] at h ⊢
    split at h
    · rename_i hb; rw [ih _ _ _ hb]; exact h
    · rename_i hne
      rw [ih _ _ _ h]
      obtain ⟨ex, T', S'⟩ := r
      cases ex with
      | exit j => exact absurd h (hne _ _ _)
      | _ => rfl
  | loop b ih =>
    intro T S r h
    simp only [crun] at h ⊢
    exact iter_mono (fun T S r h => ih T S r h) m m' T S r hm h
  | skip => intro T S r h; simp only [crun] at h ⊢; exact h
  | exit id => intro T S r h; simp only [crun] at h ⊢; exact h
  | ret => intro T S r h; simp only [crun] at h ⊢; exact h
  | _ => intro T S r h; simp [crun] at h

theorem ccall_step : ∀ m, CallLe (ccall Y m) (ccall Y (m + 1)) := by
  intro m
  induction m with
  | zero => intro g a S r h; simp [ccall] at h
  | succ m ih =>
    intro g a S r h
    unfold ccall at h ⊢
    split at h
    · rename_i fn hfn
      split at h
      · rename_i c hb
        split at h
        · rename_i hl
          simp only [hl, if_true]
          generalize hq : crun Y g (ccall Y m) m c (tm0 a) S = q at h
          cases q with
          | none => simp [cret] at h
          | some q => rw [crun_mono ih (Nat.le_succ m) _ _ _ _ hq]; exact h
        · cases h
      · cases h
    · cases h
theorem ccall_mono {m m' : Nat} (h : m ≤ m') : CallLe (ccall Y m) (ccall Y m') := by
  induction h with
  | refl => exact fun _ _ _ _ h => h
  | step _ ih => exact fun g a S r h => ccall_step _ _ _ _ _ (ih g a S r h)
end

def Ev (Y : Sys) (f : Nat) (args : List HV) (S : St) (v : HV) (S' : St) : Prop := ∃ m, ccall Y m f args S = some (v, S')
def W (Y : Sys) (fid : Nat) (c : Code) (T : Tm) (S : St) (Q : Ex → Tm → St → Prop) : Prop := ∃ m ex T' S', crun Y fid (ccall Y m) m c T S = some (ex, T', S') ∧ Q ex T' S'
def WO (Y : Sys) (fid : Nat) (ops : Array Oper) (l : List Oper) (T : Tm) (S : St) (K : Tm → St → Prop) : Prop := ∃ m T' S', cops Y fid (ccall Y m) ops l T S = some (T', S') ∧ K T' S'

def Then (K : Tm → St → Prop) (Q : Ex → Tm → St → Prop) : Ex → Tm → St → Prop
  | .norm, T, S => K T S
  | e, T, S => Q e T S
def InB (id : Nat) (Q : Ex → Tm → St → Prop) : Ex → Tm → St → Prop
  | .exit j, T, S => if j = id then Q .norm T S else Q (.exit j) T S
  | e, T, S => Q e T S

section
variable {Y : Sys} {fid : Nat} {T : Tm} {S : St} {Q : Ex → Tm → St → Prop} {K : Tm → St → Prop}

theorem Then_norm (h : K T S) : Then K Q .norm T S := h
theorem Then_exit {i : Nat} (h : Q (.exit i) T S) : Then K Q (.exit i) T S := h
theorem Then_ret (h : Q .ret T S) : Then K Q .ret T S := h
theorem InB_norm {id : Nat} (h : Q .norm T S) : InB id Q .norm T S := h
theorem InB_ret {id : Nat} (h : Q .ret T S) : InB id Q .ret T S := h
theorem InB_exit {id : Nat} (h : Q .norm T S) : InB id Q (.exit id) T S := by simp only [InB, if_true]; exact h
theorem InB_other {id j : Nat} (hj : (j == id) = false) (h : Q (.exit j) T S) : InB id Q (.exit j) T S := by
  have : j ≠ id := by simpa using hj
  simp only [InB, this, if_false]; exact h

theorem W.mono {c : Code} {Q' : Ex → Tm → St → Prop} (h : W Y fid c T S Q) (hq : ∀ ex T' S', Q ex T' S' → Q' ex T' S') : W Y fid c T S Q' := by
  obtain ⟨m, ex, T', S', h1, h2⟩ := h
  exact ⟨m, ex, T', S', h1, hq _ _ _ h2⟩
theorem W_skip (h : Q .norm T S) : W Y fid .skip T S Q := ⟨0, _, _, _, rfl, h⟩
theorem W_exit {id : Nat} (h : Q (.exit id) T S) : W Y fid (.exit id) T S Q := ⟨0, _, _, _, rfl, h⟩
theorem W_ret (h : Q .ret T S) : W Y fid .ret T S Q := ⟨0, _, _, _, rfl, h⟩

theorem W_seq {a b : Code} (h : W Y fid a T S (Then (fun T' S' => W Y fid b T' S' Q) Q)) : W Y fid (.seq a b) T S Q := by
  obtain ⟨m, ex, T', S', h1, h2⟩ := h
  cases ex with
  | norm =>
    obtain ⟨m2, ex2, T2, S2, h3, h4⟩ := h2
    refine ⟨max m m2, ex2, T2, S2, ?_, h4⟩
    simp only [crun]
    rw [crun_mono (ccall_mono (Nat.le_max_left m m2)) (Nat.le_max_left m m2) _ _ _ _ h1]
    exact crun_mono (ccall_mono (Nat.le_max_right m m2)) (Nat.le_max_right m m2) _ _ _ _ h3
  | exit id => exact ⟨m, _, _, _, by simp only [crun]; rw [h1], h2⟩
  | ret => exact ⟨m, _, _, _, by simp only [crun]; rw [h1], h2⟩

theorem W_cond {c : Operand} {a b : Code} {p : Bool} (h : ev T c = .bool p) (ht : p = true → W Y fid a T S Q) (hf : p = false → W Y fid b T S Q) : W Y fid (.cond c a b) T S Q := by
  cases p with
  | true =>
    obtain ⟨m, ex, T', S', h1, h2⟩ := ht rfl
    exact ⟨m, ex, T', S', by simp only [crun, h]; exact h1, h2⟩
  | false =>
    obtain ⟨m, ex, T', S', h1, h2⟩ := hf rfl
    exact ⟨m, ex, T', S', by simp only [crun, h]; exact h1, h2⟩
theorem W_condP {c : Operand} {a b : Code} {p : Prop} {_i : Decidable p} (h : ev T c = .bool (decide p)) (ht : p → W Y fid a T S Q) (hf : ¬ p → W Y fid b T S Q) : W Y fid (.cond c a b) T S Q :=
  W_cond h (fun h => ht (of_decide_eq_true h)) (fun h => hf (of_decide_eq_false h))

theorem W_block {id : Nat} {b : Code} (h : W Y fid b T S (InB id Q)) : W Y fid (.block id b) T S Q := by
  obtain ⟨m, ex, T', S', h1, h2⟩ := h
  cases ex with
  | exit j =>
    simp only [InB] at h2
    by_cases hj : j = id
    · rw [if_pos hj] at h2
      exact ⟨m, .norm, T', S', by simp only [crun, h1, hj, if_true], h2⟩
    · rw [if_neg hj] at h2
      exact ⟨m, .exit j, T', S', by simp only [crun, h1, hj, if_false], h2⟩
  | norm => exact ⟨m, _, _, _, by simp only [crun, h1], h2⟩
  | ret => exact ⟨m, _, _, _, by simp only [crun, h1], h2⟩

/-- A loop, by what holds at its head with a number that falls. -/
theorem W_loop {b : Code} (I : Nat → Tm → St → Prop) (n : Nat) (h0 : I n T S) (hb : ∀ n T S, I n T S → W Y fid b T S (Then (fun T' S' => ∃ i, i < n ∧ I i T' S') Q)) : W Y fid (.loop b) T S Q := by
  have key : ∀ n T S, I n T S → ∃ m ex T' S', (∀ m', m ≤ m' → iter m' (crun Y fid (ccall Y m') m' b) T S = some (ex, T', S')) ∧ Q ex T' S' := by
    intro n
    induction n using Nat.strongRecOn with
    | _ n ih =>
      intro T S hI
      obtain ⟨m, ex, T', S', h1, h2⟩ := hb n T S hI
      cases ex with
      | norm =>
        obtain ⟨i, hi, hI'⟩ := h2
        obtain ⟨m2, ex2, T2, S2, h3, h4⟩ := ih i hi T' S' hI'
        refine ⟨max m m2 + 1, ex2, T2, S2, fun m' hm' => ?_, h4⟩
        obtain ⟨j, rfl⟩ : ∃ j, m' = j + 1 := ⟨m' - 1, by omega⟩
        simp only [iter]
        rw [crun_mono (ccall_mono (show m ≤ j + 1 by omega)) (show m ≤ j + 1 by omega) _ _ _ _ h1]
        have := h3 j (by omega)
        exact iter_mono (fun T S r h => crun_mono (ccall_mono (Nat.le_succ j)) (Nat.le_succ j) _ _ _ _ h) j j _ _ _ (Nat.le_refl _) this
      | exit id =>
        refine ⟨m + 1, _, T', S', fun m' hm' => ?_, h2⟩
        obtain ⟨j, rfl⟩ : ∃ j, m' = j + 1 := ⟨m' - 1, by omega⟩
        simp only [iter]
        rw [crun_mono (ccall_mono (show m ≤ j + 1 by omega)) (show m ≤ j + 1 by omega) _ _ _ _ h1]
      | ret =>
        refine ⟨m + 1, _, T', S', fun m' hm' => ?_, h2⟩
        obtain ⟨j, rfl⟩ : ∃ j, m' = j + 1 := ⟨m' - 1, by omega⟩
        simp only [iter]
        rw [crun_mono (ccall_mono (show m ≤ j + 1 by omega)) (show m ≤ j + 1 by omega) _ _ _ _ h1]
  obtain ⟨m, ex, T', S', h1, h2⟩ := key n T S h0
  exact ⟨m, ex, T', S', by simp only [crun]; exact h1 m (Nat.le_refl _), h2⟩

theorem W_region {id : Nat} {ops : Array Oper} (h : WO Y fid ops ops.toList T S (Q .norm)) : W Y fid (.region id ops false) T S Q := by
  obtain ⟨m, T', S', h1, h2⟩ := h
  exact ⟨m, _, T', S', by simp only [crun, h1], h2⟩

theorem WO_nil {ops : Array Oper} (h : K T S) : WO Y fid ops [] T S K := ⟨0, T, S, rfl, h⟩

def noCall : CallF := fun _ _ _ => none
theorem noCall_le (c : CallF) : CallLe noCall c := fun _ _ _ _ h => by cases h

theorem WO_run {ops : Array Oper} {o : Oper} {l : List Oper} {v : HV} {S' : St} (hw : wantedC ops o T = true) (h : ∃ m, cop Y fid (ccall Y m) none o T S = some (v, S')) (hk : WO Y fid ops l (put T o.dst v) S' K) : WO Y fid ops (o :: l) T S K := by
  obtain ⟨m, h1⟩ := h
  obtain ⟨m2, T2, S2, h2, h3⟩ := hk
  refine ⟨max m m2, T2, S2, ?_, h3⟩
  simp only [cops, hw, if_true]
  rw [cop_mono (ccall_mono (Nat.le_max_left m m2)) h1]
  exact cops_mono (ccall_mono (Nat.le_max_right m m2)) _ _ _ _ h2
theorem WO_skip {ops : Array Oper} {o : Oper} {l : List Oper} (hw : wantedC ops o T = false) (hk : WO Y fid ops l (put T o.dst (.tup [])) S K) : WO Y fid ops (o :: l) T S K := by
  obtain ⟨m2, T2, S2, h2, h3⟩ := hk
  exact ⟨m2, T2, S2, by simp only [cops, hw, Bool.false_eq_true, if_false]; exact h2, h3⟩

/-- An operation that calls nothing. -/
theorem WO_op {ops : Array Oper} {l : List Oper} {v : HV} {S' : St} {dst : Option Tmp} {op : Op} {ty : TypeId} {pos : String} {after : Array Edge}
    (h : cop Y fid noCall none ⟨dst, op, ty, pos, after, none⟩ T S = some (v, S')) (hk : WO Y fid ops l (put T dst v) S' K) : WO Y fid ops (⟨dst, op, ty, pos, after, none⟩ :: l) T S K :=
  WO_run rfl ⟨0, cop_mono (noCall_le _) h⟩ hk

/-- A call. -/
theorem WO_call {ops : Array Oper} {l : List Oper} {v : HV} {S1 S' : St} {dst : Option Tmp} {f : Operand} {args : Array Operand} {ats : Array TypeId} {ty : TypeId} {pos : String} {after : Array Edge} {g : Nat} {caps args' : List HV}
    (hf : ev T f = .fn g caps) (hb : Y.byref g = false) (ha : mapMS (frzV 0) (args.toList.map (ev T)) S = some (args', S1)) (he : Ev Y g (args' ++ caps) S1 v S') (hk : WO Y fid ops l (put T dst v) S' K) :
    WO Y fid ops (⟨dst, .call ⟨.value f, args, ats⟩, ty, pos, after, none⟩ :: l) T S K := by
  obtain ⟨m, hm⟩ := he
  exact WO_run rfl ⟨m, by simp only [cop, hf, hb, Bool.false_eq_true, if_false, ha, hm]⟩ hk
theorem WO_callR {ops : Array Oper} {l : List Oper} {v : HV} {S' : St} {dst : Option Tmp} {f : Operand} {args : Array Operand} {ats : Array TypeId} {ty : TypeId} {pos : String} {after : Array Edge} {g : Nat} {caps : List HV}
    (hf : ev T f = .fn g caps) (hb : Y.byref g = true) (he : Ev Y g (args.toList.map (ev T) ++ caps) S v S') (hk : WO Y fid ops l (put T dst v) S' K) :
    WO Y fid ops (⟨dst, .call ⟨.value f, args, ats⟩, ty, pos, after, none⟩ :: l) T S K := by
  obtain ⟨m, hm⟩ := he
  exact WO_run rfl ⟨m, by simp only [cop, hf, hb, if_true, hm]⟩ hk

/-- A function. -/
theorem Ev_intro {f : Nat} {fn : Func} {c : Code} {args : List HV} {v : HV} {S' : St} (hf : Y.fn f = some fn) (hb : fn.body = some c) (hl : args.length ≤ fn.ntmps)
    (h : W Y f c (tm0 args) S (fun ex T' S1 => cret Y f fn S (some (ex, T', S1)) = some (v, S'))) : Ev Y f args S v S' := by
  obtain ⟨m, ex, T', S1, h1, h2⟩ := h
  exact ⟨m + 1, by simp only [ccall, hf, hb, hl, if_true, h1]; exact h2⟩
open Classical in
/-- A result that is handed on as it is. -/
theorem ret_plain {f : Nat} {fn : Func} {T' : Tm} {S : St} {vs : List HV} {ex : Ex} (hx : ∀ id, ex ≠ .exit id) (hr : resVs Y T' S fn.results.toList = some vs) (hz : Y.keep f = false → frzR S.length (resTup vs) S = some (resTup vs, S) ∧ idR S.length (resTup vs) = true) :
    cret Y f fn S (some (ex, T', S)) = some (resTup vs, S) := by
  have main : (match resVs Y T' S fn.results.toList with
    | some vs => if Y.keep f = true then some (resTup vs, S) else match frzR S.length (resTup vs) S with
      | some (v, S2) => if idR S.length v = true ∧ oldOk S.length S S2 then some (v, S2.take S.length) else none
      | none => none
    | none => none) = some (resTup vs, S) := by
    rw [hr]
    simp only
    cases hk : Y.keep f with
    | true => simp
    | false =>
      obtain ⟨h1, h2⟩ := hz hk
      have : oldOk S.length S S := ⟨Nat.le_refl _, fun k _ => .inl rfl⟩
      simp [h1, h2, this]
  cases ex with
  | exit id => exact absurd rfl (hx id)
  | norm => simp only [cret]; exact main
  | ret => simp only [cret]; exact main

end
end Go.Proofs.XVai
