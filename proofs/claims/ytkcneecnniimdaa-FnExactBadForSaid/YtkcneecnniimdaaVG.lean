/- Regions in the order of their text. -/
import Derived.Test.YtkcneecnniimdaaVF
import Derived.Tactics
namespace Go.Proofs.XVai
open Go
set_option linter.unusedVariables false
set_option linter.unusedSimpArgs false

def opndOk : Operand → Bool
  | .const v => okVal v
  | _ => true
def operOk (n : Nat) (o : Oper) : Bool := o.op.operands.toList.all opndOk && (match o.dst with | some d => d < n | none => true)

/-- The temporaries. -/
def TRel (E : Env) (T : Tm) (a : Act) : Prop := ∀ t, VRel E (T t) (a.tmps.getD t undef)

theorem undef_rel (E : Env) : VRel E (.tup []) undef := .tup [] #[] rfl (by simp)

theorem TRel.mono {E E' : Env} {T : Tm} {a : Act} (h : TRel E T a) (hE : E.le E') : TRel E' T a := fun t => (h t).mono hE

theorem put_size (a : Act) (d : Option Tmp) (v : Value) : (a.put d v).tmps.size = a.tmps.size := by
  cases d <;> simp [Act.put]
theorem put_defers (a : Act) (d : Option Tmp) (v : Value) : (a.put d v).defers = a.defers := by
  cases d <;> simp [Act.put]
theorem put_getD (a : Act) (d t : Nat) (v : Value) (hd : d < a.tmps.size) : (a.put (some d) v).tmps.getD t undef = if t = d then v else a.tmps.getD t undef := by
  simp only [Act.put]
  by_cases h : t = d
  · subst h; simp [hd]
  · have : d ≠ t := Ne.symm h
    simp [Array.getElem?_setIfInBounds_ne this, h]

theorem TRel.put {E : Env} {T : Tm} {a : Act} {d : Option Nat} {hv : HV} {v : Value} (h : TRel E T a) (hd : ∀ t, d = some t → t < a.tmps.size) (hv' : VRel E hv v) : TRel E (put T d hv) (a.put d v) := by
  intro t
  cases d with
  | none => exact h t
  | some d =>
    rw [put_getD a d t v (hd d rfl)]
    simp only [Go.Proofs.XVai.put, upd]
    split
    · exact hv'
    · exact h t

theorem opnd_rel {E : Env} {T : Tm} {a : Act} {x : Operand} (h : ∀ t, x = .tmp t → VRel E (T t) (a.tmps.getD t undef)) (hx : opndOk x = true) : VRel E (ev T x) (a.eval x) := by
  cases x with
  | tmp t => exact h t rfl
  | const v => exact okVal_rel hx
  | global g => exact .gp g
  | func f => exact .fn f [] #[] rfl (by simp)

theorem wanted_eq {E : Env} {T : Tm} {a : Act} {ops : Array Oper} {o : Oper}
    (h : ∀ (g : Nat) (want : Bool) (d : Nat), o.guard = some (g, want) → (ops[g]?).bind (·.dst) = some d → VRel E (T d) (a.tmps.getD d undef)) :
    Region.wanted o (yielded ops a.tmps) = wantedC ops o T := by
  unfold Region.wanted wantedC
  cases hg : o.guard with
  | none => rfl
  | some gw =>
    obtain ⟨g, want⟩ := gw
    simp only
    unfold yielded
    cases hd : (ops[g]?).bind (·.dst) with
    | none => rfl
    | some d =>
      have hr := h g want d hg hd
      simp only [Option.bind_some]
      have hget : ∀ b, a.tmps[d]? = some (.bool b) ↔ a.tmps.getD d undef = .bool b := by
        intro b
        rw [Array.getD_eq_getD_getElem?]
        cases hq : a.tmps[d]? with
        | none => simp [undef]
        | some x => simp
      generalize hv : a.tmps.getD d undef = v at hr
      cases hT : T d with
      | bool b =>
        rw [hT] at hr
        cases hr
        rw [(hget b).2 hv]
        cases b <;> cases want <;> rfl
      | _ =>
        rw [hT] at hr
        have hno : ∀ b, v ≠ .bool b := fun b e => by subst e; cases hr
        have hne : ∀ b, a.tmps[d]? ≠ some (.bool b) := fun b e => hno b (by rw [← hv]; exact (hget b).1 e)
        cases hq : a.tmps[d]? with
        | none => rfl
        | some x => cases x <;> first | rfl | (exact absurd hq (hne _))

/-- Where a canonical state and a machine's meet. -/
structure Good (Y : Sys) (E : Env) (C : Nat → Option Ob) (w : World) (n : Nat) (T : Tm) (S : St) (a : Act) : Prop where
  rel : Rel Y E C w
  tr : TRel E T a
  ag : ∀ k, AgreeAt C S k
  be : ∀ k, S.length ≤ k → C k = none
  sz : a.tmps.size = n
  df : a.defers = []

def Ex.out : Ex → Exit
  | .norm => .normal
  | .exit id => .exit id
  | .ret => .ret

def After (Y : Sys) (E : Env) (C : Nat → Option Ob) (w : World) (n : Nat) (S : St) (ex : Ex) (T' : Tm) (S' : St) (e : Exit) (a' : Act) (w' : World) : Prop :=
  e = ex.out ∧ Grow none S S' ∧ ∃ E' C', Good Y E' C' w' n T' S' a' ∧ Upd C S C' S' none ∧ Go1 E w E' w'

theorem After.trans {Y : Sys} {E E1 : Env} {C C1 : Nat → Option Ob} {w w1 : World} {n : Nat} {T T2 : Tm} {S S1 S2 : St} {a : Act} {ex : Ex} {e : Exit} {a2 : Act} {w2 : World}
    (hG : Good Y E C w n T S a) (g1 : Grow none S S1) (U1 : Upd C S C1 S1 none) (G1 : Go1 E w E1 w1) (h : After Y E1 C1 w1 n S1 ex T2 S2 e a2 w2) : After Y E C w n S ex T2 S2 e a2 w2 := by
  obtain ⟨h1, h2, E2, C2, h3, h4, h5⟩ := h
  exact ⟨h1, g1.trans h2, E2, C2, h3, U1.trans h4 hG.be hG.rel.nodummy, G1.trans h5⟩

structure CallOk (P : Program) (Y : Sys) (call : Nat → List HV → St → Option (HV × St)) : Prop extends CallSim P Y call where
  grow : ∀ g args S v S', call g args S = some (v, S') → Grow none S S'

theorem cops_sim {P : Program} {Y : Sys} {fid : Nat} {call : Nat → List HV → St → Option (HV × St)} (hY : SysOk Y P) (hcall : CallOk P Y call) {ops : Array Oper} {n : Nat} :
    ∀ (l : List Oper) (T : Tm) (S : St) (T' : Tm) (S' : St) (E : Env) (C : Nat → Option Ob) (w : World) (a : Act), cops Y fid call ops l T S = some (T', S') → l.all (operOk n) = true →
      Good Y E C w n T S a → ∀ Q : Exit → Act → World → Prop, (∀ e a' w', After Y E C w n S .norm T' S' e a' w' → Q e a' w') → wpList P ops Q l a w := by
  intro l
  induction l with
  | nil =>
    intro T S T' S' E C w a h hl hG Q hQ
    simp only [cops, Option.some.injEq, Prod.mk.injEq] at h
    obtain ⟨rfl, rfl⟩ := h
    exact hQ _ _ _ ⟨rfl, Grow.refl _ _, E, C, hG, Upd.refl _ _ _, Go1.refl _ _⟩
  | cons o l ih =>
    intro T S T' S' E C w a h hl hG Q hQ
    simp only [List.all_cons, Bool.and_eq_true] at hl
    have ho := hl.1
    simp only [operOk, Bool.and_eq_true] at ho
    have hd : ∀ t, o.dst = some t → t < a.tmps.size := fun t ht => by
      have := ho.2; rw [ht] at this; rw [hG.sz]; simpa using this
    simp only [cops] at h
    unfold wpList
    have hwt : Region.wanted o (yielded ops a.tmps) = wantedC ops o T := wanted_eq (E := E) fun g want d _ _ => hG.tr d
    rw [hwt]
    by_cases hw : wantedC ops o T = true
    · rw [if_pos hw] at h ⊢
      left
      split at h
      · rename_i v S1 hc
        refine cop_sim hY hcall.toCallSim hc hG.rel (.inl hG.ag) (fun _ => hG.be) hG.be (fun x hx => opnd_rel (fun t _ => hG.tr t) (List.all_eq_true.1 ho.1 x hx)) _ _ fun v' w' E' C' hv U R G => ?_
        have g1 : Grow none S S1 := cop_grow hcall.grow hc
        have hG1 : Good Y E' C' w' n (put T o.dst v) S1 (a.put o.dst v') := ⟨R, (hG.tr.mono G.le).put hd hv, U.agree hG.ag, U.beyond g1.1 hG.be, by rw [put_size]; exact hG.sz, by rw [put_defers]; exact hG.df⟩
        exact ih _ _ _ _ E' C' w' _ h hl.2 hG1 Q fun e a2 w2 hq => hQ _ _ _ (After.trans hG g1 U G hq)
      · cases h
    · rw [if_neg hw] at h ⊢
      exact ih _ _ _ _ E C w _ h hl.2 ⟨hG.rel, hG.tr.put hd (undef_rel E), hG.ag, hG.be, by rw [put_size]; exact hG.sz, by rw [put_defers]; exact hG.df⟩ Q hQ

end Go.Proofs.XVai
