/- Code. -/
import Derived.Test.YtkcneecnniimdaaVI
namespace Go.Proofs.XVai
open Go
set_option linter.unusedVariables false
set_option linter.unusedSimpArgs false

section
variable {P : Program} {Y : Sys} {fid : Nat} {call : Nat → List HV → St → Option (HV × St)} {ops : Array Oper} {n : Nat}

theorem Tr.mono {base : Nat} {Ts : Nat → Tm} {Ss : Nat → St} {vs : Nat → HV} (H : Tr Y fid call ops n base Ts Ss vs) {i : Nat} : ∀ j, i ≤ j → j ≤ ops.size → (Ss i).length ≤ (Ss j).length := by
  intro j
  induction j with
  | zero => intro h _; have : i = 0 := by omega
            rw [this]; exact Nat.le_refl _
  | succ j ih =>
    intro h hj
    rcases Nat.lt_or_ge j i with h1 | h1
    · have : i = j + 1 := by omega
      rw [this]; exact Nat.le_refl _
    · have hlt : j < ops.size := by omega
      have := (H.gr j ops[j] (by simp [hlt])).1
      exact Nat.le_trans (ih h1 (by omega)) this

theorem Inv.step {base : Nat} {Ts : Nat → Tm} {Ss : Nat → St} {vs : Nat → HV} {C0 : Nat → Option Ob} {S0 : St} {D : Nat → Prop} {p : Nat} {E : Env} {C : Nat → Option Ob} {w : World} {a : Act}
    (hY : SysOk Y P) (hcall : CallOk P Y call) (I : Inv Y ops n base Ts Ss vs C0 S0 D p E C w a) (H : Tr Y fid call ops n base Ts Ss vs) (hA : ∀ k, AgreeAt C0 S0 k) (hnd : ∀ k, C0 k ≠ some .dummy) {j : Nat} {o : Oper} (R : Ready ops D j o)
    {K : Act → World → Prop} {Q : Exit → Act → World → Prop}
    (hK : ∀ p' E' C' w' a', Inv Y ops n base Ts Ss vs C0 S0 (fun i => D i ∨ i = j) p' E' C' w' a' → Go1 E w E' w' → K a' w') : wpOp P ops Q j K a w := by
  have hjl := R.dlt
  unfold wpOp
  simp only [R.op]
  rw [R.wanted I H]
  have hst := H.st j o R.op
  cases hw : wantedC ops o (Ts j) with
  | false =>
    obtain ⟨h1, h2⟩ := hst.no hw
    simp only [Bool.false_eq_true, if_false]
    refine hK p E C w _ (I.quiet H R (by simp [hw]) (.refl E) (by rw [h1]; exact undef_rel E) I.rel (fun _ _ => rfl) ?_) (Go1.refl _ _)
    rw [h2, H.dum j j (Nat.le_refl _) hjl, I.slN j hjl R.nd]; exact .inr ⟨rfl, rfl⟩
  | true =>
    obtain ⟨hc, hq⟩ := hst.yes hw
    simp only [if_true]
    left
    have hN : NewOk C (Ss j) (some (base + j)) := ⟨I.slN j hjl R.nd, H.dum j j (Nat.le_refl _) hjl⟩
    cases hE : isE o with
    | true =>
      have hag := I.agreeE H hA R hE hw
      have hpj := (R.free I H hE hw).1
      have hbe : ∀ k, (Ss j).length ≤ k → C k = none := fun k hk => I.beyond H k (Nat.le_trans (H.mono j hpj (by omega)) hk)
      exact cop_sim hY hcall.toCallSim hc I.rel (.inl hag) (fun _ => hbe) hN (R.opnd I H) _ _ fun v w' E' C' hv U R' G =>
        hK _ _ _ _ _ (I.eff H hnd R hE hw G.le hv R' U) G
    | false =>
      refine cop_sim hY hcall.toCallSim hc I.rel (.inr ⟨base + j, rfl, hE, I.agreeN H hA R hE hw, hq, ⟨_, I.beyond H⟩, hN.2⟩) (fun h => by rw [hE] at h; cases h) hN (R.opnd I H) _ _ fun v w' E' C' hv U R' G =>
        hK _ _ _ _ _ (I.quiet H R (by simp [hE]) G.le hv R' (fun k hk => U.u1 k ((hq hE).2.1 k hk)) ?_) G
      by_cases he : (Ss (j + 1))[base + j]? = (Ss j)[base + j]?
      · rw [U.u1 _ he, hN.1, he, hN.2]; exact .inr ⟨rfl, rfl⟩
      · exact U.u2 _ he

theorem ready_all (hE : edgesOk ops = true) {listed : Array Bool} (hs : listed.size = ops.size) (hr : Region.ready .any ops listed = []) : ∀ i, i < ops.size → listed.getD i false = true := by
  intro i
  induction i using Nat.strongRecOn with
  | _ i ih =>
    intro hi
    cases hq : listed.getD i false with
    | true => rfl
    | false =>
      have : i ∈ Region.ready .any ops listed := by
        rw [mem_ready]
        refine ⟨?_, ops[i], by simp [hi], fun e he hb => ?_⟩
        · have h1 : i < listed.size := by omega
          simp [h1] at hq ⊢; exact hq
        · have hlt := edgesOk.spec hE (o := ops[i]) (j := i) (by simp [hi]) (by simpa using he) hb
          exact ih _ hlt (by omega)
      rw [hr] at this; cases this

def left (ops : Array Oper) (listed : Array Bool) : Nat := (List.range ops.size).countP fun i => !listed.getD i false
theorem countP_lt {α : Type} {f g : α → Bool} : ∀ {l : List α}, (∀ x ∈ l, g x = true → f x = true) → (∃ x ∈ l, f x = true ∧ g x = false) → l.countP g < l.countP f := by
  intro l
  induction l with
  | nil => intro _ h; obtain ⟨x, hx, _⟩ := h; cases hx
  | cons y l ih =>
    intro h1 h2
    obtain ⟨x, hx, hf, hg⟩ := h2
    have hle : l.countP g ≤ l.countP f := List.countP_mono_left fun x hx => h1 x (by simp [hx])
    simp only [List.countP_cons]
    rcases List.mem_cons.1 hx with rfl | hx
    · simp [hf, hg]; omega
    · have := ih (fun x hx => h1 x (by simp [hx])) ⟨x, hx, hf, hg⟩
      by_cases hgy : g y = true
      · simp [hgy, h1 y (by simp) hgy]; omega
      · simp [hgy]; omega

theorem wpAny_sim {base : Nat} {Ts : Nat → Tm} {Ss : Nat → St} {vs : Nat → HV} {C0 : Nat → Option Ob} {S0 : St} {E0 : Env} {w0 : World}
    (hY : SysOk Y P) (hcall : CallOk P Y call) (H : Tr Y fid call ops n base Ts Ss vs) (hA : ∀ k, AgreeAt C0 S0 k) (hnd : ∀ k, C0 k ≠ some .dummy) {Q : Exit → Act → World → Prop}
    (hQ : ∀ p E C w a, Inv Y ops n base Ts Ss vs C0 S0 (fun i => i < ops.size) p E C w a → Go1 E0 w0 E w → Q .normal a w) :
    ∀ (fuel : Nat) (listed : Array Bool) (p : Nat) (E : Env) (C : Nat → Option Ob) (w : World) (a : Act), listed.size = ops.size → left ops listed ≤ fuel →
      Inv Y ops n base Ts Ss vs C0 S0 (fun i => listed.getD i false = true) p E C w a → Go1 E0 w0 E w → wpAny P .any ops Q fuel listed a w := by
  have fin : ∀ (listed : Array Bool) (p : Nat) (E : Env) (C : Nat → Option Ob) (w : World) (a : Act), (∀ i, i < ops.size → listed.getD i false = true) →
      Inv Y ops n base Ts Ss vs C0 S0 (fun i => listed.getD i false = true) p E C w a → Go1 E0 w0 E w → Q .normal a w := by
    intro listed p E C w a hall I G
    have : (fun i => listed.getD i false = true) = (fun i => i < ops.size) := by
      funext i; exact propext ⟨I.dlt i, hall i⟩
    exact hQ p E C w a (this ▸ I) G
  intro fuel
  induction fuel with
  | zero =>
    intro listed p E C w a hs hl I G
    have hall : ∀ i, i < ops.size → listed.getD i false = true := fun i hi => by
      have := List.countP_eq_zero.1 (Nat.le_zero.1 hl) i (by simpa using hi)
      simpa using this
    refine ⟨?_, fin listed p E C w a hall I G⟩
    cases hr : Region.ready .any ops listed with
    | nil => rfl
    | cons j l =>
      have hj : j ∈ Region.ready .any ops listed := by rw [hr]; simp
      obtain ⟨h0, o, ho, _⟩ := mem_ready.1 hj
      have hlt : j < ops.size := (Array.getElem?_eq_some_iff.1 ho).1
      have h1 := hall j hlt
      have h2 : j < listed.size := by omega
      simp [h2] at h0 h1; rw [h0] at h1; cases h1
  | succ fuel ih =>
    intro listed p E C w a hs hl I G
    refine ⟨fun hr => fin listed p E C w a (ready_all H.edges hs hr) I G, fun j hj => ?_⟩
    obtain ⟨h0, o, ho, hall⟩ := mem_ready.1 hj
    have hlt : j < ops.size := (Array.getElem?_eq_some_iff.1 ho).1
    have h2 : j < listed.size := by omega
    have hnd' : ¬ listed.getD j false = true := by simp [h2] at h0 ⊢; exact h0
    have R : Ready ops (fun i => listed.getD i false = true) j o := ⟨ho, hnd', fun e he hb => hall e (by simpa using he) hb⟩
    refine I.step hY hcall H hA hnd R fun p' E' C' w' a' I' G' => ?_
    have heq : (fun i => listed.getD i false = true ∨ i = j) = (fun i => (listed.setIfInBounds j true).getD i false = true) := by
      funext i
      refine propext ⟨fun h => ?_, fun h => ?_⟩
      · rcases h with h | h
        · exact getD_set_true h
        · subst h; simp [h2]
      · by_cases hij : i = j
        · exact .inr hij
        · rw [getD_set_ne false (Ne.symm hij)] at h; exact .inl h
    refine ih _ p' E' C' w' a' (by simpa using hs) ?_ (heq ▸ I') (G.trans G')
    have : left ops (listed.setIfInBounds j true) < left ops listed := by
      refine countP_lt (fun i _ h => ?_) ⟨j, by simpa using hlt, by simpa using hnd', by simp [h2]⟩
      cases hq : listed.getD i false with
      | false => rfl
      | true => rw [getD_set_true hq] at h; cases h
    omega

theorem copsD_sim (hY : SysOk Y P) (hcall : CallOk P Y call) {id : Nat} {T T' : Tm} {S S' : St} {E : Env} {C : Nat → Option Ob} {w : World} {a : Act}
    (h : copsD Y fid call ops S.length 0 ops.toList [] T (S ++ List.replicate ops.size .dummy) = some (T', S')) (hd : drawOk ops = true) (hl : ops.toList.all (operOk n) = true) (hG : Good Y E C w n T S a)
    {Q : Exit → Act → World → Prop} (hQ : ∀ e a' w', After Y E C w n S .norm T' S' e a' w' → Q e a' w') : (Code.region id ops true).wp P Q a w := by
  obtain ⟨Ts, Ss, vs, a1, a2, a3, a4, a5, _, a7⟩ := copsD_trace _ _ _ _ _ _ _ h
  simp only [drawOk, Bool.and_eq_true] at hd
  simp only [Nat.zero_add, Array.length_toList] at a3 a4 a5 a7
  have st : ∀ (i : Nat) (o : Oper), ops[i]? = some o → TStep Y fid call ops S.length Ts Ss vs i o := fun i o ho => a5 i o (by simpa using ho)
  have gr : ∀ (i : Nat) (o : Oper), ops[i]? = some o → Grow (some (S.length + i)) (Ss i) (Ss (i + 1)) := fun i o ho => by
    have hs := st i o ho
    cases hw : wantedC ops o (Ts i) with
    | false => rw [(hs.no hw).2]; exact .refl _ _
    | true => exact cop_grow hcall.grow (hs.yes hw).1
  have dum : ∀ i m, i ≤ m → m < ops.size → (Ss i)[S.length + m]? = some .dummy := by
    intro i
    induction i with
    | zero => intro m _ hm; rw [a2, List.getElem?_append_right (by omega)]; simp [hm]
    | succ i ih =>
      intro m h1 h2
      have hlt : i < ops.size := by omega
      exact (gr i ops[i] (by simp [hlt])).2 _ (by simp; omega) (ih m (by omega) h2)
  have old : ∀ i k, i ≤ ops.size → k < S.length → S[k]? = some .dummy → (Ss i)[k]? = some .dummy := by
    intro i
    induction i with
    | zero => intro k _ hk hS; rw [a2, List.getElem?_append_left hk]; exact hS
    | succ i ih =>
      intro k h1 hk hS
      have hlt : i < ops.size := by omega
      exact (gr i ops[i] (by simp [hlt])).2 _ (by simp; omega) (ih k (by omega) hk hS)
  have len : ∀ i, i ≤ ops.size → S.length + ops.size ≤ (Ss i).length := by
    intro i
    induction i with
    | zero => intro _; rw [a2]; simp
    | succ i ih =>
      intro h1
      have hlt : i < ops.size := by omega
      exact Nat.le_trans (ih (by omega)) (gr i ops[i] (by simp [hlt])).1
  have H : Tr Y fid call ops n S.length Ts Ss vs := ⟨st, fun i j oi oj hlt hi hj h1 h2 => a7 i j oi oj hlt (by simpa using hi) (by simpa using hj) h1 h2, len, dum, gr, hd.1.1, hd.1.2, hd.2,
    fun i o ho => List.all_eq_true.1 hl o (by simpa using Array.mem_of_getElem? ho)⟩
  refine wp_region_any hY.mixed ?_
  have hfalse : (fun i => (Array.replicate ops.size false).getD i false = true) = (fun _ => False) := by
    funext i
    refine propext ⟨fun h => ?_, False.elim⟩
    rw [Array.getD_eq_getD_getElem?, Array.getElem?_replicate] at h
    split at h <;> simp at h
  have G0 : Go1 E w E { w with drawn := w.drawn + 1 } := ⟨.refl E, rfl, rfl, rfl, Nat.le_refl _, fun _ _ _ => rfl, fun _ h => .inl h⟩
  refine wpAny_sim (E0 := E) (w0 := w) hY hcall H hG.ag hG.rel.nodummy ?_ ops.size _ 0 E C _ a (by simp) ?_ ?_ G0
  · intro p E' C' w' a' I G
    have hp : ∀ (i : Nat) (o : Oper), p ≤ i → i < ops.size → ops[i]? = some o → ¬ (isE o = true ∧ wantedC ops o (Ts i) = true) := fun i o h1 h2 ho h3 => by
      have := (I.p1 i o ho h3.1 h3.2).1 h2; omega
    obtain ⟨ov1, ov2⟩ := I.over H (Nat.le_refl _) I.pN hp
    have sh : ∀ k, S.length ≤ k → Shows (C' k) (S'[k]?) := fun k hk => by
      rw [← a4]
      rcases Nat.lt_or_ge k (S.length + ops.size) with h1 | h1
      · obtain ⟨i, rfl⟩ : ∃ i, k = S.length + i := ⟨k - S.length, by omega⟩
        rw [ov2 i (by omega)]; exact I.slD i (by omega)
      · rw [ov1 k fun i _ _ => by omega]; exact I.bey k h1
    have ud : ∀ k, k < S.length → UpdAt C S C' S' k := fun k hk => by
      have := I.old k hk
      unfold UpdAt at this ⊢
      rw [← a4, ov1 k fun i _ _ => by omega]; exact this
    have hnone : ∀ k, S.length ≤ k → S[k]? = none := fun k hk => List.getElem?_eq_none hk
    refine hQ _ _ _ ⟨rfl, ⟨?_, fun k _ hk => ?_⟩, E', C', ⟨I.rel, fun t => ?_, fun k => ?_, fun k hk => ?_, I.sz, I.df⟩, ⟨fun k hk => ?_, fun k hk => ?_, fun k hlt hk _ => (ud k hlt).2.2 hk⟩, G⟩
    · have := len ops.size (Nat.le_refl _); rw [a4] at this; omega
    · rw [← a4]; exact old _ k (Nat.le_refl _) (List.getElem?_eq_some_iff.1 hk).1 hk
    · obtain ⟨v, h1, h2⟩ := I.tr t
      have h3 := Last.trace (t := t) (fun i o ho => (st i o ho).tm) ops.size (Nat.le_refl _)
      rw [← a3, ← h1.uniq h3]; exact h2
    · rcases Nat.lt_or_ge k S.length with h1 | h1
      · exact (ud k h1).agree (hG.ag k)
      · intro o ho; exact (sh k h1).agree ho
    · rcases sh k (by have := len ops.size (Nat.le_refl _); rw [a4] at this; omega) with h1 | ⟨_, h1⟩
      · rw [h1]; exact List.getElem?_eq_none hk
      · exact h1
    · rcases Nat.lt_or_ge k S.length with h1 | h1
      · exact (ud k h1).1 hk
      · rw [hG.be k h1]
        rcases sh k h1 with h2 | ⟨_, h2⟩
        · rw [h2, hk, hnone k h1]
        · exact h2
    · rcases Nat.lt_or_ge k S.length with h1 | h1
      · exact (ud k h1).2.1 hk
      · exact sh k h1
  · unfold left
    exact Nat.le_trans List.countP_le_length (by simp)
  · rw [hfalse]
    refine ⟨fun _ h => h.elim, fun _ _ _ h => h.elim, fun i o _ _ _ => ⟨False.elim, fun h => by omega⟩, Nat.zero_le _, fun t => ⟨Ts 0 t, .inr ⟨fun _ h => h.elim, rfl⟩, by rw [a1]; exact hG.tr t⟩, hG.rel.drew rfl, fun _ h => h.elim,
      fun i _ _ => hG.be _ (by omega), fun i h => by omega, fun k hk => ?_, fun k hk => ?_, hG.sz, hG.df⟩
    · left
      rw [hG.be k (by omega), a2]
      exact (List.getElem?_eq_none (by simp; omega)).symm
    · have : (Ss 0)[k]? = S[k]? := by rw [a2, List.getElem?_append_left hk]
      exact ⟨fun _ => rfl, fun h => absurd this h, fun h => absurd this h⟩

end
end Go.Proofs.XVai
