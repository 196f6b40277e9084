/- A region that draws its order ends as its text does. -/
import Derived.Test.YtkcneecnniimdaaVH
namespace Go.Proofs.XVai
open Go
set_option linter.unusedVariables false
set_option linter.unusedSimpArgs false

def dstOf (ops : Array Oper) (i : Nat) : Option Tmp := (ops[i]?).bind (·.dst)

def Last (ops : Array Oper) (Ts : Nat → Tm) (vs : Nat → HV) (D : Nat → Prop) (t : Nat) (v : HV) : Prop :=
  (∃ i, D i ∧ dstOf ops i = some t ∧ (∀ i', D i' → dstOf ops i' = some t → i' ≤ i) ∧ v = vs i) ∨ ((∀ i, D i → dstOf ops i ≠ some t) ∧ v = Ts 0 t)

section
variable {ops : Array Oper} {Ts : Nat → Tm} {vs : Nat → HV} {D D' : Nat → Prop} {t : Nat} {v v' : HV}

theorem Last.uniq (h : Last ops Ts vs D t v) (k : Last ops Ts vs D t v') : v = v' := by
  rcases h with ⟨i, h1, h2, h3, h4⟩ | ⟨h1, h2⟩ <;> rcases k with ⟨j, k1, k2, k3, k4⟩ | ⟨k1, k2⟩
  · have := h3 j k1 k2
    have := k3 i h1 h2
    have e : i = j := by omega
    rw [h4, k4, e]
  · exact absurd h2 (k1 i h1)
  · exact absurd k2 (h1 j k1)
  · rw [h2, k2]
theorem Last.congr (hD : ∀ i, dstOf ops i = some t → (D i ↔ D' i)) (h : Last ops Ts vs D t v) : Last ops Ts vs D' t v := by
  rcases h with ⟨i, h1, h2, h3, h4⟩ | ⟨h1, h2⟩
  · exact .inl ⟨i, (hD i h2).1 h1, h2, fun i' a b => h3 i' ((hD i' b).2 a) b, h4⟩
  · exact .inr ⟨fun i a b => h1 i ((hD i b).2 a) b, h2⟩
theorem Last.trace (hst : ∀ (i : Nat) (o : Oper), ops[i]? = some o → Ts (i + 1) = Go.Proofs.XVai.put (Ts i) o.dst (vs i)) : ∀ j, j ≤ ops.size → Last ops Ts vs (fun i => i < j) t (Ts j t) := by
  intro j
  induction j with
  | zero => intro _; exact .inr ⟨fun i h => by omega, rfl⟩
  | succ j ih =>
    intro hj
    have hlt : j < ops.size := by omega
    have ho : ops[j]? = some ops[j] := by simp [hlt]
    rw [hst j _ ho]
    by_cases hd : dstOf ops j = some t
    · have hd' : ops[j].dst = some t := by simpa [dstOf, ho] using hd
      refine .inl ⟨j, by omega, hd, fun i' h _ => by omega, ?_⟩
      simp [Go.Proofs.XVai.put, upd, hd']
    · have hd' : ops[j].dst ≠ some t := by simpa [dstOf, ho] using hd
      have : Go.Proofs.XVai.put (Ts j) ops[j].dst (vs j) t = Ts j t := by
        cases hq : ops[j].dst with
        | none => rfl
        | some d => simp only [Go.Proofs.XVai.put, upd]; rw [if_neg]; intro e; exact hd' (by rw [hq, e])
      rw [this]
      exact (ih (by omega)).congr fun i hi => ⟨fun h => by omega, fun h => by
        rcases Nat.lt_or_ge i j with h1 | h1
        · exact h1
        · have : i = j := by omega
          exact absurd (this ▸ hi) hd⟩
theorem Last.step {j : Nat} {u : HV} (h : Last ops Ts vs D t v) (hn : dstOf ops j = some t → ∀ i, D i → dstOf ops i = some t → i ≤ j) (hu : dstOf ops j = some t → u = vs j) (hv : dstOf ops j ≠ some t → u = v) : Last ops Ts vs (fun i => D i ∨ i = j) t u := by
  by_cases hd : dstOf ops j = some t
  · refine .inl ⟨j, .inr rfl, hd, fun i' h1 h2 => ?_, hu hd⟩
    rcases h1 with h1 | h1
    · exact hn hd i' h1 h2
    · omega
  · rw [hv hd]
    exact h.congr fun i hi => ⟨.inl, fun h => h.resolve_right fun e => hd (e ▸ hi)⟩
end

def Shows (x y : Option Ob) : Prop := x = y ∨ (y = some .dummy ∧ x = none)

def UpdAt (C : Nat → Option Ob) (S : St) (C' : Nat → Option Ob) (S' : St) (k : Nat) : Prop :=
  (S'[k]? = S[k]? → C' k = C k) ∧ (S'[k]? ≠ S[k]? → Shows (C' k) (S'[k]?)) ∧ (S'[k]? ≠ S[k]? → C k = S[k]? ∧ (C k).isSome = true)

theorem UpdAt.trans {C C1 C2 : Nat → Option Ob} {S S1 S2 : St} {k : Nat} (h : UpdAt C S C1 S1 k) (g : UpdAt C1 S1 C2 S2 k) (hd : C k ≠ some .dummy) : UpdAt C S C2 S2 k := by
  refine ⟨fun hj => ?_, fun hj => ?_, fun hj => ?_⟩
  · by_cases he : S1[k]? = S[k]?
    · rw [g.1 (hj.trans he.symm), h.1 he]
    · have h2 : S2[k]? ≠ S1[k]? := fun e => he (e.symm.trans hj)
      rcases g.2.1 h2 with h3 | ⟨h3, h4⟩
      · rw [h3, hj]; exact (h.2.2 he).1.symm
      · have h5 := (h.2.2 he).1
        rw [← hj, h3] at h5
        exact absurd h5 hd
  · by_cases he : S2[k]? = S1[k]?
    · rw [g.1 he, he]; exact h.2.1 (fun e => hj (he.trans e))
    · exact g.2.1 he
  · by_cases he : S1[k]? = S[k]?
    · have := g.2.2 (fun e => hj (e.trans he))
      rw [h.1 he, he] at this
      exact this
    · exact h.2.2 he

structure Tr (Y : Sys) (fid : Nat) (call : Nat → List HV → St → Option (HV × St)) (ops : Array Oper) (n base : Nat) (Ts : Nat → Tm) (Ss : Nat → St) (vs : Nat → HV) : Prop where
  st : ∀ (i : Nat) (o : Oper), ops[i]? = some o → TStep Y fid call ops base Ts Ss vs i o
  ap : ∀ (i j : Nat) (oi oj : Oper), i < j → ops[i]? = some oi → ops[j]? = some oj → wantedC ops oi (Ts i) = true → wantedC ops oj (Ts j) = true → apartL ops (lgOf ops Ts Ss i oi) (lgOf ops Ts Ss j oj)
  len : ∀ i, i ≤ ops.size → base + ops.size ≤ (Ss i).length
  dum : ∀ i m, i ≤ m → m < ops.size → (Ss i)[base + m]? = some .dummy
  gr : ∀ (i : Nat) (o : Oper), ops[i]? = some o → Grow (some (base + i)) (Ss i) (Ss (i + 1))
  edges : edgesOk ops = true
  tmps : tmpsOk ops = true
  effs : effOk ops = true
  opers : ∀ (i : Nat) (o : Oper), ops[i]? = some o → operOk n o = true

structure Inv (Y : Sys) (ops : Array Oper) (n base : Nat) (Ts : Nat → Tm) (Ss : Nat → St) (vs : Nat → HV) (C0 : Nat → Option Ob) (S0 : St) (D : Nat → Prop) (p : Nat) (E : Env) (C : Nat → Option Ob) (w : World) (a : Act) : Prop where
  dlt : ∀ i, D i → i < ops.size
  down : ∀ (j : Nat) (o : Oper) (e : Edge), D j → ops[j]? = some o → e ∈ o.after.toList → Region.binds .any e = true → D e.on
  p1 : ∀ (i : Nat) (o : Oper), ops[i]? = some o → isE o = true → wantedC ops o (Ts i) = true → (D i ↔ i < p)
  pN : p ≤ ops.size
  tr : ∀ t, ∃ v, Last ops Ts vs D t v ∧ VRel E v (a.tmps.getD t undef)
  rel : Rel Y E C w
  slD : ∀ i, D i → Shows (C (base + i)) ((Ss (max p (i + 1)))[base + i]?)
  slN : ∀ i, i < ops.size → ¬ D i → C (base + i) = none
  sn : ∀ i, i < p → ¬ D i → (Ss p)[base + i]? = (Ss (i + 1))[base + i]?
  bey : ∀ k, base + ops.size ≤ k → Shows (C k) ((Ss p)[k]?)
  old : ∀ k, k < base → UpdAt C0 S0 C (Ss p) k
  sz : a.tmps.size = n
  df : a.defers = []

section
variable {P : Program} {Y : Sys} {fid : Nat} {call : Nat → List HV → St → Option (HV × St)} {ops : Array Oper} {n base : Nat} {Ts : Nat → Tm} {Ss : Nat → St} {vs : Nat → HV} {C0 : Nat → Option Ob} {S0 : St}
  {D : Nat → Prop} {p : Nat} {E : Env} {C : Nat → Option Ob} {w : World} {a : Act}

theorem tele (Ss : Nat → St) (k a : Nat) : ∀ b, a ≤ b → (∀ i, a ≤ i → i < b → (Ss (i + 1))[k]? = (Ss i)[k]?) → (Ss b)[k]? = (Ss a)[k]? := by
  intro b
  induction b with
  | zero => intro h _; have : a = 0 := by omega
            rw [this]
  | succ b ih =>
    intro h hs
    rcases Nat.lt_or_ge b a with h1 | h1
    · have : a = b + 1 := by omega
      rw [this]
    · rw [hs b h1 (by omega)]
      exact ih h1 fun i h2 h3 => hs i h2 (by omega)

/-- A step that is no effect keeps all but its own place. -/
theorem Tr.quiet (H : Tr Y fid call ops n base Ts Ss vs) {i : Nat} {o : Oper} (ho : ops[i]? = some o) (hq : ¬ (isE o = true ∧ wantedC ops o (Ts i) = true)) {k : Nat} (hk : k ≠ base + i) : (Ss (i + 1))[k]? = (Ss i)[k]? := by
  have hs := H.st i o ho
  cases hw : wantedC ops o (Ts i) with
  | false => rw [(hs.no hw).2]
  | true =>
    have hE : isE o = false := by
      cases h : isE o with
      | false => rfl
      | true => exact absurd ⟨h, hw⟩ hq
    exact ((hs.yes hw).2 hE).2.1 k hk

theorem Inv.anc (I : Inv Y ops n base Ts Ss vs C0 S0 D p E C w a) (hE : edgesOk ops = true) {i : Nat} : ∀ j, D j → Go.Proofs.XVai.anc ops i j = true → D i := by
  intro j
  induction j using Nat.strongRecOn with
  | _ j ih =>
    intro hj ha
    obtain ⟨o, ho, e, he, hb, h1⟩ := anc_step ha
    have hd := I.down j o e hj ho he hb
    rcases h1 with h1 | h1
    · exact h1 ▸ hd
    · exact ih _ (edgesOk.spec hE ho he hb) hd h1

/-- What is ready. -/
structure Ready (ops : Array Oper) (D : Nat → Prop) (j : Nat) (o : Oper) : Prop where
  op : ops[j]? = some o
  nd : ¬ D j
  after : ∀ e ∈ o.after.toList, Region.binds .any e = true → D e.on

theorem Ready.anc {j : Nat} {o : Oper} (R : Ready ops D j o) (I : Inv Y ops n base Ts Ss vs C0 S0 D p E C w a) (hE : edgesOk ops = true) {i : Nat} (ha : Go.Proofs.XVai.anc ops i j = true) : D i := by
  obtain ⟨o', ho, e, he, hb, h1⟩ := anc_step ha
  rw [R.op] at ho; cases ho
  have hd := R.after e he hb
  rcases h1 with h1 | h1
  · exact h1 ▸ hd
  · exact I.anc hE _ hd h1

theorem Ready.names {j : Nat} {o : Oper} (R : Ready ops D j o) (I : Inv Y ops n base Ts Ss vs C0 S0 D p E C w a) (H : Tr Y fid call ops n base Ts Ss vs) {t i : Nat} (ht : t ∈ namesOf ops o) (hi : dstOf ops i = some t) : D i ↔ i < j := by
  by_cases hij : i = j
  · subst hij; exact ⟨fun h => absurd h R.nd, fun h => absurd h (by omega)⟩
  · rcases tmpsOk.spec H.tmps hi R.op hij ht with h | h
    · exact ⟨fun _ => anc_lt H.edges _ h, fun _ => R.anc I H.edges h⟩
    · refine ⟨fun hd => absurd (I.anc H.edges _ hd h) R.nd, fun hlt => ?_⟩
      have := anc_lt H.edges _ h; omega

theorem Ready.val {j : Nat} {o : Oper} (R : Ready ops D j o) (I : Inv Y ops n base Ts Ss vs C0 S0 D p E C w a) (H : Tr Y fid call ops n base Ts Ss vs) {t : Nat} (ht : t ∈ o.looksAt ops) : VRel E (Ts j t) (a.tmps.getD t undef) := by
  obtain ⟨v, h1, h2⟩ := I.tr t
  have h3 : Last ops Ts vs (fun i => i < j) t v := h1.congr fun i hi => R.names I H (List.mem_append_left _ ht) hi
  have hj : j < ops.size := (Array.getElem?_eq_some_iff.1 R.op).1
  have h4 := Last.trace (t := t) (fun i o ho => (H.st i o ho).tm) j (by omega)
  rw [← h3.uniq h4]; exact h2

theorem Ready.wanted {j : Nat} {o : Oper} (R : Ready ops D j o) (I : Inv Y ops n base Ts Ss vs C0 S0 D p E C w a) (H : Tr Y fid call ops n base Ts Ss vs) : Region.wanted o (yielded ops a.tmps) = wantedC ops o (Ts j) :=
  wanted_eq (E := E) fun g want d hg hd => R.val I H (by unfold Oper.looksAt; rw [hg]; simp [hd])

theorem Ready.opnd {j : Nat} {o : Oper} (R : Ready ops D j o) (I : Inv Y ops n base Ts Ss vs C0 S0 D p E C w a) (H : Tr Y fid call ops n base Ts Ss vs) : ∀ x ∈ o.op.operands.toList, VRel E (ev (Ts j) x) (a.eval x) := by
  intro x hx
  have ho := H.opers j o R.op
  simp only [operOk, Bool.and_eq_true] at ho
  refine opnd_rel (fun t ht => R.val I H ?_) (List.all_eq_true.1 ho.1 x hx)
  subst ht
  exact List.mem_append_left _ (List.mem_filterMap.2 ⟨.tmp t, hx, rfl⟩)

theorem Ready.dlt {j : Nat} {o : Oper} (R : Ready ops D j o) : j < ops.size := (Array.getElem?_eq_some_iff.1 R.op).1

/-- The temporaries behind a step. -/
theorem Inv.tmps (I : Inv Y ops n base Ts Ss vs C0 S0 D p E C w a) (H : Tr Y fid call ops n base Ts Ss vs) {j : Nat} {o : Oper} (R : Ready ops D j o) {E' : Env} (hE : E.le E') {v : Value} (hv : VRel E' (vs j) v) (t : Nat) :
    ∃ u, Last ops Ts vs (fun i => D i ∨ i = j) t u ∧ VRel E' u ((a.put o.dst v).tmps.getD t undef) := by
  obtain ⟨u, h1, h2⟩ := I.tr t
  have hd : dstOf ops j = o.dst := by simp [dstOf, R.op]
  have hlt : ∀ d, o.dst = some d → d < a.tmps.size := fun d hd => by
    have ho := H.opers j o R.op
    simp only [operOk, Bool.and_eq_true, hd] at ho
    rw [I.sz]; simpa using ho.2
  by_cases ht : o.dst = some t
  · refine ⟨vs j, h1.step (fun _ i hi hdi => ?_) (fun _ => rfl) (fun h => absurd (hd.trans ht) h), ?_⟩
    · have := (R.names I H (t := t) (i := i) (by simp [namesOf, ht]) hdi).1 hi; omega
    · rw [ht, put_getD a t t v (hlt t ht), if_pos rfl]; exact hv
  · refine ⟨u, h1.step (fun h => absurd (hd ▸ h) ht) (fun h => absurd (hd ▸ h) ht) (fun _ => rfl), ?_⟩
    cases hq : o.dst with
    | none => exact h2.mono hE
    | some d =>
      rw [put_getD a d t v (hlt d hq), if_neg (fun e => ht (by rw [hq, e]))]; exact h2.mono hE

/-- A step that is no effect, or that is not wanted. -/
theorem Inv.quiet (I : Inv Y ops n base Ts Ss vs C0 S0 D p E C w a) (H : Tr Y fid call ops n base Ts Ss vs) {j : Nat} {o : Oper} (R : Ready ops D j o) (hq : ¬ (isE o = true ∧ wantedC ops o (Ts j) = true))
    {E' : Env} {C' : Nat → Option Ob} {w' : World} {v : Value} (hE : E.le E') (hv : VRel E' (vs j) v) (hR : Rel Y E' C' w') (hC : ∀ k, k ≠ base + j → C' k = C k) (hj : Shows (C' (base + j)) ((Ss (j + 1))[base + j]?)) :
    Inv Y ops n base Ts Ss vs C0 S0 (fun i => D i ∨ i = j) p E' C' w' (a.put o.dst v) where
  dlt i h := h.elim (I.dlt i) (fun h => h ▸ R.dlt)
  down i o' e h ho he hb := by
    rcases h with h | h
    · exact .inl (I.down i o' e h ho he hb)
    · subst h; rw [R.op] at ho; cases ho; exact .inl (R.after e he hb)
  p1 i o' ho hE' hw := by
    by_cases hij : i = j
    · subst hij; rw [R.op] at ho; cases ho; exact absurd ⟨hE', hw⟩ hq
    · rw [← I.p1 i o' ho hE' hw]; exact ⟨fun h => h.resolve_right hij, .inl⟩
  pN := I.pN
  tr := I.tmps H R hE hv
  rel := hR
  slD i h := by
    by_cases hij : i = j
    · subst hij
      rcases Nat.lt_or_ge i p with h1 | h1
      · have : max p (i + 1) = p := by omega
        rw [this, I.sn i h1 R.nd]; exact hj
      · have : max p (i + 1) = i + 1 := by omega
        rw [this]; exact hj
    · rw [hC _ (by omega)]; exact I.slD i (h.resolve_right hij)
  slN i hi h := by
    have hij : i ≠ j := fun e => h (.inr e)
    rw [hC _ (by omega)]; exact I.slN i hi fun h1 => h (.inl h1)
  sn i hi h := I.sn i hi fun h1 => h (.inl h1)
  bey k hk := by
    have := R.dlt
    rw [hC k (by omega)]; exact I.bey k hk
  old k hk := by
    have := I.old k hk
    unfold UpdAt at this ⊢
    rw [hC k (by omega)]; exact this
  sz := by rw [put_size]; exact I.sz
  df := by rw [put_defers]; exact I.df

/-- No effect lies between p and an effect that is ready. -/
theorem Ready.free {j : Nat} {o : Oper} (R : Ready ops D j o) (I : Inv Y ops n base Ts Ss vs C0 S0 D p E C w a) (H : Tr Y fid call ops n base Ts Ss vs) (hE : isE o = true) (hw : wantedC ops o (Ts j) = true) :
    p ≤ j ∧ ∀ i o', p ≤ i → i < j → ops[i]? = some o' → ¬ (isE o' = true ∧ wantedC ops o' (Ts i) = true) := by
  refine ⟨?_, fun i o' h1 h2 ho h3 => ?_⟩
  · have := I.p1 j o R.op hE hw
    rcases Nat.lt_or_ge j p with h | h
    · exact absurd (this.2 h) R.nd
    · exact h
  · have := (I.p1 i o' ho h3.1 h3.2).1 (R.anc I H.edges (effOk.spec H.effs R.op ho h2 hE h3.1))
    omega

theorem Inv.over (I : Inv Y ops n base Ts Ss vs C0 S0 D p E C w a) (H : Tr Y fid call ops n base Ts Ss vs) {j : Nat} (hj : j ≤ ops.size) (hpj : p ≤ j) (hfree : ∀ i o', p ≤ i → i < j → ops[i]? = some o' → ¬ (isE o' = true ∧ wantedC ops o' (Ts i) = true)) :
    (∀ k, (∀ i, p ≤ i → i < j → k ≠ base + i) → (Ss j)[k]? = (Ss p)[k]?) ∧ ∀ i, i < j → (Ss j)[base + i]? = (Ss (max p (i + 1)))[base + i]? := by
  refine ⟨fun k hk => tele Ss k p j hpj fun i h1 h2 => ?_, fun i hi => tele Ss _ _ j (by omega) fun i' h1 h2 => ?_⟩
  · have hlt : i < ops.size := by omega
    exact H.quiet (o := ops[i]) (by simp [hlt]) (hfree i _ h1 h2 (by simp [hlt])) (hk i h1 h2)
  · have hlt : i' < ops.size := by omega
    exact H.quiet (o := ops[i']) (by simp [hlt]) (hfree i' _ (by omega) h2 (by simp [hlt])) (by omega)

theorem Shows.agree {x y : Option Ob} (h : Shows x y) {o : Ob} (hx : x = some o) : y = some o ∨ y = some .dummy := by
  rcases h with h | ⟨h, h'⟩
  · exact .inl (h ▸ hx)
  · rw [h'] at hx; cases hx

theorem UpdAt.agree {k : Nat} (hA : AgreeAt C0 S0 k) {S : St} (h : UpdAt C0 S0 C S k) : AgreeAt C S k := by
  intro o ho
  by_cases he : S[k]? = S0[k]?
  · rw [h.1 he] at ho
    rcases hA o ho with h2 | h2
    · exact .inl (he.trans h2)
    · exact .inr (he.trans h2)
  · exact (h.2.1 he).agree ho

theorem Inv.agreeE (I : Inv Y ops n base Ts Ss vs C0 S0 D p E C w a) (H : Tr Y fid call ops n base Ts Ss vs) (hA : ∀ k, AgreeAt C0 S0 k) {j : Nat} {o : Oper} (R : Ready ops D j o) (hE : isE o = true) (hw : wantedC ops o (Ts j) = true) : ∀ k, AgreeAt C (Ss j) k := by
  obtain ⟨hpj, hfree⟩ := R.free I H hE hw
  have hjl := R.dlt
  obtain ⟨ov1, ov2⟩ := I.over H (by omega) hpj hfree
  intro k o' ho'
  rcases Nat.lt_or_ge k base with h1 | h1
  · rw [ov1 k fun i _ _ => by omega]
    exact (I.old k h1).agree (hA k) o' ho'
  · rcases Nat.lt_or_ge k (base + ops.size) with h2 | h2
    · obtain ⟨i, rfl⟩ : ∃ i, k = base + i := ⟨k - base, by omega⟩
      by_cases hD : D i
      · rcases Nat.lt_or_ge i j with h3 | h3
        · rw [ov2 i h3]; exact (I.slD i hD).agree ho'
        · right; exact H.dum j i h3 (by omega)
      · rw [I.slN i (by omega) hD] at ho'; cases ho'
    · rw [ov1 k fun i _ _ => by omega]
      exact (I.bey k h2).agree ho'

theorem Inv.beyond (I : Inv Y ops n base Ts Ss vs C0 S0 D p E C w a) (H : Tr Y fid call ops n base Ts Ss vs) : ∀ k, (Ss p).length ≤ k → C k = none := by
  intro k hk
  have := H.len p I.pN
  rcases I.bey k (by omega) with h | ⟨h, h'⟩
  · rw [h]; exact List.getElem?_eq_none hk
  · exact h'

/-- An effect. -/
theorem Inv.eff (I : Inv Y ops n base Ts Ss vs C0 S0 D p E C w a) (H : Tr Y fid call ops n base Ts Ss vs) (hnd : ∀ k, C0 k ≠ some .dummy) {j : Nat} {o : Oper} (R : Ready ops D j o) (hE : isE o = true) (hw : wantedC ops o (Ts j) = true)
    {E' : Env} {C' : Nat → Option Ob} {w' : World} {v : Value} (hEE : E.le E') (hv : VRel E' (vs j) v) (hR : Rel Y E' C' w') (hU : Upd C (Ss j) C' (Ss (j + 1)) (some (base + j))) :
    Inv Y ops n base Ts Ss vs C0 S0 (fun i => D i ∨ i = j) (j + 1) E' C' w' (a.put o.dst v) := by
  obtain ⟨hpj, hfree⟩ := R.free I H hE hw
  have hjl := R.dlt
  obtain ⟨ov1, ov2⟩ := I.over H (by omega) hpj hfree
  have hlen := H.len j (by omega)
  have keepN : ∀ i, i < ops.size → i ≠ j → ¬ D i → (Ss (j + 1))[base + i]? = (Ss j)[base + i]? := fun i hi hij hD => by
    by_cases he : (Ss (j + 1))[base + i]? = (Ss j)[base + i]?
    · exact he
    · have := (hU.u3 (base + i) (by omega) he (by simp; omega)).2
      rw [I.slN i hi hD] at this; cases this
  have keepD : ∀ i, j < i → i < ops.size → (Ss (j + 1))[base + i]? = (Ss j)[base + i]? := fun i h1 h2 => by
    rw [H.dum (j + 1) i h1 h2, H.dum j i (by omega) h2]
  refine ⟨?_, ?_, ?_, by omega, I.tmps H R hEE hv, hR, ?_, ?_, ?_, ?_, ?_, by rw [put_size]; exact I.sz, by rw [put_defers]; exact I.df⟩
  · exact fun i h => h.elim (I.dlt i) (fun h => h ▸ R.dlt)
  · intro i o' e h ho he hb
    rcases h with h | h
    · exact .inl (I.down i o' e h ho he hb)
    · subst h; rw [R.op] at ho; cases ho; exact .inl (R.after e he hb)
  · intro i o' ho hE' hw'
    rcases Nat.lt_trichotomy i j with h | h | h
    · exact ⟨fun _ => by omega, fun _ => .inl (R.anc I H.edges (effOk.spec H.effs R.op ho h hE hE'))⟩
    · exact ⟨fun _ => by omega, fun _ => .inr h⟩
    · refine ⟨fun hd => ?_, fun h' => by omega⟩
      rcases hd with hd | hd
      · exact absurd (I.anc H.edges i hd (effOk.spec H.effs ho R.op h hE' hE)) R.nd
      · omega
  · intro i h
    rcases Nat.lt_trichotomy i j with hij | hij | hij
    · have hD : D i := h.resolve_right (by omega)
      have hmx : max (j + 1) (i + 1) = j + 1 := by omega
      rw [hmx]
      have hs : Shows (C (base + i)) ((Ss j)[base + i]?) := by rw [ov2 i hij]; exact I.slD i hD
      by_cases he : (Ss (j + 1))[base + i]? = (Ss j)[base + i]?
      · rw [hU.u1 _ he, he]; exact hs
      · exact hU.u2 _ he
    · subst hij
      have hmx : max (i + 1) (i + 1) = i + 1 := by omega
      rw [hmx]
      by_cases he : (Ss (i + 1))[base + i]? = (Ss i)[base + i]?
      · rw [hU.u1 _ he, I.slN i hjl R.nd, he, H.dum i i (Nat.le_refl _) hjl]; exact .inr ⟨rfl, rfl⟩
      · exact hU.u2 _ he
    · have hD : D i := h.resolve_right (by omega)
      have hi := I.dlt i hD
      rw [hU.u1 _ (keepD i hij hi)]
      have := I.slD i hD
      have e1 : max p (i + 1) = i + 1 := by omega
      have e2 : max (j + 1) (i + 1) = i + 1 := by omega
      rw [e1] at this; rw [e2]; exact this
  · intro i hi h
    have hij : i ≠ j := fun e => h (.inr e)
    have hD : ¬ D i := fun h1 => h (.inl h1)
    rw [hU.u1 _ (keepN i hi hij hD)]; exact I.slN i hi hD
  · intro i hi h
    have hij : i ≠ j := fun e => h (.inr e)
    have hD : ¬ D i := fun h1 => h (.inl h1)
    rw [keepN i (by omega) hij hD, ov2 i (by omega)]
    rcases Nat.lt_or_ge i p with h1 | h1
    · have : max p (i + 1) = p := by omega
      rw [this]; exact I.sn i h1 hD
    · have : max p (i + 1) = i + 1 := by omega
      rw [this]
  · intro k hk
    have hs : Shows (C k) ((Ss j)[k]?) := by rw [ov1 k fun i _ _ => by omega]; exact I.bey k hk
    by_cases he : (Ss (j + 1))[k]? = (Ss j)[k]?
    · rw [hU.u1 _ he, he]; exact hs
    · exact hU.u2 _ he
  · intro k hk
    have h1 : UpdAt C0 S0 C (Ss j) k := by
      have := I.old k hk
      unfold UpdAt at this ⊢
      rw [ov1 k fun i _ _ => by omega]; exact this
    refine h1.trans ⟨hU.u1 k, hU.u2 k, fun he => hU.u3 k (by omega) he (by simp; omega)⟩ (hnd k)

/-- What an operation that is no effect looks at is as it was in the order of the text. -/
theorem Inv.agreeN (I : Inv Y ops n base Ts Ss vs C0 S0 D p E C w a) (H : Tr Y fid call ops n base Ts Ss vs) (hA : ∀ k, AgreeAt C0 S0 k) {j : Nat} {o : Oper} (R : Ready ops D j o) (hE : isE o = false) (hw : wantedC ops o (Ts j) = true) :
    ∀ k ∈ reads o (Ts j), AgreeAt C (Ss j) k := by
  have hjl := R.dlt
  have hpl := I.pN
  intro k hk o' ho'
  have hrd : (lgOf ops Ts Ss j o).reads = reads o (Ts j) := by simp [lgOf, hE]
  -- one step between, whichever it is
  have between : ∀ i oi, ops[i]? = some oi → i ≠ j → ((p ≤ i ∧ i < j) ∨ (j < i ∧ i < p)) → k ≠ base + i → (Ss (i + 1))[k]? = (Ss i)[k]? := by
    intro i oi hi hij hpos hne
    by_cases hq : isE oi = true ∧ wantedC ops oi (Ts i) = true
    · have heff : (lgOf ops Ts Ss i oi).eff = some (Ss i, Ss (i + 1)) := by simp [lgOf, hq.1]
      have hp1 := I.p1 i oi hi hq.1 hq.2
      rcases hpos with ⟨h1, h2⟩ | ⟨h1, h2⟩
      · have hnd : ¬ D i := fun h => by have := hp1.1 h; omega
        rcases H.ap i j oi o h2 hi R.op hq.2 hw with h3 | h3
        · exact absurd (R.anc I H.edges h3) hnd
        · exact (h3.1 _ _ heff k (by rw [hrd]; exact hk)).symm
      · have hD : D i := hp1.2 h2
        rcases H.ap j i o oi h1 R.op hi hw hq.2 with h3 | h3
        · exact absurd (I.anc H.edges i hD h3) R.nd
        · exact (h3.2 _ _ heff k (by rw [hrd]; exact hk)).symm
    · exact H.quiet hi hq hne
  have get : ∀ i (h : i < ops.size), ops[i]? = some (ops[i]'h) := fun i h => by simp [h]
  -- where k is no place of an operation between
  have far : (∀ i, (p ≤ i ∧ i < j) ∨ (j ≤ i ∧ i < p) → k ≠ base + i) → (Ss j)[k]? = (Ss p)[k]? := by
    intro hne
    rcases Nat.lt_or_ge j p with h | h
    · have h1 : (Ss (j + 1))[k]? = (Ss j)[k]? := H.quiet R.op (by simp [hE]) (hne j (.inr ⟨Nat.le_refl _, h⟩))
      rw [← h1]
      exact (tele Ss k (j + 1) p (by omega) fun i h2 h3 => between i _ (get i (by omega)) (by omega) (.inr ⟨by omega, h3⟩) (hne i (.inr ⟨by omega, h3⟩))).symm
    · exact tele Ss k p j h fun i h2 h3 => between i _ (get i (by omega)) (by omega) (.inl ⟨h2, h3⟩) (hne i (.inl ⟨h2, h3⟩))
  rcases Nat.lt_or_ge k base with h1 | h1
  · rw [far fun i _ => by omega]
    exact (I.old k h1).agree (hA k) o' ho'
  · rcases Nat.lt_or_ge k (base + ops.size) with h2 | h2
    · obtain ⟨i, rfl⟩ : ∃ i, k = base + i := ⟨k - base, by omega⟩
      by_cases hD : D i
      · rcases Nat.lt_or_ge i j with h3 | h3
        · have hs := I.slD i hD
          rcases Nat.lt_or_ge i p with h4 | h4
          · have e : max p (i + 1) = p := by omega
            rw [e] at hs
            rw [far fun i' _ => by omega]
            exact hs.agree ho'
          · have e : max p (i + 1) = i + 1 := by omega
            rw [e] at hs
            rw [tele Ss _ (i + 1) j (by omega) fun i' h5 h6 => between i' _ (get i' (by omega)) (by omega) (.inl ⟨by omega, h6⟩) (by omega)]
            exact hs.agree ho'
        · right; exact H.dum j i h3 (by omega)
      · rw [I.slN i (by omega) hD] at ho'; cases ho'
    · rw [far fun i _ => by omega]
      exact (I.bey k h2).agree ho'

end
end Go.Proofs.XVai
