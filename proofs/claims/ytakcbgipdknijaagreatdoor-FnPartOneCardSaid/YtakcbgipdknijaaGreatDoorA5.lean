/- The canonical machine on which the functions are run, contracts of functions, and what they mean, part 5 of 6. Conditions: none. -/
import Derived.Test.YtakcbgipdknijaaGreatDoorA4
set_option linter.all false
section
namespace Go.Proofs.X
open Go Go.Proofs.XVai Go.Proofs Go.Proofs.XN
set_option linter.unusedVariables false
set_option linter.unusedSimpArgs false
set_option maxHeartbeats 4000000
set_option maxRecDepth 100000

/-! ### objects that belong together; places in their list may be empty -/
abbrev Os := List (Option (Nat × Ob))
def ids (os : Os) : List Nat := os.filterMap fun x => x.map Prod.fst
def Hv (S : St) (os : Os) : Prop := (∀ q o, some (q, o) ∈ os → S[q]? = some o) ∧ ∀ (i j : Nat) (q : Nat) (o o' : Ob), os[i]? = some (some (q, o)) → os[j]? = some (some (q, o')) → i = j
structure Fo2 (S S' : St) (a b : List Nat) : Prop where
  le : S.length ≤ S'.length
  fr : ∀ j, j < S.length → j ∉ a → S'[j]? = S[j]?
  nw : ∀ j, j ∈ b → S.length ≤ j ∨ j ∈ a
structure Gh (S0 : St) (a : List Nat) (S : St) (os : Os) : Prop where
  own : Hv S os
  fo : Fo2 S0 S a (ids os)
theorem ids_mem {os : Os} {q : Nat} : q ∈ ids os ↔ ∃ o, some (q, o) ∈ os := by
  unfold ids
  rw [List.mem_filterMap]
  constructor
  · rintro ⟨x, hx, h⟩
    cases x with
    | none => simp at h
    | some p => obtain ⟨a, o⟩ := p; simp at h; subst h; exact ⟨o, hx⟩
  · rintro ⟨o, h⟩
    exact ⟨_, h, rfl⟩
theorem Hv.get {S : St} {os : Os} (h : Hv S os) (i : Nat) {q : Nat} {o : Ob} (hi : os[i]? = some (some (q, o))) : S[q]? = some o := h.1 q o (List.mem_of_getElem? hi)
theorem Hv.ne {S : St} {os : Os} (h : Hv S os) (i j : Nat) {q q' : Nat} {o o' : Ob} (hi : os[i]? = some (some (q, o))) (hj : os[j]? = some (some (q', o'))) (hij : i ≠ j := by decide) : q ≠ q' := by
  rintro rfl
  exact hij (h.2 i j _ _ _ hi hj)
theorem Hv.lt {S : St} {os : Os} (h : Hv S os) {q : Nat} (hq : q ∈ ids os) : q < S.length := by
  obtain ⟨o, ho⟩ := ids_mem.1 hq
  exact (List.getElem?_eq_some_iff.1 (h.1 q o ho)).1
theorem Hv.app {S L : St} {os : Os} (h : Hv S os) : Hv (S ++ L) os := ⟨fun q o hq => get_old (h.1 q o hq), h.2⟩
theorem Gh.start {S : St} {os : Os} (h : Hv S os) : Gh S (ids os) S os := ⟨h, Nat.le_refl _, fun _ _ _ => rfl, fun _ hj => .inr hj⟩
theorem Gh.app {S0 S L : St} {a : List Nat} {os : Os} (h : Gh S0 a S os) : Gh S0 a (S ++ L) os :=
  ⟨h.own.app, by have := h.fo.le; simp; omega, fun j hj hn => by rw [List.getElem?_append_left (by have := h.fo.le; omega)]; exact h.fo.fr j hj hn, h.fo.nw⟩
theorem ids_set {os : Os} {i : Nat} {x : Option (Nat × Ob)} {j : Nat} (h : j ∈ ids (os.set i x)) : j ∈ ids os ∨ ∃ o, x = some (j, o) := by
  obtain ⟨o, ho⟩ := ids_mem.1 h
  rcases List.mem_or_eq_of_mem_set ho with ho | ho
  · exact .inl (ids_mem.2 ⟨o, ho⟩)
  · exact .inr ⟨o, ho.symm⟩
theorem Gh.upd {S0 S : St} {a : List Nat} {os : Os} (h : Gh S0 a S os) (i : Nat) {q : Nat} {o o' o2 : Ob} (hi : os[i]? = some (some (q, o))) (ho : o2 = o') : Gh S0 a (S.set q o2) (os.set i (some (q, o'))) := by
  subst ho
  have hg := h.own.get i hi
  have hq := (List.getElem?_eq_some_iff.1 hg).1
  have hm : q ∈ ids os := ids_mem.2 ⟨o, List.mem_of_getElem? hi⟩
  refine ⟨⟨fun p b hb => ?_, fun j k p b c hj hk => ?_⟩, by simpa using h.fo.le, fun j hj hn => ?_, fun j hj => ?_⟩
  · obtain ⟨j, hj⟩ := List.mem_iff_getElem?.1 hb
    rw [List.getElem?_set] at hj
    split at hj
    · split at hj
      · cases hj; simp [hq]
      · cases hj
    · next hij =>
      rw [List.getElem?_set_ne (h.own.ne i j hi hj hij)]
      exact h.own.get j hj
  · rw [List.getElem?_set] at hj hk
    split at hj
    · next e1 =>
      split at hk
      · next e2 => rw [← e1, ← e2]
      · next e2 =>
        split at hj
        · cases hj; exact absurd rfl (h.own.ne i k hi hk e2)
        · cases hj
    · next e1 =>
      split at hk
      · split at hk
        · cases hk; exact absurd rfl (h.own.ne i j hi hj e1)
        · cases hk
      · exact h.own.2 j k p b c hj hk
  · rw [List.getElem?_set_ne]
    · exact h.fo.fr j hj hn
    · rintro rfl
      rcases h.fo.nw _ hm with h1 | h1
      · omega
      · exact hn h1
  · rcases ids_set hj with hj | ⟨o, hj⟩
    · exact h.fo.nw j hj
    · cases hj; exact h.fo.nw _ hm
theorem Gh.add {S0 S : St} {a : List Nat} {os : Os} (h : Gh S0 a S os) (i : Nat) {q : Nat} {o o2 : Ob} (hq : S0.length ≤ q) (hm : q ∉ ids os) (hS : S[q]? = some o2) (ho : o2 = o) : Gh S0 a S (os.set i (some (q, o))) := by
  subst ho
  refine ⟨⟨fun p b hb => ?_, fun j k p b c hj hk => ?_⟩, h.fo.le, h.fo.fr, fun j hj => ?_⟩
  · rcases List.mem_or_eq_of_mem_set hb with hb | hb
    · exact h.own.1 p b hb
    · cases hb; exact hS
  · rw [List.getElem?_set] at hj hk
    split at hj
    · next e1 =>
      split at hk
      · next e2 => rw [← e1, ← e2]
      · split at hj
        · cases hj; exact absurd (ids_mem.2 ⟨_, List.mem_of_getElem? hk⟩) hm
        · cases hj
    · split at hk
      · split at hk
        · cases hk; exact absurd (ids_mem.2 ⟨_, List.mem_of_getElem? hj⟩) hm
        · cases hk
      · exact h.own.2 j k p b c hj hk
  · rcases ids_set hj with hj | ⟨o, hj⟩
    · exact h.fo.nw j hj
    · cases hj; exact .inl hq
theorem Gh.push {S0 S : St} {a : List Nat} {os : Os} (h : Gh S0 a S os) {q : Nat} {o o2 : Ob} (hq : S0.length ≤ q) (hm : q ∉ ids os) (hS : S[q]? = some o2) (ho : o2 = o) : Gh S0 a S (os ++ [some (q, o)]) := by
  subst ho
  have hc : ∀ {i p : Nat} {b : Ob}, (os ++ [some (q, o2)])[i]? = some (some (p, b)) → os[i]? = some (some (p, b)) ∨ (i = os.length ∧ p = q ∧ b = o2) := by
    intro i p b hi
    rw [List.getElem?_append] at hi
    split at hi
    · exact .inl hi
    · next hl =>
      have : i - os.length = 0 := by
        cases he : i - os.length with
        | zero => rfl
        | succ n => rw [he] at hi; simp at hi
      rw [this] at hi
      simp at hi
      exact .inr ⟨by omega, hi.1.symm, hi.2.symm⟩
  refine ⟨⟨fun p b hb => ?_, fun j k p b c hj hk => ?_⟩, h.fo.le, h.fo.fr, fun j hj => ?_⟩
  · rw [List.mem_append, List.mem_singleton] at hb
    rcases hb with hb | hb
    · exact h.own.1 p b hb
    · cases hb; exact hS
  · rcases hc hj with u1 | ⟨e1, e2, e3⟩
    · rcases hc hk with v1 | ⟨f1, f2, f3⟩
      · exact h.own.2 j k p b c u1 v1
      · subst f2; exact absurd (ids_mem.2 ⟨_, List.mem_of_getElem? u1⟩) hm
    · rcases hc hk with v1 | ⟨f1, f2, f3⟩
      · subst e2; exact absurd (ids_mem.2 ⟨_, List.mem_of_getElem? v1⟩) hm
      · omega
  · obtain ⟨b, hb⟩ := ids_mem.1 hj
    rw [List.mem_append, List.mem_singleton] at hb
    rcases hb with hb | hb
    · exact h.fo.nw j (ids_mem.2 ⟨b, hb⟩)
    · cases hb; exact .inl hq
theorem Gh.nil {S0 S : St} {a : List Nat} {os : Os} (h : Gh S0 a S os) (i : Nat) : Gh S0 a S (os.set i none) := by
  refine ⟨⟨fun p b hb => ?_, fun j k p b c hj hk => ?_⟩, h.fo.le, h.fo.fr, fun j hj => ?_⟩
  · rcases List.mem_or_eq_of_mem_set hb with hb | hb
    · exact h.own.1 p b hb
    · cases hb
  · rw [List.getElem?_set] at hj hk
    split at hj
    · split at hj <;> cases hj
    · split at hk
      · split at hk <;> cases hk
      · exact h.own.2 j k p b c hj hk
  · rcases ids_set hj with hj | ⟨o, hj⟩
    · exact h.fo.nw j hj
    · cases hj
theorem Gh.loc {S0 S : St} {a : List Nat} {os : Os} (h : Gh S0 a S os) {j : Nat} {o : Ob} (hj : S0.length ≤ j) (hn : j ∉ ids os) : Gh S0 a (S.set j o) os := by
  refine ⟨⟨fun q b hb => ?_, h.own.2⟩, by simpa using h.fo.le, fun i hi hm => ?_, h.fo.nw⟩
  · rw [List.getElem?_set_ne (fun e => by subst e; exact hn (ids_mem.2 ⟨b, hb⟩))]
    exact h.own.1 q b hb
  · rw [List.getElem?_set_ne (by omega)]
    exact h.fo.fr i hi hm
theorem Fo2.trans {S S1 S2 : St} {a b c : List Nat} (h : Fo2 S S1 a b) (h' : Fo2 S1 S2 b c) : Fo2 S S2 a c := by
  have l1 := h.le
  have l2 := h'.le
  refine ⟨by omega, fun j hj hn => ?_, fun j hm => ?_⟩
  · rw [h'.fr j (by omega) fun hm => ?_, h.fr j hj hn]
    rcases h.nw _ hm with h1 | h1
    · omega
    · exact hn h1
  · rcases h'.nw _ hm with h1 | h1
    · exact .inl (by omega)
    · exact h.nw _ h1
theorem Gh.call {S0 S S1 : St} {a : List Nat} {os os1 : Os} (h : Gh S0 a S os) (h' : Gh S (ids os) S1 os1) : Gh S0 a S1 os1 := ⟨h'.own, h.fo.trans h'.fo⟩
theorem Gh.old {S S1 : St} {a : List Nat} {os1 : Os} (h : Gh S a S1 os1) {j : Nat} (hj : j < S.length) (hn : j ∉ a) : S1[j]? = S[j]? ∧ j ∉ ids os1 :=
  ⟨h.fo.fr j hj hn, fun hm => by
    rcases h.fo.nw _ hm with h1 | h1
    · omega
    · exact hn h1⟩
theorem Hv.behind {S : St} {os : Os} (h : Hv S os) {j : Nat} (hj : S.length ≤ j) : j ∉ ids os := fun hm => by
  have := h.lt hm
  omega
end Go.Proofs.X
end
section
namespace Go.Proofs.X
open Go Go.Proofs.XVai Go.Proofs Go.Proofs.XN
set_option linter.unusedVariables false
set_option linter.unusedSimpArgs false
set_option maxHeartbeats 4000000
set_option maxRecDepth 100000

structure Ki where
  r : Nat
  h : Nat
  es : List (HV × HV)
structure Ic where
  m : Nat
  n : Nat
  q : Nat
  w : Option Nat
  s : Option Nat
  v0 : Option Nat
  v1 : Option Nat
  v2 : Option Nat
  p : Option Nat
  ks : List Ki
def slo : Option Nat → Nat → HV
  | none, _ => .nils
  | some q, n => .sl q n
abbrev colO (o : Option Nat) (rows : List (List HV)) : Option (Nat × Ob) := o.map fun q => (q, .cells true rows)
abbrev imrow (C : Cx) (m : Sm) (c : Ic) : List HV := [L [C.a, C.b, C.c], L C.hs, L C.ds, .lst (pls C.ss 0), L (setsL C.ls C.ss.all), I C.bad, .map c.m, slo c.p m.posts.length, .sl c.n m.nums.length, slo c.w m.ws.length, slo c.s m.ss.length, .sl c.q 3, .bool m.ended]
abbrev ivrow (m : Sm) (c : Ic) : List (List HV) := [[slo c.v0 m.v0.length], [slo c.v1 m.v1.length], [slo c.v2 m.v2.length]]
abbrev kent (x : Kx) (i : Ki) : HV × HV := (.agg [I x.maker, I x.after], .ptr i.r 1 0 0)
def kmap : List Kx → List Ki → List (HV × HV)
  | x :: l, i :: k => kent x i :: kmap l k
  | _, _ => []
abbrev krec (x : Kx) (i : Ki) : Option (Nat × Ob) := some (i.r, .cells false [[I x.level, I x.o1, I x.o2, .bool x.used, .map i.h]])
abbrev khol (i : Ki) : Option (Nat × Ob) := some (i.h, .map i.es)
def kobs : List Kx → List Ki → Os
  | x :: l, i :: k => krec x i :: khol i :: kobs l k
  | _, _ => []
abbrev ios (C : Cx) (k : Nat) (m : Sm) (c : Ic) : Os := [some (k, .cells false [imrow C m c]), some (c.q, .cells false (ivrow m c)), some (c.n, .cells false (m.nums.map irow)), colO c.w (m.ws.map wrow), colO c.s (m.ss.map wrow),
  colO c.v0 (m.v0.map wdrow), colO c.v1 (m.v1.map wdrow), colO c.v2 (m.v2.map wdrow), colO c.p (m.posts.map porow), some (c.m, .map (kmap m.keys c.ks))] ++ kobs m.keys c.ks
def HoldOk (x : Kx) (i : Ki) : Prop := (∀ h : Int, mapGet (I h) i.es = some (if hasG x.held h then some (.bool true) else none)) ∧ i.es.all (fun p => isI p.1) = true
def Holds : List Kx → List Ki → Prop
  | x :: l, i :: k => HoldOk x i ∧ Holds l k
  | [], [] => True
  | _, _ => False
structure ISide (m : Sm) (c : Ic) : Prop where
  w : c.w = none → m.ws = []
  s : c.s = none → m.ss = []
  v0 : c.v0 = none → m.v0 = []
  v1 : c.v1 = none → m.v1 = []
  v2 : c.v2 = none → m.v2 = []
  p : c.p = none → m.posts = []
  k : Holds m.keys c.ks
structure ISim (C : Cx) (S : St) (k : Nat) (m : Sm) (c : Ic) : Prop where
  own : Hv S (ios C k m c)
  side : ISide m c
theorem ISim.app {C : Cx} {S L : St} {k : Nat} {m : Sm} {c : Ic} (h : ISim C S k m c) : ISim C (S ++ L) k m c := ⟨h.own.app, h.side⟩
theorem ISim.box {C : Cx} {S : St} {k : Nat} {m : Sm} {c : Ic} (h : ISim C S k m c) : S[k]? = some (.cells false [imrow C m c]) := h.own.get 0 rfl
theorem ISim.vs {C : Cx} {S : St} {k : Nat} {m : Sm} {c : Ic} (h : ISim C S k m c) : S[c.q]? = some (.cells false (ivrow m c)) := h.own.get 1 rfl
def Isd (C : Cx) (S : St) (k : Nat) (m : Sm) (c : Ic) (m' : Sm) (v : HV) (S' : St) : Prop := v = .tup [] ∧ ∃ c', Gh S (ids (ios C k m c)) S' (ios C k m' c') ∧ ISide m' c'
def Isp (C : Cx) (S : St) (k : Nat) (m : Sm) (c : Ic) (m' : Sm) (S' : St) : Prop := ∃ c', Gh S (ids (ios C k m c)) S' (ios C k m' c') ∧ ISide m' c' ∧ c'.p = c.p
theorem nb2 {S : St} {os : Os} (h : Hv S os) {i j : Nat} {x : Option (Nat × Ob)} (hj : S.length ≤ j) (hx : ∀ o, x ≠ some (j, o)) : j ∉ ids (os.set i x) := fun hm => by
  rcases ids_set hm with hm | ⟨o, e⟩
  · have := h.lt hm; omega
  · exact hx o e
theorem k_impl_get (C : Cx) (k : Nat) (m : Sm) (c : Ic) (h : Int) (w : Wd) (S : St) (hh : h ≤ 2) (hS : ISim C S k m c) (z0 : m.v0.length ≤ 1000000) (z1 : m.v1.length ≤ 1000000) (z2 : m.v2.length ≤ 1000000) :
    EvR Y impl_parted_get [.ptr k 1 0 0, I h, .agg (wdrow w)] S (fun v S' => v = .tup [] ∧ Isp C S k m c (seesS m h w) S') := by
  have fB := hS.box
  have fV := hS.vs
  have hkl : k < S.length := (List.getElem?_eq_some_iff.1 fB).1
  have hvl : c.q < S.length := (List.getElem?_eq_some_iff.1 fV).1
  have n3 : k ≠ c.q := hS.own.ne 0 1 rfl rfl
  have n3' := Ne.symm n3
  have eh := fun S => k_impl_isHost h S
  by_cases hc0 : 0 ≤ h
  · have hin : inB h 0 2 = true := by simp [inB]; omega
    simp only [hin] at eh
    by_cases hc1 : h = w.frm
    · have hb : (h != w.frm) = false := by simpa using hc1
      have e : seesS m h w = m := by unfold seesS; rw [if_neg (by omega)]
      rw [e]
      refine E_startR (h := ?_)
      repeat' (first | refine c0 ?_ | refine c7 ?_ | refine d2 ?_ | refine d0 ?_ | refine d4 ?_ | refine k0 (he := (by first | exact eh _)) (hk := ?_) | refine b1 (hk := ?_) | refine a1 (hk := ?_) | refine a5 (hk := ?_) | refine b5 (hk := ?_) | refine u6 (hk := ?_))
      exact ⟨_, _, rKeepN, rfl, c, (Gh.start hS.own).app, hS.side, rfl⟩
    · have hb : (h != w.frm) = true := by simpa using hc1
      obtain ⟨j, rfl⟩ := Int.eq_ofNat_of_zero_le hc0
      have e : seesS m j w = m.see j w := by unfold seesS; rw [if_pos ⟨hc0, hc1⟩]; simp
      rw [e]
      have hj3 : j = 0 ∨ j = 1 ∨ j = 2 := by omega
      obtain ⟨vo, vs, hg, hvo, hl, hns⟩ : ∃ (vo : Option Nat) (vs : List Wd), (ivrow m c)[j]? = some [slo vo vs.length] ∧ (∀ q, vo = some q → S[q]? = some (.cells true (vs.map wdrow)) ∧ k ≠ q ∧ c.q ≠ q) ∧ vs.length ≤ 1000000 ∧ (vo = none → vs = []) ∧ ((j = 0 ∧ vo = c.v0 ∧ vs = m.v0) ∨ (j = 1 ∧ vo = c.v1 ∧ vs = m.v1) ∨ (j = 2 ∧ vo = c.v2 ∧ vs = m.v2)) := by
        rcases hj3 with rfl | rfl | rfl
        · exact ⟨_, _, rfl, fun q hq => ⟨hS.own.get 5 (by simp [hq]), hS.own.ne 0 5 (o' := .cells true (m.v0.map wdrow)) rfl (by simp [hq]) (by decide), hS.own.ne 1 5 (o' := .cells true (m.v0.map wdrow)) rfl (by simp [hq]) (by decide)⟩, z0, hS.side.v0, .inl ⟨rfl, rfl, rfl⟩⟩
        · exact ⟨_, _, rfl, fun q hq => ⟨hS.own.get 6 (by simp [hq]), hS.own.ne 0 6 (o' := .cells true (m.v1.map wdrow)) rfl (by simp [hq]) (by decide), hS.own.ne 1 6 (o' := .cells true (m.v1.map wdrow)) rfl (by simp [hq]) (by decide)⟩, z1, hS.side.v1, .inr (.inl ⟨rfl, rfl, rfl⟩)⟩
        · exact ⟨_, _, rfl, fun q hq => ⟨hS.own.get 7 (by simp [hq]), hS.own.ne 0 7 (o' := .cells true (m.v2.map wdrow)) rfl (by simp [hq]) (by decide), hS.own.ne 1 7 (o' := .cells true (m.v2.map wdrow)) rfl (by simp [hq]) (by decide)⟩, z2, hS.side.v2, .inr (.inr ⟨rfl, rfl, rfl⟩)⟩
      obtain ⟨hno, h3⟩ := hns
      have lv : (vs.map wdrow).length = vs.length := by simp
      have w7 := wd7 vs
      cases vo with
      | none =>
        have hv0 := hno rfl
        subst hv0
        refine E_startR (h := ?_)
        repeat' (first | refine c0 ?_ | refine c7 ?_ | refine d2 ?_ | refine d4 ?_ | refine d3' (h := ?_) | refine d4' ?_ | refine k0 (he := (by first | exact eh _)) (hk := ?_) | refine b1 (hk := ?_) | refine a1 (hk := ?_) | refine a5 (hk := ?_) | refine b5 (hk := ?_) | refine p1' (hk := ?_) | refine b4' (hk := ?_) | refine e5' (hk := ?_) | refine f5' (hk := ?_) | refine f9' (hk := ?_) | refine b7' (hk := ?_) | refine u5 (hk := ?_))
        obtain ⟨cm, cn, cq, cw, cs, o0, o1, o2, cp, cks⟩ := c
        obtain ⟨sw, ss', s0, s1, s2, sp, sk⟩ := hS.side
        simp only at h3 hvl sw ss' s0 s1 s2 sp sk
        rcases h3 with ⟨rfl, rfl, hvs⟩ | ⟨rfl, rfl, hvs⟩ | ⟨rfl, rfl, hvs⟩
        · refine ⟨_, _, rKeepN, rfl, ⟨cm, cn, cq, cw, cs, some (S.length + 17), o1, o2, cp, cks⟩, ?_, ⟨sw, ss', (fun h => by cases h), s1, s2, sp, sk⟩, rfl⟩
          exact ((Gh.start hS.own).upd 1 (o' := .cells false (ivrow (m.see 0 w) ⟨cm, cn, cq, cw, cs, some (S.length + 17), o1, o2, cp, cks⟩)) rfl (show Ob.cells false [[.sl (S.length + 17) 1], [slo o1 m.v1.length], [slo o2 m.v2.length]] = _ by simp [Sm.see, slo, ← hvs])).app.add 5 (q := S.length + 17) (o := .cells true ((m.v0 ++ [w]).map wdrow)) (by omega) (nb2 hS.own (Nat.le_add_right _ _) fun o e => by simp only [Option.some.injEq, Prod.mk.injEq] at e; omega) (get_ownL (by simp) rfl) (by rw [← hvs]; rfl)
        · refine ⟨_, _, rKeepN, rfl, ⟨cm, cn, cq, cw, cs, o0, some (S.length + 17), o2, cp, cks⟩, ?_, ⟨sw, ss', s0, (fun h => by cases h), s2, sp, sk⟩, rfl⟩
          exact ((Gh.start hS.own).upd 1 (o' := .cells false (ivrow (m.see 1 w) ⟨cm, cn, cq, cw, cs, o0, some (S.length + 17), o2, cp, cks⟩)) rfl (show Ob.cells false [[slo o0 m.v0.length], [.sl (S.length + 17) 1], [slo o2 m.v2.length]] = _ by simp [Sm.see, slo, ← hvs])).app.add 6 (q := S.length + 17) (o := .cells true ((m.v1 ++ [w]).map wdrow)) (by omega) (nb2 hS.own (Nat.le_add_right _ _) fun o e => by simp only [Option.some.injEq, Prod.mk.injEq] at e; omega) (get_ownL (by simp) rfl) (by rw [← hvs]; rfl)
        · refine ⟨_, _, rKeepN, rfl, ⟨cm, cn, cq, cw, cs, o0, o1, some (S.length + 17), cp, cks⟩, ?_, ⟨sw, ss', s0, s1, (fun h => by cases h), sp, sk⟩, rfl⟩
          exact ((Gh.start hS.own).upd 1 (o' := .cells false (ivrow (m.see 2 w) ⟨cm, cn, cq, cw, cs, o0, o1, some (S.length + 17), cp, cks⟩)) rfl (show Ob.cells false [[slo o0 m.v0.length], [slo o1 m.v1.length], [.sl (S.length + 17) 1]] = _ by simp [Sm.see, slo, ← hvs])).app.add 7 (q := S.length + 17) (o := .cells true ((m.v2 ++ [w]).map wdrow)) (by omega) (nb2 hS.own (Nat.le_add_right _ _) fun o e => by simp only [Option.some.injEq, Prod.mk.injEq] at e; omega) (get_ownL (by simp) rfl) (by rw [← hvs]; rfl)
      | some vq =>
        obtain ⟨fj, n1, n2⟩ := hvo vq rfl
        have n1' := Ne.symm n1
        have n2' := Ne.symm n2
        have hjl : vq < S.length := (List.getElem?_eq_some_iff.1 fj).1
        refine E_startR (h := ?_)
        repeat' (first | refine c0 ?_ | refine c7 ?_ | refine d2 ?_ | refine d4 ?_ | refine d3' (h := ?_) | refine d4' ?_ | refine k0 (he := (by first | exact eh _)) (hk := ?_) | refine b1 (hk := ?_) | refine a1 (hk := ?_) | refine a5 (hk := ?_) | refine b5 (hk := ?_) | refine b4' (hk := ?_) | refine e5' (hk := ?_) | refine f5' (hk := ?_) | refine f9' (hk := ?_) | refine b7' (hk := ?_) | refine p0' (hk := ?_) | refine u5 (hk := ?_))
        obtain ⟨cm, cn, cq, cw, cs, o0, o1, o2, cp, cks⟩ := c
        obtain ⟨sw, ss', s0, s1, s2, sp, sk⟩ := hS.side
        simp only at h3 hvl sw ss' s0 s1 s2 sp sk
        rcases h3 with ⟨rfl, rfl, rfl⟩ | ⟨rfl, rfl, rfl⟩ | ⟨rfl, rfl, rfl⟩
        · refine ⟨_, _, rKeepN, rfl, ⟨cm, cn, cq, cw, cs, some vq, o1, o2, cp, cks⟩, ?_, ⟨sw, ss', (fun h => by cases h), s1, s2, sp, sk⟩, rfl⟩
          exact (((Gh.start hS.own).upd 5 (o' := .cells true ((m.v0 ++ [w]).map wdrow)) rfl (show Ob.cells true (m.v0.map wdrow ++ [wdrow w]) = _ by simp)).upd 1 (o' := .cells false (ivrow (m.see 0 w) ⟨cm, cn, cq, cw, cs, some vq, o1, o2, cp, cks⟩)) rfl (show Ob.cells false [[.sl vq (m.v0.length + 1)], [slo o1 m.v1.length], [slo o2 m.v2.length]] = _ by simp [Sm.see, slo])).app
        · refine ⟨_, _, rKeepN, rfl, ⟨cm, cn, cq, cw, cs, o0, some vq, o2, cp, cks⟩, ?_, ⟨sw, ss', s0, (fun h => by cases h), s2, sp, sk⟩, rfl⟩
          exact (((Gh.start hS.own).upd 6 (o' := .cells true ((m.v1 ++ [w]).map wdrow)) rfl (show Ob.cells true (m.v1.map wdrow ++ [wdrow w]) = _ by simp)).upd 1 (o' := .cells false (ivrow (m.see 1 w) ⟨cm, cn, cq, cw, cs, o0, some vq, o2, cp, cks⟩)) rfl (show Ob.cells false [[slo o0 m.v0.length], [.sl vq (m.v1.length + 1)], [slo o2 m.v2.length]] = _ by simp [Sm.see, slo])).app
        · refine ⟨_, _, rKeepN, rfl, ⟨cm, cn, cq, cw, cs, o0, o1, some vq, cp, cks⟩, ?_, ⟨sw, ss', s0, s1, (fun h => by cases h), sp, sk⟩, rfl⟩
          exact (((Gh.start hS.own).upd 7 (o' := .cells true ((m.v2 ++ [w]).map wdrow)) rfl (show Ob.cells true (m.v2.map wdrow ++ [wdrow w]) = _ by simp)).upd 1 (o' := .cells false (ivrow (m.see 2 w) ⟨cm, cn, cq, cw, cs, o0, o1, some vq, cp, cks⟩)) rfl (show Ob.cells false [[slo o0 m.v0.length], [slo o1 m.v1.length], [.sl vq (m.v2.length + 1)]] = _ by simp [Sm.see, slo])).app
  · have hin : inB h 0 2 = false := by simp [inB]; omega
    simp only [hin] at eh
    have e : seesS m h w = m := by unfold seesS; rw [if_neg (by omega)]
    rw [e]
    refine E_startR (h := ?_)
    repeat' (first | refine c0 ?_ | refine c7 ?_ | refine d2 ?_ | refine d0 ?_ | refine d4 ?_ | refine a0 (hk := ?_) | refine k0 (he := (by first | exact eh _)) (hk := ?_) | refine b1 (hk := ?_) | refine a2 (hk := ?_) | refine a5 (hk := ?_) | refine d7 (hf := ?_))
    exact ⟨_, _, rKeepN, rfl, c, (Gh.start hS.own).app, hS.side, rfl⟩
end Go.Proofs.X
end
section
namespace Go.Proofs.X
open Go Go.Proofs.XVai Go.Proofs Go.Proofs.XN
set_option linter.unusedVariables false
set_option linter.unusedSimpArgs false
set_option maxHeartbeats 4000000
set_option maxRecDepth 100000

section
variable {fid : Nat} {T : Tm} {S S' : St} {K : Tm → St → Prop} {ops : Array Oper} {l : List Oper} {dst : Option Tmp} {ty : TypeId} {pos : String} {after : Array Edge} {g0 : Option (Nat × Bool)} {bs ix : Nat} {es : List (Nat × (Nat → Prop))} {ns : List (Nat × Nat)}
theorem lkD {t kt el q : Nat} {x i : Operand} {ti tk te : TI} {key v z : HV} {me : List (HV × HV)} {r : Option HV} (hg : wantG ops g0 T = true := by rfl) (h1 : Y.tab t = some ti := by rfl) (h2 : ti.sh = .map kt el := by rfl) (h3 : Y.tab kt = some tk := by rfl) (h4 : Y.tab el = some te := by rfl) (hx : ev T x = .map q := by rfl) (hi : ev T i = key := by rfl)
    (hS : S[q]? = some (.map me)) (hget : mapGet key me = some r) (hz : zeroOf te = some z := by rfl) (hb : keyB tk key = true := by rfl) (hb' : me.all (fun p => keyB tk p.1) = true) (hv : r.getD z = v) (hc : Ne' ops es ix q)
    (hk : DW Y fid ops bs (ix + 1) es ((ix, q) :: ns) l (put T dst v) S K) : DW Y fid ops bs ix es ns (⟨dst, .lookup t x i false, ty, pos, after, g0⟩ :: l) T S K := by
  refine DW_read hg (v := v) (q := q) ?_ rfl (by simp only [rdl, reads, hx]) hc hk
  simp only [cop, h1, h2, h3, h4, hx, hi, hS, hget, hz, hb, hb', Bool.true_and, if_true, Bool.false_eq_true, if_false, hv]
theorem muD {t kt el q : Nat} {m i y : Operand} {ti tk : TI} {key v : HV} {me me' : List (HV × HV)} (hg : wantG ops g0 T = true := by rfl) (h1 : Y.tab t = some ti := by rfl) (h2 : ti.sh = .map kt el := by rfl) (h3 : Y.tab kt = some tk := by rfl) (hx : ev T m = .map q := by rfl) (hi : ev T i = key := by rfl) (hy : ev T y = v := by rfl)
    (hS : S[q]? = some (.map me)) (hset : mapSet key v me = some me') (hb : keyB tk key = true := by rfl) (hb' : me.all (fun p => keyB tk p.1) = true) (h10 : S.set q (.map me') = S') (hc : Nc ops ns ix (fun j => j = q))
    (hk : DW Y fid ops bs (ix + 1) ((ix, fun j => j = q) :: es) ns l (put T dst (.tup [])) S' K) : DW Y fid ops bs ix es ns (⟨dst, .mapUpdate t m i y, ty, pos, after, g0⟩ :: l) T S K := by
  refine DW_eff hg (v := .tup []) (q := q) ⟨0, ?_⟩ rfl hc h10 hk
  simp only [cop, h1, h2, h3, hx, hi, hy, hS, hset, hb, hb', Bool.true_and, if_true]
theorem muO {t kt el q : Nat} {m i y : Operand} {ti tk : TI} {key v : HV} {me me' : List (HV × HV)} (hg : wantG ops g0 T = true := by rfl) (h1 : Y.tab t = some ti := by rfl) (h2 : ti.sh = .map kt el := by rfl) (h3 : Y.tab kt = some tk := by rfl) (hx : ev T m = .map q := by rfl) (hi : ev T i = key := by rfl) (hy : ev T y = v := by rfl)
    (hS : S[q]? = some (.map me)) (hset : mapSet key v me = some me') (hb : keyB tk key = true := by rfl) (hb' : me.all (fun p => keyB tk p.1) = true) (h10 : S.set q (.map me') = S')
    (hk : OW Y fid ops none l (put T dst (.tup [])) S' K) : OW Y fid ops none (⟨dst, .mapUpdate t m i y, ty, pos, after, g0⟩ :: l) T S K := by
  refine ⟨A_op hg (v := .tup []) ?_ hk.of⟩
  subst h10
  simp only [cop, h1, h2, h3, hx, hi, hy, hS, hset, hb, hb', Bool.true_and, if_true]
theorem mmD {t : TypeId} {S0 L L' : St} {b' j : Nat} (hg : wantG ops g0 T = true := by rfl) (hb' : bs = S0.length + b' := by first | rfl | exact hbs) (hj : b' + ix = j := by first | (simp only [Nat.reduceAdd]; rfl) | rfl) (hL : L.set j (.map []) = L' := by rfl)
    (hk : DW Y fid ops bs (ix + 1) es ns l (put T dst (.map (S0.length + j))) (S0 ++ L') K) : DW Y fid ops bs ix es ns (⟨dst, .makeMap t none, ty, pos, after, g0⟩ :: l) T (S0 ++ L) K := by
  subst hb'; subst hj; subst hL
  have q : S0.length + b' + ix = S0.length + (b' + ix) := by omega
  refine DW_new hg (o := .map []) (v := .map (S0.length + (b' + ix))) ?_ rfl rfl trivial (by rw [q, set_own]; exact hk)
  simp only [cop, newOb, q]
end
theorem holds_len : ∀ {l : List Kx} {ks : List Ki}, Holds l ks → l.length = ks.length
  | [], [], _ => rfl
  | x :: l, i :: ks, h => by simp [holds_len h.2]
  | [], _ :: _, h => h.elim
  | _ :: _, [], h => h.elim
theorem holds_at : ∀ {l : List Kx} {ks : List Ki} {n : Nat} {x : Kx} {i : Ki}, Holds l ks → l[n]? = some x → ks[n]? = some i → HoldOk x i
  | x :: l, i :: ks, 0, y, j, h, h1, h2 => by simp at h1 h2; subst h1; subst h2; exact h.1
  | x :: l, i :: ks, n + 1, y, j, h, h1, h2 => holds_at h.2 (by simpa using h1) (by simpa using h2)
theorem holds_app : ∀ {l : List Kx} {ks : List Ki} {x : Kx} {i : Ki}, Holds l ks → HoldOk x i → Holds (l ++ [x]) (ks ++ [i])
  | [], [], x, i, _, h2 => ⟨h2, trivial⟩
  | y :: l, j :: ks, x, i, h, h2 => ⟨h.1, holds_app h.2 h2⟩
  | [], _ :: _, _, _, h, _ => h.elim
  | _ :: _, [], _, _, h, _ => h.elim
theorem kmap_app : ∀ {l : List Kx} {ks : List Ki} {x : Kx} {i : Ki}, l.length = ks.length → kmap (l ++ [x]) (ks ++ [i]) = kmap l ks ++ [kent x i]
  | [], [], _, _, _ => rfl
  | y :: l, j :: ks, x, i, h => by simp [kmap, kmap_app (l := l) (ks := ks) (by simpa using h)]
  | [], _ :: _, _, _, h => by simp at h
  | _ :: _, [], _, _, h => by simp at h
theorem kobs_app : ∀ {l : List Kx} {ks : List Ki} {x : Kx} {i : Ki}, l.length = ks.length → kobs (l ++ [x]) (ks ++ [i]) = kobs l ks ++ [krec x i, khol i]
  | [], [], _, _, _ => rfl
  | y :: l, j :: ks, x, i, h => by simp [kobs, kobs_app (l := l) (ks := ks) (by simpa using h)]
  | [], _ :: _, _, _, h => by simp at h
  | _ :: _, [], _, _, h => by simp at h
theorem eq_key (a b c d : Int) : eqL (HV.agg [I a, I b]).cells (HV.agg [I c, I d]).cells = some (decide (a = c) && decide (b = d)) := by
  simp only [HV.cells, eqL, eqC, if_true]
  congr 1
  rw [Bool.eq_iff_iff]
  simp
theorem eq_int (a b : Int) : eqL (I a).cells (I b).cells = some (decide (a = b)) := by
  simp only [HV.cells, eqL, eqC, if_true]
  congr 1
  rw [Bool.eq_iff_iff]
  simp
theorem kmap_get (mk af : Int) : ∀ {l : List Kx} {ks : List Ki}, l.length = ks.length → mapGet (.agg [I mk, I af]) (kmap l ks) = some ((keyI l mk af).bind fun n => (ks[n]?).map fun i => .ptr i.r 1 0 0)
  | [], [], _ => rfl
  | x :: l, i :: ks, h => by
    have ih := kmap_get mk af (l := l) (ks := ks) (by simpa using h)
    simp only [kmap, mapGet, eq_key, keyR_cons]
    by_cases hc : x.maker = mk ∧ x.after = af
    · have : (decide (mk = x.maker) && decide (af = x.after)) = true := by simp [hc.1, hc.2]
      rw [this, if_pos hc]
      rfl
    · have : (decide (mk = x.maker) && decide (af = x.after)) = false := by
        rw [Bool.and_eq_false_iff, decide_eq_false_iff_not, decide_eq_false_iff_not]
        by_cases h1 : mk = x.maker
        · right; intro h2; exact hc ⟨h1.symm, h2.symm⟩
        · exact .inl h1
      rw [this, if_neg hc]
      simp only [ih]
      cases keyI l mk af <;> simp
  | [], _ :: _, h => by simp at h
  | _ :: _, [], h => by simp at h
theorem kmap_set (mk af : Int) (v : HV) : ∀ {l : List Kx} {ks : List Ki}, l.length = ks.length → keyI l mk af = none → mapSet (.agg [I mk, I af]) v (kmap l ks) = some (kmap l ks ++ [(.agg [I mk, I af], v)])
  | [], [], _, _ => rfl
  | x :: l, i :: ks, h, hn => by
    rw [keyR_cons] at hn
    split at hn
    · cases hn
    · next hc =>
      have ih := kmap_set mk af v (l := l) (ks := ks) (by simpa using h) (by simpa using hn)
      have : (decide (mk = x.maker) && decide (af = x.after)) = false := by
        rw [Bool.and_eq_false_iff, decide_eq_false_iff_not, decide_eq_false_iff_not]
        by_cases h1 : mk = x.maker
        · right; intro h2; exact hc ⟨h1.symm, h2.symm⟩
        · exact .inl h1
      simp only [kmap, mapSet, eq_key, this, ih]
      rfl
  | [], _ :: _, h, _ => by simp at h
  | _ :: _, [], h, _ => by simp at h
theorem kmap_keys {tk : TI} (hk : ∀ a b : Int, keyB tk (.agg [I a, I b]) = true) : ∀ (l : List Kx) (ks : List Ki), (kmap l ks).all (fun p => keyB tk p.1) = true
  | [], [] => rfl
  | x :: l, i :: ks => by rw [kmap, List.all_cons, hk, kmap_keys hk l ks]; rfl
  | [], _ :: _ => rfl
  | _ :: _, [] => rfl
theorem int_set (k : Int) (v : HV) : ∀ (es : List (HV × HV)), es.all (fun p => isI p.1) = true → ∃ es', mapSet (I k) v es = some es' ∧ es'.all (fun p => isI p.1) = true ∧ ∀ h : Int, mapGet (I h) es' = if h = k then some (some v) else mapGet (I h) es
  | [], _ => ⟨[(I k, v)], rfl, rfl, fun h => by
      simp only [mapGet, eq_int]
      by_cases e : h = k
      · rw [if_pos e, decide_eq_true e]
      · rw [if_neg e, decide_eq_false e]⟩
  | (a, u) :: es, ha => by
    rw [List.all_cons, Bool.and_eq_true] at ha
    obtain ⟨n, rfl⟩ : ∃ n, a = I n := by
      have := ha.1
      simp only at this
      unfold isI at this
      split at this
      · exact ⟨_, rfl⟩
      · cases this
    obtain ⟨es', h1, h2, h3⟩ := int_set k v es ha.2
    by_cases e : k = n
    · refine ⟨(I n, v) :: es, by simp only [mapSet, eq_int, decide_eq_true e], by rw [List.all_cons, ha.2]; rfl, fun h => ?_⟩
      simp only [mapGet, eq_int]
      by_cases e1 : h = k
      · rw [if_pos e1, decide_eq_true (e1.trans e)]
      · rw [if_neg e1, decide_eq_false (fun e2 => e1 (e2.trans e.symm))]
    · refine ⟨(I n, u) :: es', by simp only [mapSet, eq_int, decide_eq_false e, h1]; rfl, by rw [List.all_cons, h2]; rfl, fun h => ?_⟩
      simp only [mapGet, eq_int]
      by_cases e1 : h = n
      · rw [decide_eq_true e1, if_neg (fun e2 => e (e2.symm.trans e1))]
      · rw [decide_eq_false e1]
        exact h3 h
theorem two_has {to : Int} (h0 : 0 ≤ to) (h2 : to ≤ 2) (h : Int) : hasG (2 ^ to.toNat) h = decide (h = to) := by
  have ht : to = 0 ∨ to = 1 ∨ to = 2 := by omega
  by_cases hh : h = 0 ∨ h = 1 ∨ h = 2
  · rcases ht with rfl | rfl | rfl <;> rcases hh with rfl | rfl | rfl <;> rfl
  · have : hasG (2 ^ to.toNat) h = false := by
      cases hc : hasG (2 ^ to.toNat) h with
      | false => rfl
      | true => exact absurd (hasG_lt hc) hh
    rw [this]
    symm
    rw [decide_eq_false_iff_not]
    rintro rfl
    exact hh (by omega)
theorem hold_set {x : Kx} {i : Ki} {to : Int} (h : HoldOk x i) (hx : setB x.held = true) (h0 : 0 ≤ to) (h2 : to ≤ 2) : ∃ es', mapSet (I to) (.bool true) i.es = some es' ∧ HoldOk { x with held := eitherG x.held (2 ^ to.toNat) } { i with es := es' } := by
  obtain ⟨es', e1, e2, e3⟩ := int_set to (.bool true) i.es h.2
  refine ⟨es', e1, fun g => ?_, e2⟩
  simp only [e3, h.1, either_has hx (two_set h0 h2), two_has h0 h2]
  by_cases e : g = to
  · simp [e]
  · simp [e]
end Go.Proofs.X
end
section
namespace Go.Proofs.X
open Go Go.Proofs.XVai Go.Proofs Go.Proofs.XN
set_option linter.unusedVariables false
set_option linter.unusedSimpArgs false
set_option maxHeartbeats 4000000
set_option maxRecDepth 100000

theorem hold_new (mk af level o1 o2 : Int) (r h : Nat) : HoldOk ⟨mk, af, level, o1, o2, 0, false⟩ ⟨r, h, []⟩ := by
  refine ⟨fun g => ?_, rfl⟩
  have : hasG 0 g = false := by
    cases hc : hasG 0 g with
    | false => rfl
    | true =>
      rcases hasG_lt hc with rfl | rfl | rfl <;> exact absurd hc (by decide)
  simp [mapGet, this]
theorem k_impl_make_old (C : Cx) (k : Nat) (m : Sm) (c : Ic) (mk af level o1 o2 : Int) (i : Nat) (S : St) (hS : ISim C S k m c) (hi : keyI m.keys mk af = some i) :
    EvR Y impl_parted_make [.ptr k 1 0 0, .agg [I mk, I af], I level, .agg [I o1, I o2]] S (fun v S' => v = .bool false ∧ Gh S (ids (ios C k m c)) S' (ios C k m c)) := by
  have fB := hS.box
  have hkl : k < S.length := (List.getElem?_eq_some_iff.1 fB).1
  have fM := hS.own.get 9 rfl
  have hml : c.m < S.length := (List.getElem?_eq_some_iff.1 fM).1
  have hlen := holds_len hS.side.k
  obtain ⟨x, hx, hx1, hx2⟩ := key_at hi
  have hil : i < c.ks.length := by rw [← hlen]; exact (List.getElem?_eq_some_iff.1 hx).1
  have hget := kmap_get mk af hlen
  rw [hi] at hget
  simp only [Option.bind_some, List.getElem?_eq_getElem hil, Option.map_some] at hget
  refine E_startR (h := ?_)
  repeat' (first | refine c0 ?_ | refine c7 ?_ | refine d2 ?_ | refine d4 ?_ | refine d3' (h := ?_) | refine b1 (hk := ?_) | refine a5 (hk := ?_) | refine e5' (hk := ?_) | refine f5' (hk := ?_))
  refine lkD (hS := get_old fM) (hget := hget) (hb' := kmap_keys (fun _ _ => rfl) _ _) (hv := rfl) (hc := ne0) (hk := ?_)
  repeat' (first | refine c0 ?_ | refine c1 ?_ | refine c7 ?_ | refine d2 ?_ | refine c9 ?_ | refine d4 ?_ | refine d4' ?_ | refine a5 (hk := ?_) | refine e5' (hk := ?_) | refine d6 (ht := ?_))
  exact ⟨_, _, rKeep, rfl, (Gh.start hS.own).app⟩
theorem k_impl_make_new (C : Cx) (k : Nat) (m : Sm) (c : Ic) (mk af level o1 o2 : Int) (S : St) (hS : ISim C S k m c) (hi : keyI m.keys mk af = none) :
    EvR Y impl_parted_make [.ptr k 1 0 0, .agg [I mk, I af], I level, .agg [I o1, I o2]] S (fun v S' => v = .bool true ∧ ∃ c', Gh S (ids (ios C k m c)) S' (ios C k (makeS m mk af level o1 o2) c') ∧ ISide (makeS m mk af level o1 o2) c' ∧ c'.p = c.p) := by
  have fB := hS.box
  have hkl : k < S.length := (List.getElem?_eq_some_iff.1 fB).1
  have fM := hS.own.get 9 rfl
  have hml : c.m < S.length := (List.getElem?_eq_some_iff.1 fM).1
  have hlen := holds_len hS.side.k
  have n1 : k ≠ c.m := hS.own.ne 0 9 rfl rfl
  have n1' := Ne.symm n1
  have hget := kmap_get mk af hlen
  rw [hi] at hget
  simp only [Option.bind_none] at hget
  refine E_startR (h := ?_)
  repeat' (first | refine c0 ?_ | refine c7 ?_ | refine d2 ?_ | refine d4 ?_ | refine d3' (h := ?_) | refine b1 (hk := ?_) | refine a5 (hk := ?_) | refine e5' (hk := ?_) | refine f5' (hk := ?_))
  refine lkD (hS := get_old fM) (hget := hget) (hb' := kmap_keys (fun _ _ => rfl) _ _) (hv := rfl) (hc := ne0) (hk := ?_)
  repeat' (first | refine c0 ?_ | refine c7 ?_ | refine d0 ?_ | refine d3' (h := ?_) | refine d4' ?_ | refine e5' (hk := ?_) | refine f5' (hk := ?_) | refine d7 (hf := ?_))
  refine mmD (hk := ?_)
  repeat' (first | refine b1' (hk := ?_) | refine b7b (hk := ?_))
  refine muD (hS := get_old fM) (hset := kmap_set mk af _ hlen hi) (hb' := kmap_keys (fun _ _ => rfl) _ _) (h10 := set_old fM) (hc := by repeat' (first | exact nc0 | refine nc1 (by first | assumption | omega | (simp only [List.length_append, List.length_cons, List.length_nil, List.length_set]; omega)) ?_ | refine nc3 (by first | assumption | omega | (simp only [List.length_append, List.length_cons, List.length_nil, List.length_set]; omega)) ?_ | refine nc2 (by decide +kernel) ?_)) (hk := ?_)
  repeat' (first | refine c0 ?_ | refine c7 ?_ | refine d2 ?_ | refine c9 ?_ | refine d4 ?_ | refine d4' ?_ | refine a5 (hk := ?_))
  have e1 := kobs_app (x := ⟨mk, af, level, o1, o2, 0, false⟩) (i := ⟨S.length + 18, S.length + 16, []⟩) hlen
  have e2 := kmap_app (x := ⟨mk, af, level, o1, o2, 0, false⟩) (i := ⟨S.length + 18, S.length + 16, []⟩) hlen
  have hq : ios C k (makeS m mk af level o1 o2) { c with ks := c.ks ++ [⟨S.length + 18, S.length + 16, []⟩] } = (ios C k m c).set 9 (some (c.m, .map (kmap m.keys c.ks ++ [kent ⟨mk, af, level, o1, o2, 0, false⟩ ⟨S.length + 18, S.length + 16, []⟩]))) ++ [krec ⟨mk, af, level, o1, o2, 0, false⟩ ⟨S.length + 18, S.length + 16, []⟩] ++ [khol ⟨S.length + 18, S.length + 16, []⟩] := by
    simp only [ios, makeS, e1, e2]
    simp
  refine ⟨_, _, rKeep, rfl, { c with ks := c.ks ++ [⟨S.length + 18, S.length + 16, []⟩] }, ?_, ⟨hS.side.w, hS.side.s, hS.side.v0, hS.side.v1, hS.side.v2, hS.side.p, holds_app hS.side.k (hold_new _ _ _ _ _ _ _)⟩, rfl⟩
  rw [hq]
  have nb : ∀ j, S.length ≤ j → j ∉ ids ((ios C k m c).set 9 (some (c.m, .map (kmap m.keys c.ks ++ [kent ⟨mk, af, level, o1, o2, 0, false⟩ ⟨S.length + 18, S.length + 16, []⟩])))) := fun j hj => nb2 hS.own hj fun o e => by simp only [Option.some.injEq, Prod.mk.injEq] at e; omega
  exact (((Gh.start hS.own).upd 9 rfl rfl).app.push (q := S.length + 18) (Nat.le_add_right _ _) (nb _ (Nat.le_add_right _ _)) (get_ownL (by simp) rfl) rfl).push (q := S.length + 16) (Nat.le_add_right _ _) (by
    intro hm
    obtain ⟨o, ho⟩ := ids_mem.1 hm
    rw [List.mem_append, List.mem_singleton] at ho
    rcases ho with ho | ho
    · exact nb _ (Nat.le_add_right _ _) (ids_mem.2 ⟨o, ho⟩)
    · simp only [Option.some.injEq, Prod.mk.injEq] at ho; omega) (get_ownL (by simp) rfl) rfl
end Go.Proofs.X
end
section
namespace Go.Proofs.X
open Go Go.Proofs.XVai Go.Proofs Go.Proofs.XN
set_option linter.unusedVariables false
set_option linter.unusedSimpArgs false
set_option maxHeartbeats 4000000
set_option maxRecDepth 100000

theorem kobs_rec : ∀ {l : List Kx} {ks : List Ki} {n : Nat} {x : Kx} {i : Ki}, l[n]? = some x → ks[n]? = some i → (kobs l ks)[2 * n]? = some (krec x i) ∧ (kobs l ks)[2 * n + 1]? = some (khol i)
  | x :: l, i :: ks, 0, y, j, h1, h2 => by simp at h1 h2; subst h1; subst h2; exact ⟨rfl, rfl⟩
  | x :: l, i :: ks, n + 1, y, j, h1, h2 => by
    have := kobs_rec (l := l) (ks := ks) (n := n) (by simpa using h1) (by simpa using h2)
    rw [show 2 * (n + 1) = 2 * n + 1 + 1 by omega]
    simpa [kobs] using this
  | [], _, _, _, _, h1, _ => by simp at h1
  | _ :: _, [], _, _, _, _, h2 => by simp at h2
theorem kobs_set : ∀ {l : List Kx} {ks : List Ki} {n : Nat} {x : Kx} {i : Ki} (x' : Kx) (i' : Ki), l[n]? = some x → ks[n]? = some i → kobs (l.set n x') (ks.set n i') = ((kobs l ks).set (2 * n) (krec x' i')).set (2 * n + 1) (khol i')
  | x :: l, i :: ks, 0, y, j, x', i', h1, h2 => rfl
  | x :: l, i :: ks, n + 1, y, j, x', i', h1, h2 => by
    have := kobs_set (l := l) (ks := ks) (n := n) x' i' (by simpa using h1) (by simpa using h2)
    rw [show 2 * (n + 1) = 2 * n + 1 + 1 by omega]
    simp [kobs, this]
  | [], _, _, _, _, _, _, h1, _ => by simp at h1
  | _ :: _, [], _, _, _, _, _, _, h2 => by simp at h2
theorem kmap_same : ∀ {l : List Kx} {ks : List Ki} {n : Nat} {x : Kx} {i : Ki} (x' : Kx) (i' : Ki), l[n]? = some x → ks[n]? = some i → kent x' i' = kent x i → kmap (l.set n x') (ks.set n i') = kmap l ks
  | x :: l, i :: ks, 0, y, j, x', i', h1, h2, h => by simp at h1 h2; subst h1; subst h2; simp only [List.set_cons_zero, kmap]; rw [h]
  | x :: l, i :: ks, n + 1, y, j, x', i', h1, h2, h => by
    have := kmap_same (l := l) (ks := ks) (n := n) x' i' (by simpa using h1) (by simpa using h2) h
    simp only [List.set_cons_succ, kmap, this]
  | [], _, _, _, _, _, _, h1, _, _ => by simp at h1
  | _ :: _, [], _, _, _, _, _, _, h2, _ => by simp at h2
theorem holds_set : ∀ {l : List Kx} {ks : List Ki} {n : Nat} {x' : Kx} {i' : Ki}, Holds l ks → HoldOk x' i' → Holds (l.set n x') (ks.set n i')
  | x :: l, i :: ks, 0, x', i', h, h' => ⟨h', h.2⟩
  | x :: l, i :: ks, n + 1, x', i', h, h' => ⟨h.1, holds_set h.2 h'⟩
  | [], [], _, _, _, h, _ => h
  | [], _ :: _, _, _, _, h, _ => h.elim
  | _ :: _, [], _, _, _, h, _ => h.elim
theorem set_same {α : Type} {l : List α} {n : Nat} {x : α} (h : l[n]? = some x) : l.set n x = l := by
  refine List.ext_getElem? fun j => ?_
  rw [List.getElem?_set]
  split
  · rename_i e; subst e
    split
    · exact h.symm
    · rename_i hl; rw [List.getElem?_eq_none (by omega)]
  · rfl
theorem set_ten {a0' a1' a2' a3' a4' a5' a6' a7' a8' a9' x : Option (Nat × Ob)} {B : Os} {j : Nat} {y : Option (Nat × Ob)} : ((([a0', a1', a2', a3', a4', a5', a6', a7', a8', a9'] ++ B : Os).set 0 x).set (10 + j) y) = [x, a1', a2', a3', a4', a5', a6', a7', a8', a9'] ++ B.set j y := by
  show ([x, a1', a2', a3', a4', a5', a6', a7', a8', a9'] ++ B : Os).set (10 + j) y = _
  rw [List.set_append_right _ _ (by simp)]
  simp
theorem int_keys {es : List (HV × HV)} (h : es.all (fun p => isI p.1) = true) : es.all (fun p => keyB ⟨1, false, [.int .i64 0], .int .i64, true⟩ p.1) = true := by
  rw [List.all_eq_true] at h ⊢
  intro p hp
  have := h p hp
  unfold isI at this
  split at this
  · rename_i n e; rw [e]; rfl
  · cases this
def postS (m : Sm) (to : Int) (w : Wd) (k1 k2 : Int) : Sm := if w.kind = 1 then holdS (sendS m to { w with maker := k1, after := k2 }) to k1 k2 else sendS m to { w with maker := k1, after := k2 }
theorem k_impl_post_nil (C : Cx) (k : Nat) (m : Sm) (c : Ic) (to : Int) (w : Wd) (k1 k2 : Int) (S : St) (hS : ISim C S k m c) (hz : m.posts.length ≤ 1000000) (hp : c.p = none) (h0 : w.kind = 1 → 0 ≤ to) (h2 : w.kind = 1 → to ≤ 2) (hk : ∀ x ∈ m.keys, setB x.held = true) :
    EvR Y impl_parted_post [.ptr k 1 0 0, I to, .agg (wdrow w), .agg [I k1, I k2]] S (Isd C S k m c (postS m to w k1 k2)) := by
  have fB := hS.box
  have hkl : k < S.length := (List.getElem?_eq_some_iff.1 fB).1
  have fM := hS.own.get 9 rfl
  have hml : c.m < S.length := (List.getElem?_eq_some_iff.1 fM).1
  have hlen := holds_len hS.side.k
  have n1 : k ≠ c.m := hS.own.ne 0 9 rfl rfl
  have n1' := Ne.symm n1
  have hget := kmap_get k1 k2 hlen
  have hpn := hS.side.p hp
  obtain ⟨cm, cn, cq, cw, cs, o0, o1, o2, cp, cks⟩ := c
  simp only at hp fM hml hlen n1 n1' hget hpn fB
  subst hp
  obtain ⟨wk, wf, wn, wl, wm, wa, wx⟩ := w
  cases hi : keyI m.keys k1 k2 with
  | none =>
    rw [hi] at hget
    simp only [Option.bind_none] at hget
    refine E_startR (h := ?_)
    repeat' (first | refine c0 ?_ | refine c7 ?_ | refine d2 ?_ | refine d4 ?_ | refine d3' (h := ?_) | refine d4' ?_ | refine b1 (hk := ?_) | refine p1' (hk := ?_) | refine b4' (hk := ?_) | refine b7b (hk := ?_) | refine e5' (hk := ?_) | refine f5' (hk := ?_) | refine b7' (hk := ?_))
    refine lkD (hS := get_old (setN n1' fM)) (hget := hget) (hb' := kmap_keys (fun _ _ => rfl) _ _) (hv := rfl) (hc := ne0) (hk := ?_)
    repeat' (first | refine c0 ?_ | refine c7 ?_ | refine d2 ?_ | refine d0 ?_ | refine d4 ?_ | refine d4' ?_ | refine a0 (hk := ?_) | refine a2 (hk := ?_) | refine a5 (hk := ?_) | refine e5' (hk := ?_) | refine d7 (hf := ?_))
    have hq : postS m to ⟨wk, wf, wn, wl, wm, wa, wx⟩ k1 k2 = sendS m to ⟨wk, wf, wn, wl, k1, k2, wx⟩ := by
      unfold postS
      split
      · unfold holdS; simp only [sendS, hi]
      · rfl
    rw [hq]
    refine ⟨_, _, rKeepN, rfl, ⟨cm, cn, cq, cw, cs, o0, o1, o2, some (S.length + 19), cks⟩, ?_, ⟨hS.side.w, hS.side.s, hS.side.v0, hS.side.v1, hS.side.v2, (fun h => by cases h), hS.side.k⟩⟩
    exact ((Gh.start hS.own).upd 0 (o' := .cells false [imrow C (sendS m to ⟨wk, wf, wn, wl, k1, k2, wx⟩) ⟨cm, cn, cq, cw, cs, o0, o1, o2, some (S.length + 19), cks⟩]) rfl (show Ob.cells false [[L [C.a, C.b, C.c], L C.hs, L C.ds, .lst (pls C.ss 0), L (setsL C.ls C.ss.all), I C.bad, .map cm, .sl (S.length + 19) 1, .sl cn m.nums.length, slo cw m.ws.length, slo cs m.ss.length, .sl cq 3, .bool m.ended]] = _ by simp [sendS, slo, hpn])).app.add 8 (q := S.length + 19) (o := .cells true ((m.posts ++ [Po.mk to ⟨wk, wf, wn, wl, k1, k2, wx⟩]).map porow)) (Nat.le_add_right _ _) (nb2 hS.own (Nat.le_add_right _ _) fun o e => by simp only [Option.some.injEq, Prod.mk.injEq] at e; omega) (get_ownL (by simp) rfl) (show Ob.cells true [porow (Po.mk to ⟨wk, wf, wn, wl, k1, k2, wx⟩)] = _ by rw [hpn]; rfl)
  | some i =>
    obtain ⟨x, hx, hx1, hx2⟩ := key_at hi
    have hil : i < cks.length := by rw [← hlen]; exact (List.getElem?_eq_some_iff.1 hx).1
    have hki := List.getElem?_eq_getElem hil
    generalize cks[i] = ki at hki
    rw [hi] at hget
    simp only [Option.bind_some, hki, Option.map_some] at hget
    obtain ⟨g1', g2'⟩ := kobs_rec hx hki
    have fR := hS.own.get (10 + 2 * i) (by rw [List.getElem?_append_right (by simp)]; simpa using g1')
    have fH := hS.own.get (10 + (2 * i + 1)) (by rw [List.getElem?_append_right (by simp)]; simpa using g2')
    have nR : k ≠ ki.r := hS.own.ne 0 (10 + 2 * i) rfl (by rw [List.getElem?_append_right (by simp)]; simpa using g1') (by omega)
    have nH : k ≠ ki.h := hS.own.ne 0 (10 + (2 * i + 1)) rfl (by rw [List.getElem?_append_right (by simp)]; simpa using g2') (by omega)
    have hrl := (List.getElem?_eq_some_iff.1 fR).1
    have hhl := (List.getElem?_eq_some_iff.1 fH).1
    obtain ⟨es', hes', hho'⟩ : ∃ es', (wk = 1 → mapSet (I to) (.bool true) ki.es = some es') ∧ (wk = 1 → HoldOk { x with held := eitherG x.held (2 ^ to.toNat) } { ki with es := es' }) := by
      by_cases hw : wk = 1
      · obtain ⟨es', u1', u2'⟩ := hold_set (holds_at hS.side.k hx hki) (hk x (List.mem_of_getElem? hx)) (h0 hw) (h2 hw)
        exact ⟨es', fun _ => u1', fun _ => u2'⟩
      · exact ⟨[], fun h => absurd h hw, fun h => absurd h hw⟩
    have hall := (holds_at hS.side.k hx hki).2
    have hkey := int_keys hall
    refine E_startR (h := ?_)
    repeat' (first | refine c0 ?_ | refine c7 ?_ | refine d2 ?_ | refine d4 ?_ | refine d3' (h := ?_) | refine d4' ?_ | refine b1 (hk := ?_) | refine p1' (hk := ?_) | refine b4' (hk := ?_) | refine b7b (hk := ?_) | refine e5' (hk := ?_) | refine f5' (hk := ?_) | refine b7' (hk := ?_))
    refine lkD (hS := get_old (setN n1' fM)) (hget := hget) (hb' := kmap_keys (fun _ _ => rfl) _ _) (hv := rfl) (hc := ne0) (hk := ?_)
    repeat' (first | refine c0 ?_ | refine c7 ?_ | refine d2 ?_ | refine d0 ?_ | refine d4 ?_ | refine d4' ?_ | refine a1 (hk := ?_) | refine a5 (hk := ?_) | refine b5 (hk := ?_) | refine e5' (hk := ?_) | (with_reducible intro hc) | refine d9 (ht := ?_) (hf := ?_))
    · have hw1 : wk = 1 := by simpa using hc
      subst hw1
      have hes := hes' rfl
      have hho := hho' rfl
      have h0 : 0 ≤ to := h0 rfl
      refine muO (hS := get_old (setN (Ne.symm nH) fH)) (hset := hes) (hb' := hkey) (h10 := set_old (setN (Ne.symm nH) fH)) (hk := ?_)
      repeat' (first | refine d4 ?_)
      have hq : postS m to ⟨1, wf, wn, wl, wm, wa, wx⟩ k1 k2 = { sendS m to ⟨1, wf, wn, wl, k1, k2, wx⟩ with keys := m.keys.set i { x with held := eitherG x.held (2 ^ to.toNat) } } := by
        unfold postS holdS
        simp only [if_true, sendS, hi, h0]
        rw [mod_set hx]
      rw [hq]
      have hk1 : kobs (m.keys.set i { x with held := eitherG x.held (2 ^ to.toNat) }) (cks.set i { ki with es := es' }) = (kobs m.keys cks).set (2 * i + 1) (khol { ki with es := es' }) := by
        rw [kobs_set _ _ hx hki, set_same g1']
      have hk2 : kmap (m.keys.set i { x with held := eitherG x.held (2 ^ to.toNat) }) (cks.set i { ki with es := es' }) = kmap m.keys cks := kmap_same _ _ hx hki rfl
      refine ⟨_, _, rKeepN, rfl, ⟨cm, cn, cq, cw, cs, o0, o1, o2, some (S.length + 19), cks.set i { ki with es := es' }⟩, ?_, ⟨hS.side.w, hS.side.s, hS.side.v0, hS.side.v1, hS.side.v2, (fun h => by cases h), holds_set hS.side.k hho⟩⟩
      have hq2 : ios C k { sendS m to ⟨1, wf, wn, wl, k1, k2, wx⟩ with keys := m.keys.set i { x with held := eitherG x.held (2 ^ to.toNat) } } ⟨cm, cn, cq, cw, cs, o0, o1, o2, some (S.length + 19), cks.set i { ki with es := es' }⟩ = (((ios C k m ⟨cm, cn, cq, cw, cs, o0, o1, o2, none, cks⟩).set 0 (some (k, .cells false [imrow C (sendS m to ⟨1, wf, wn, wl, k1, k2, wx⟩) ⟨cm, cn, cq, cw, cs, o0, o1, o2, some (S.length + 19), cks⟩]))).set (10 + (2 * i + 1)) (some (ki.h, .map es'))).set 8 (some (S.length + 19, .cells true ((m.posts ++ [Po.mk to ⟨1, wf, wn, wl, k1, k2, wx⟩]).map porow))) := by
        rw [set_ten]
        simp only [ios, hk1, hk2]
        rfl
      rw [hq2]
      exact (((Gh.start hS.own).upd 0 (o' := .cells false [imrow C (sendS m to ⟨1, wf, wn, wl, k1, k2, wx⟩) ⟨cm, cn, cq, cw, cs, o0, o1, o2, some (S.length + 19), cks⟩]) rfl (show Ob.cells false [[L [C.a, C.b, C.c], L C.hs, L C.ds, .lst (pls C.ss 0), L (setsL C.ls C.ss.all), I C.bad, .map cm, .sl (S.length + 19) 1, .sl cn m.nums.length, slo cw m.ws.length, slo cs m.ss.length, .sl cq 3, .bool m.ended]] = _ by simp [sendS, slo, hpn])).upd (10 + (2 * i + 1)) (o := .map ki.es) (o' := .map es') (by rw [List.getElem?_set_ne (by omega), List.getElem?_append_right (by simp)]; simpa using g2') rfl).app.add 8 (q := S.length + 19) (o := .cells true ((m.posts ++ [Po.mk to ⟨1, wf, wn, wl, k1, k2, wx⟩]).map porow)) (Nat.le_add_right _ _)
        (fun hm => by
          rcases ids_set hm with hm | ⟨o, e⟩
          · exact nb2 hS.own (Nat.le_add_right _ _) (fun o e => by simp only [Option.some.injEq, Prod.mk.injEq] at e; omega) hm
          · simp only [Option.some.injEq, Prod.mk.injEq] at e; omega) (get_ownL (by simp) rfl) (show Ob.cells true [porow (Po.mk to ⟨1, wf, wn, wl, k1, k2, wx⟩)] = _ by rw [hpn]; rfl)
    · have hw1 : wk ≠ 1 := by simpa using hc
      have hq : postS m to ⟨wk, wf, wn, wl, wm, wa, wx⟩ k1 k2 = sendS m to ⟨wk, wf, wn, wl, k1, k2, wx⟩ := by
        unfold postS
        rw [if_neg hw1]
      rw [hq]
      refine ⟨_, _, rKeepN, rfl, ⟨cm, cn, cq, cw, cs, o0, o1, o2, some (S.length + 19), cks⟩, ?_, ⟨hS.side.w, hS.side.s, hS.side.v0, hS.side.v1, hS.side.v2, (fun h => by cases h), hS.side.k⟩⟩
      exact ((Gh.start hS.own).upd 0 (o' := .cells false [imrow C (sendS m to ⟨wk, wf, wn, wl, k1, k2, wx⟩) ⟨cm, cn, cq, cw, cs, o0, o1, o2, some (S.length + 19), cks⟩]) rfl (show Ob.cells false [[L [C.a, C.b, C.c], L C.hs, L C.ds, .lst (pls C.ss 0), L (setsL C.ls C.ss.all), I C.bad, .map cm, .sl (S.length + 19) 1, .sl cn m.nums.length, slo cw m.ws.length, slo cs m.ss.length, .sl cq 3, .bool m.ended]] = _ by simp [sendS, slo, hpn])).app.add 8 (q := S.length + 19) (o := .cells true ((m.posts ++ [Po.mk to ⟨wk, wf, wn, wl, k1, k2, wx⟩]).map porow)) (Nat.le_add_right _ _) (nb2 hS.own (Nat.le_add_right _ _) fun o e => by simp only [Option.some.injEq, Prod.mk.injEq] at e; omega) (get_ownL (by simp) rfl) (show Ob.cells true [porow (Po.mk to ⟨wk, wf, wn, wl, k1, k2, wx⟩)] = _ by rw [hpn]; rfl)
end Go.Proofs.X
end
section
namespace Go.Proofs.X
open Go Go.Proofs.XVai Go.Proofs Go.Proofs.XN
set_option linter.unusedVariables false
set_option linter.unusedSimpArgs false
set_option maxHeartbeats 4000000
set_option maxRecDepth 100000

theorem both8 : ∀ a : Nat, a < 8 → ∀ b : Nat, b < 8 → (withinG a b = decide (bothG (a : Int) b = a)) := by decide +kernel
theorem within_both {a b : Int} (ha : setB a = true) (hb : setB b = true) : withinG a b = decide (bothG a b = a) := by
  obtain ⟨n, hn, rfl⟩ := set8 ha
  obtain ⟨m, hm, rfl⟩ := set8 hb
  exact both8 n hn m hm
theorem pls_get : ∀ (l : Stps) (b i : Nat) (s : Stp), l.all.list[i]? = some s → ∃ y : Int, (nx l b)[i]? = some y ∧ (pls l b)[i]? = some (plr s.k s.v s.x s.h s.t s.e y (if s.t.len = 0 then -1 else ((b + i + 1 : Nat) : Int)) (if s.e.len = 0 then -1 else ((b + i + 1 + s.t.sz : Nat) : Int)))
  | .nil, b, i, s, h => by simp [Stps.all, Stps.list] at h
  | .cons k v x hh t e r, b, i, s, h => by
    simp only [Stps.all, Stps.list, Stps.app_list] at h
    cases i with
    | zero =>
      simp at h
      subst h
      exact ⟨_, rfl, rfl⟩
    | succ i =>
      rw [List.getElem?_cons_succ, List.getElem?_append, Stps.all_list_len] at h
      simp only [nx, pls, List.getElem?_cons_succ]
      split at h
      · next hl =>
        obtain ⟨y, h1, h2⟩ := pls_get t (b + 1) i s h
        refine ⟨y, ?_, ?_⟩
        · rw [List.getElem?_append_left (by rw [nx_len]; exact hl)]; exact h1
        · rw [List.getElem?_append_left (by rw [pls_len]; exact hl), h2, show b + 1 + i = b + (i + 1) by omega]
      · next hl =>
        rw [List.getElem?_append, Stps.all_list_len] at h
        split at h
        · next hl2 =>
          obtain ⟨y, h1, h2⟩ := pls_get e (b + 1 + t.sz) (i - t.sz) s h
          refine ⟨y, ?_, ?_⟩
          · rw [List.getElem?_append_right (by rw [nx_len]; omega), nx_len, List.getElem?_append_left (by rw [nx_len]; exact hl2)]; exact h1
          · rw [List.getElem?_append_right (by rw [pls_len]; omega), pls_len, List.getElem?_append_left (by rw [pls_len]; exact hl2), h2, show b + 1 + t.sz + (i - t.sz) = b + (i + 1) by omega]
        · next hl2 =>
          obtain ⟨y, h1, h2⟩ := pls_get r (b + 1 + t.sz + e.sz) (i - t.sz - e.sz) s h
          refine ⟨y, ?_, ?_⟩
          · rw [List.getElem?_append_right (by rw [nx_len]; omega), nx_len, List.getElem?_append_right (by rw [nx_len]; omega), nx_len]; exact h1
          · rw [List.getElem?_append_right (by rw [pls_len]; omega), pls_len, List.getElem?_append_right (by rw [pls_len]; omega), pls_len, h2, show b + 1 + t.sz + e.sz + (i - t.sz - e.sz) = b + (i + 1) by omega]
theorem place_at {C : Cx} {n : Nat} (hn : n < C.ss.sz) : (pls C.ss 0)[n]? = some (plr (stpAt C n).k (stpAt C n).v (stpAt C n).x (stpAt C n).h (stpAt C n).t (stpAt C n).e (nget (nx C.ss 0) n) (if (stpAt C n).t.len = 0 then -1 else ((n + 1 : Nat) : Int)) (if (stpAt C n).e.len = 0 then -1 else ((n + 1 + (stpAt C n).t.sz : Nat) : Int))) := by
  obtain ⟨y, h1, h2⟩ := pls_get C.ss 0 n _ (stp_at hn)
  have h3 : nget (nx C.ss 0) n = y := by
    have := nget_at (nums := nx C.ss 0) (j := n) (by rw [nx_len]; exact hn)
    rw [h1] at this
    exact (Option.some.inj this).symm
  rw [h3, h2]
  simp only [Nat.zero_add]
theorem hold_send (m : Sm) (to : Int) (w : Wd) (a b k1 k2 : Int) : holdS (sendS m to w) a k1 k2 = sendS (holdS m a k1 k2) to w := by
  unfold holdS sendS
  cases keyI m.keys k1 k2 with
  | none => rfl
  | some i => simp only; split <;> rfl
theorem k_impl_have (C : Cx) (k : Nat) (m : Sm) (c : Ic) (host : Int) (n : Nat) (level k1 k2 : Int) (S : St) (P : Pk C) (ht : trOk [C.a, C.b, C.c] = true) (hl : setB level = true) (hz : m.posts.length ≤ 1000000) (hk : ∀ x ∈ m.keys, setB x.held = true) (hn : n < C.ss.sz) (hp : c.p = none) (hS : ISim C S k m c) :
    EvR Y impl_parted_have [.ptr k 1 0 0, I host, I n, I level, .agg [I k1, I k2]] S (Isd C S k m c (passS C m host n level k1 k2)) := by
  have fB := hS.box
  have hkl : k < S.length := (List.getElem?_eq_some_iff.1 fB).1
  have hgd := map_get (f := irow) (nget_at (nums := C.ds) (j := n) (by rw [P.dl]; exact hn))
  have hpl := place_at hn
  obtain ⟨t, hd, hd3⟩ := P.dd n hn
  have et := fun S => k_impl_trusters C.a C.b C.c (nget C.ds n) S ht
  have ew := fun S => k_impl_within level (trG C.a C.b C.c (nget C.ds n)) S hl (trG_set _ _ _ _)
  rw [trG_by (by omega)] at et ew
  have hbs := trG_set C.a C.b C.c (nget C.ds n)
  rw [trG_by (by omega)] at hbs
  have hwb := within_both hl hbs
  have hdn0 : 0 ≤ nget C.ds n := by omega
  have hdn2 : nget C.ds n ≤ 2 := by omega
  generalize hnx : nget (nx C.ss 0) n = y at *
  by_cases hle : bothG level (byG C.a C.b C.c (nget C.ds n)) = level
  · rw [hwb, decide_eq_true hle] at ew
    have e : passS C m host n level k1 k2 = postS m (nget C.ds n) ⟨1, host, n, level, 0, 0, 0⟩ k1 k2 := by
      unfold passS postS goS
      rw [if_neg (by simp [Cx.by, hle]), if_pos rfl, hold_send _ _ _ _ 0]
    rw [e]
    refine E_startR (h := ?_)
    repeat' (first | refine c0 ?_ | refine c7 ?_ | refine d2 ?_ | refine d0 ?_ | refine d4 ?_ | refine a0 (hk := ?_) | refine k0 (he := (by first | exact et _ | exact ew _)) (hk := ?_) | refine b1 (hk := ?_) | refine a2 (hk := ?_) | refine a5 (hk := ?_) | refine b5 (hk := ?_) | refine b6 (hk := ?_) | refine b8 (hk := ?_) | refine d7 (hf := ?_))
    refine kX (he := k_impl_post_nil C k m c (nget C.ds n) ⟨1, host, n, level, 0, 0, 0⟩ k1 k2 _ hS.app hz hp (fun _ => hdn0) (fun _ => hdn2) hk) (hk := ?_)
    rintro v S2 ⟨rfl, c2, h2, s2⟩
    rw [← List.append_nil S2]
    repeat' (first | refine d4 ?_)
    exact ⟨_, _, rKeepN, rfl, c2, ((Gh.start hS.own).app.call h2).app, s2⟩
  · rw [hwb, decide_eq_false hle] at ew
    by_cases hy : y ≥ 0
    · cases hi : keyI m.keys host n with
      | some i =>
        have e : passS C m host n level k1 k2 = m := by unfold passS; rw [if_pos ⟨hle, by rw [hnx]; exact hy⟩, hi]; rfl
        rw [e]
        refine E_startR (h := ?_)
        repeat' (first | refine c0 ?_ | refine c7 ?_ | refine d2 ?_ | refine d4 ?_ | refine k0 (he := (by first | exact et _ | exact ew _)) (hk := ?_) | refine b0 (hk := ?_) | refine b1 (hk := ?_) | refine a1 (hk := ?_) | refine a5 (hk := ?_) | refine b5 (hk := ?_) | refine b6 (hk := ?_) | refine b8 (hk := ?_) | refine b7 (hk := ?_) | refine u7 (hk := ?_))
        refine kX (he := k_impl_make_old C k m c host n level k1 k2 i _ hS.app hi) (hk := ?_)
        rintro v S2 ⟨rfl, h2⟩
        rw [← List.append_nil S2]
        repeat' (first | refine c0 ?_ | refine c1 ?_ | refine c9 ?_ | refine d4 ?_ | refine a5 (hk := ?_) | refine d6 (ht := ?_))
        exact ⟨_, _, rKeep, rfl, c, ((Gh.start hS.own).app.call h2).app, hS.side⟩
      | none =>
        have e : passS C m host n level k1 k2 = postS (makeS m host n level k1 k2) (nget C.ds n) ⟨1, host, n, level, 0, 0, 0⟩ host n := by
          unfold passS postS goS
          rw [if_pos ⟨hle, by rw [hnx]; exact hy⟩, hi, if_pos rfl, hold_send _ _ _ _ 0]; rfl
        rw [e]
        refine E_startR (h := ?_)
        repeat' (first | refine c0 ?_ | refine c7 ?_ | refine d2 ?_ | refine d4 ?_ | refine k0 (he := (by first | exact et _ | exact ew _)) (hk := ?_) | refine b0 (hk := ?_) | refine b1 (hk := ?_) | refine a1 (hk := ?_) | refine a5 (hk := ?_) | refine b5 (hk := ?_) | refine b6 (hk := ?_) | refine b8 (hk := ?_) | refine b7 (hk := ?_) | refine u7 (hk := ?_))
        refine kX (he := k_impl_make_new C k m c host n level k1 k2 _ hS.app hi) (hk := ?_)
        rintro v S2 ⟨rfl, c2, h2, s2, hp2⟩
        have f0 := (Gh.old h2 (j := S.length + 0) (by simp) (hS.own.behind (Nat.le_add_right _ _)))
        have f1 := (Gh.old h2 (j := S.length + 1) (by simp) (hS.own.behind (Nat.le_add_right _ _)))
        have f00 := f0.1.trans (get_own rfl)
        have f11 := f1.1.trans (get_own rfl)
        have hG2 := (Gh.start hS.own).app.call h2
        have hl2 := h2.fo.le
        simp only [List.length_append, List.length_cons, List.length_nil] at hl2
        rw [← List.append_nil S2]
        repeat' (first | refine c0 ?_ | refine d2 ?_ | refine d0 ?_ | refine d4 ?_ | refine a5 (hk := ?_) | refine b5 (hk := ?_) | refine b7 (hk := ?_) | refine d7 (hf := ?_))
        refine kX (he := k_impl_post_nil C k (makeS m host n level k1 k2) c2 (nget C.ds n) ⟨1, host, n, level, 0, 0, 0⟩ host n _ ⟨(hG2.loc (Nat.le_add_right _ _) f0.2).own.app, s2⟩ hz (hp2.trans hp) (fun _ => hdn0) (fun _ => hdn2) (fun x hx => by
          simp only [makeS, List.mem_append, List.mem_singleton] at hx
          rcases hx with hx | rfl
          · exact hk x hx
          · rfl)) (hk := ?_)
        rintro v S3 ⟨rfl, c3, h3, s3⟩
        rw [← List.append_nil S3]
        repeat' (first | refine d4 ?_)
        exact ⟨_, _, rKeepN, rfl, c3, ((hG2.loc (Nat.le_add_right _ _) f0.2).app.call h3).app, s3⟩
    · have e : passS C m host n level k1 k2 = postS m (nget C.ds n) ⟨1, host, n, level, 0, 0, 0⟩ k1 k2 := by
        unfold passS postS goS
        rw [if_neg (by rw [hnx]; omega), if_pos rfl, hold_send _ _ _ _ 0]
      rw [e]
      refine E_startR (h := ?_)
      repeat' (first | refine c0 ?_ | refine c7 ?_ | refine d2 ?_ | refine d0 ?_ | refine d4 ?_ | refine k0 (he := (by first | exact et _ | exact ew _)) (hk := ?_) | refine b1 (hk := ?_) | refine a1 (hk := ?_) | refine a5 (hk := ?_) | refine b5 (hk := ?_) | refine b6 (hk := ?_) | refine b8 (hk := ?_) | refine u8 (hk := ?_))
      refine kX (he := k_impl_post_nil C k m c (nget C.ds n) ⟨1, host, n, level, 0, 0, 0⟩ k1 k2 _ hS.app hz hp (fun _ => hdn0) (fun _ => hdn2) hk) (hk := ?_)
      rintro v S2 ⟨rfl, c2, h2, s2⟩
      rw [← List.append_nil S2]
      repeat' (first | refine d4 ?_)
      exact ⟨_, _, rKeepN, rfl, c2, ((Gh.start hS.own).app.call h2).app, s2⟩
end Go.Proofs.X
end
section
namespace Go.Proofs.X
open Go Go.Proofs.XVai Go.Proofs Go.Proofs.XN
set_option linter.unusedVariables false
set_option linter.unusedSimpArgs false
set_option maxHeartbeats 4000000
set_option maxRecDepth 100000

theorem k_impl_behind (C : Cx) (k : Nat) (m : Sm) (c : Ic) (host : Int) (n : Nat) (level k1 k2 : Int) (S : St) (P : Pk C) (ht : trOk [C.a, C.b, C.c] = true) (hl : setB level = true) (hz : m.posts.length ≤ 1000000) (hk : ∀ x ∈ m.keys, setB x.held = true) (hn : n < C.ss.sz) (hp : c.p = none) (h12 : (k1 = -1 ∧ k2 = -1) ∨ 0 ≤ k2) (hS : ISim C S k m c) :
    EvR Y impl_parted_behind [.ptr k 1 0 0, I host, I n, I level, .agg [I k1, I k2]] S (Isd C S k m c (goOnS C m host n level k1 k2)) := by
  have fB := hS.box
  have hkl : k < S.length := (List.getElem?_eq_some_iff.1 fB).1
  have hpl := place_at hn
  have hnx := nx_at hn
  unfold goOnS
  generalize nget (nx C.ss 0) n = y at *
  have back : ∀ S', ISim C S' k m c → EvR Y impl_parted_post [.ptr k 1 0 0, I k1, .agg (wdrow ⟨2, host, 0, 0, 0, 0, 0⟩), .agg [I k1, I k2]] S' (Isd C S' k m c (sendS m k1 ⟨2, host, 0, 0, k1, k2, 0⟩)) := fun S' hO => by
    have := k_impl_post_nil C k m c k1 ⟨2, host, 0, 0, 0, 0, 0⟩ k1 k2 S' hO hz hp (fun h => by cases h) (fun h => by cases h) hk
    simpa [postS] using this
  by_cases hy : y ≥ 0
  · by_cases h2 : k2 = n
    · have hb : (k2 != (n : Int)) = false := by simpa using h2
      have hk2 : 0 ≤ k2 := by omega
      rw [if_neg (by omega), if_pos hk2]
      refine E_startR (h := ?_)
      repeat' (first | refine c0 ?_ | refine c3 ?_ | refine c7 ?_ | refine d2 ?_ | refine c8 ?_ | refine d4 ?_ | refine b1 (hk := ?_) | refine u3 (hk := ?_) | refine a5 (hk := ?_) | refine b5 (hk := ?_) | refine b6 (hk := ?_) | refine b8 (hk := ?_) | refine b7 (hk := ?_) | (with_reducible intro hc) | refine u6 (hk := ?_) | refine d9 (ht := ?_) (hf := ?_))
      · refine kX (he := back _ hS.app) (hk := ?_)
        rintro v S2 ⟨rfl, c2, h2, s2⟩
        rw [← List.append_nil S2]
        repeat' (first | refine c3 ?_ | refine d4 ?_)
        exact ⟨_, _, rKeepN, rfl, c2, ((Gh.start hS.own).app.call h2).app, s2⟩
      · exfalso
        simp at hc
        omega
    · have hb : (k2 != (n : Int)) = true := by simpa using h2
      rcases hnx with hj | ⟨j, hj, hjl⟩
      · omega
      subst hj
      rw [if_pos ⟨hy, h2⟩]
      refine E_startR (h := ?_)
      repeat' (first | refine c0 ?_ | refine c7 ?_ | refine d2 ?_ | refine c8 ?_ | refine d4 ?_ | refine b1 (hk := ?_) | refine a1 (hk := ?_) | refine a5 (hk := ?_) | refine b5 (hk := ?_) | refine b6 (hk := ?_) | refine b8 (hk := ?_) | refine u5 (hk := ?_))
      refine kX (he := k_impl_have C k m c host j level k1 k2 _ P ht hl hz hk hjl hp hS.app) (hk := ?_)
      rintro v S2 ⟨rfl, c2, h2, s2⟩
      rw [← List.append_nil S2]
      repeat' (first | refine c3 ?_ | refine d4 ?_)
      exact ⟨_, _, rKeepN, rfl, c2, ((Gh.start hS.own).app.call h2).app, s2⟩
  · clear hnx
    rw [if_neg (by omega)]
    by_cases hk2 : 0 ≤ k2
    · rw [if_pos hk2]
      refine E_startR (h := ?_)
      repeat' (first | refine c0 ?_ | refine c3 ?_ | refine c7 ?_ | refine d2 ?_ | refine c8 ?_ | refine d4 ?_ | refine a0 (hk := ?_) | refine b1 (hk := ?_) | refine u4 (hk := ?_) | refine a5 (hk := ?_) | refine b5 (hk := ?_) | refine b6 (hk := ?_) | refine b8 (hk := ?_) | refine b7 (hk := ?_) | (with_reducible intro hc) | refine d7 (hf := ?_) | refine d9 (ht := ?_) (hf := ?_))
      · refine kX (he := back _ hS.app) (hk := ?_)
        rintro v S2 ⟨rfl, c2, h2, s2⟩
        rw [← List.append_nil S2]
        repeat' (first | refine c3 ?_ | refine d4 ?_)
        exact ⟨_, _, rKeepN, rfl, c2, ((Gh.start hS.own).app.call h2).app, s2⟩
      · exfalso
        simp at hc
        omega
    · rw [if_neg hk2]
      obtain ⟨rfl, rfl⟩ : k1 = -1 ∧ k2 = -1 := by
        rcases h12 with h | h
        · exact h
        · exact absurd h hk2
      refine E_startR (h := ?_)
      repeat' (first | refine c0 ?_ | refine c3 ?_ | refine c7 ?_ | refine d2 ?_ | refine c8 ?_ | refine d4 ?_ | refine a0 (hk := ?_) | refine b1 (hk := ?_) | refine u4 (hk := ?_) | refine a5 (hk := ?_) | refine b5 (hk := ?_) | refine b6 (hk := ?_) | refine b8 (hk := ?_) | refine b7 (hk := ?_) | refine d7 (hf := ?_))
      exact ⟨_, _, rKeepN, rfl, c, ((Gh.start hS.own).upd 0 (o' := .cells false [imrow C { m with ended := true } c]) rfl rfl).app, ⟨hS.side.w, hS.side.s, hS.side.v0, hS.side.v1, hS.side.v2, hS.side.p, hS.side.k⟩⟩
end Go.Proofs.X
end
section
namespace Go.Proofs.X
open Go Go.Proofs.XVai Go.Proofs Go.Proofs.XN
set_option linter.unusedVariables false
set_option linter.unusedSimpArgs false
set_option maxHeartbeats 4000000
set_option maxRecDepth 100000

theorem k_impl_begin (C : Cx) (k : Nat) (m : Sm) (c : Ic) (S : St) (P : Pk C) (ht : trOk [C.a, C.b, C.c] = true) (hz : m.posts.length ≤ 1000000) (hk : ∀ x ∈ m.keys, setB x.held = true) (hp : c.p = none) (hS : ISim C S k m c) :
    EvR Y impl_parted_begin [.ptr k 1 0 0] S (Isd C S k m c (startS C m)) := by
  have fB := hS.box
  have hkl : k < S.length := (List.getElem?_eq_some_iff.1 fB).1
  have hl := pls_len C.ss 0
  by_cases h0 : C.ss.sz = 0
  · have hb : (((pls C.ss 0).length : Int) == 0) = true := by rw [hl, h0]; rfl
    have e : startS C m = { m with ended := true } := by unfold startS; rw [if_pos h0]
    rw [e]
    refine E_startR (h := ?_)
    repeat' (first | refine c0 ?_ | refine c1 ?_ | refine c7 ?_ | refine d2 ?_ | refine c9 ?_ | refine d4 ?_ | refine a5 (hk := ?_) | refine b5 (hk := ?_) | refine b7 (hk := ?_) | refine u5 (hk := ?_))
    exact ⟨_, _, rKeep, rfl, c, ((Gh.start hS.own).upd 0 (o' := .cells false [imrow C { m with ended := true } c]) rfl rfl).app, ⟨hS.side.w, hS.side.s, hS.side.v0, hS.side.v1, hS.side.v2, hS.side.p, hS.side.k⟩⟩
  · have hb : (((pls C.ss 0).length : Int) == 0) = false := by rw [hl]; simpa using h0
    have e : startS C m = passS C m (-1) (0 : Nat) 7 (-1) (-1) := by unfold startS; rw [if_neg h0]; rfl
    rw [e]
    refine E_startR (h := ?_)
    repeat' (first | refine c0 ?_ | refine c7 ?_ | refine d2 ?_ | refine d0 ?_ | refine d4 ?_ | refine a5 (hk := ?_) | refine b5 (hk := ?_) | refine u6 (hk := ?_))
    refine kX (he := k_impl_have C k m c (-1) 0 7 (-1) (-1) _ P ht (by decide) hz hk (by omega) hp hS.app) (hk := ?_)
    rintro v S2 ⟨rfl, c2, h2, s2⟩
    rw [← List.append_nil S2]
    repeat' (first | refine d4 ?_)
    exact ⟨_, _, rKeepN, rfl, c2, ((Gh.start hS.own).app.call h2).app, s2⟩
theorem k_impl_ask (C : Cx) (k N : Nat) (m : Sm) (c : Ic) (host : Int) (v : Nat) (S : St) (P : Pk C) (hI : Iv C m N) (hN : N ≤ 900000) (hh : host ≤ 2) (hv : v < C.ls.length) (hS : ISim C S k m c) :
    EvR Y impl_parted_ask [.ptr k 1 0 0, I host, I v] S (fun x S' => x = I (nget m.nums v) ∧ Isp C S k m c (askS C m host v) S') := by
  have fB := hS.box
  have fN := hS.own.get 2 rfl
  have hvn : v < m.nums.length := by rw [hI.nl]; exact hv
  have hgn := map_get (f := irow) (nget_at (nums := m.nums) (j := v) hvn)
  have lN : (m.nums.map irow).length = m.nums.length := by simp
  have hgh := map_get (f := irow) (nget_at (nums := C.hs) (j := v) (by rw [P.hl]; exact hv))
  have n1 : k ≠ c.n := hS.own.ne 0 2 rfl rfl
  have n1' := Ne.symm n1
  have hkl : k < S.length := (List.getElem?_eq_some_iff.1 fB).1
  have hnl : c.n < S.length := (List.getElem?_eq_some_iff.1 fN).1
  refine E_startR (h := ?_)
  repeat' (first | refine c0 ?_ | refine c7 ?_ | refine d2 ?_ | refine d4 ?_ | refine d3' (h := ?_) | refine d4' ?_ | refine a5 (hk := ?_) | refine e5' (hk := ?_) | refine f5' (hk := ?_) | refine f6' (hk := ?_) | refine f8' (hk := ?_) | refine f9' (hk := ?_))
  refine kX (he := k_impl_get C k m c (nget C.hs v) ⟨3, host, v, 0, 0, 0, 0⟩ _ (P.home v) hS.app (by have := hI.z0; omega) (by have := hI.z1; omega) (by have := hI.z2; omega)) (hk := ?_)
  rintro w S2 ⟨rfl, c1, h1, s1, p1x⟩
  have hI1 := sees_iv hI (nget C.hs v) ⟨3, host, v, 0, 0, 0, 0⟩ (P.home v)
  have hA : askS C m host v = seesS (seesS m (nget C.hs v) ⟨3, host, v, 0, 0, 0, 0⟩) host ⟨4, nget C.hs v, v, 0, 0, 0, nget m.nums v⟩ := rfl
  rw [hA]
  generalize seesS m (nget C.hs v) ⟨3, host, v, 0, 0, 0, 0⟩ = m1 at *
  rw [← List.append_nil S2]
  repeat' (first | refine c0 ?_ | refine c7 ?_ | refine d2 ?_ | refine d4 ?_ | refine a5 (hk := ?_))
  refine kX (he := k_impl_get C k m1 c1 host ⟨4, nget C.hs v, v, 0, 0, 0, nget m.nums v⟩ _ hh ⟨h1.own.app, s1⟩ (by have := hI1.z0; omega) (by have := hI1.z1; omega) (by have := hI1.z2; omega)) (hk := ?_)
  rintro w S3 ⟨rfl, c2, h2, s2, p2x⟩
  rw [← List.append_nil S3]
  repeat' (first | refine c0 ?_ | refine c7 ?_ | refine d2 ?_ | refine c9 ?_ | refine d4 ?_ | refine a5 (hk := ?_))
  exact ⟨_, _, rKeep, rfl, c2, (((Gh.start hS.own).app.call h1).app.call h2).app, s2, p2x.trans p1x⟩
end Go.Proofs.X
end
section
namespace Go.Proofs.X
open Go Go.Proofs.XVai Go.Proofs Go.Proofs.XN
set_option linter.unusedVariables false
set_option linter.unusedSimpArgs false
set_option maxHeartbeats 4000000
set_option maxRecDepth 100000

theorem k_impl_Run_set8 (C : Cx) (k : Nat) (m : Sm) (c : Ic) (j : Nat) (y : Int) (S : St) (hj : j < m.nums.length) (hw : m.ws.length ≤ 1000000) (hS : ISim C S k m c) :
    EvR Y impl_Run_set [.ptr k 1 0 8, I j, I y] S (fun v S' => v = .tup [] ∧ Isp C S k m c { m with nums := m.nums.set j y, ws := m.ws ++ [((j : Int), y)] } S') := by
  have fB := hS.box
  have fN := hS.own.get 2 rfl
  have hkl : k < S.length := (List.getElem?_eq_some_iff.1 fB).1
  have hnl : c.n < S.length := (List.getElem?_eq_some_iff.1 fN).1
  have n1 : k ≠ c.n := hS.own.ne 0 2 rfl rfl
  have n1' := Ne.symm n1
  have hgj := map_get (f := irow) (nget_at hj)
  have lN : (m.nums.map irow).length = m.nums.length := by simp
  have lw : (m.ws.map wrow).length = m.ws.length := by simp
  have w2 := wrow2 m.ws
  have hside := hS.side
  obtain ⟨cm, cn, cq, cw, cs, o0, o1, o2, cp, cks⟩ := c
  obtain ⟨sw, ss', s0, s1, s2, sp, sk⟩ := hside
  simp only at fB fN hnl n1 n1' sw ss' s0 s1 s2 sp sk
  cases cw with
  | none =>
    have hn := sw rfl
    refine E_startR (h := ?_)
    repeat' (first | refine c0 ?_ | refine c7 ?_ | refine d2 ?_ | refine d4 ?_ | refine p1 (hk := ?_) | refine a5 (hk := ?_) | refine b5 (hk := ?_) | refine b9 (hk := ?_) | refine b7 (hk := ?_))
    refine ⟨_, _, rKeepN, rfl, ⟨cm, cn, cq, some (S.length + 0), cs, o0, o1, o2, cp, cks⟩, ?_, ⟨(fun h => by cases h), ss', s0, s1, s2, sp, sk⟩, rfl⟩
    exact (((Gh.start hS.own).upd 2 (o' := .cells false ((m.nums.set j y).map irow)) rfl (show Ob.cells false ((m.nums.map irow).set j (irow y)) = _ by rw [List.map_set])).upd 0
      (o' := .cells false [imrow C { m with nums := m.nums.set j y, ws := m.ws ++ [((j : Int), y)] } ⟨cm, cn, cq, some (S.length + 0), cs, o0, o1, o2, cp, cks⟩]) rfl
      (show Ob.cells false [[L [C.a, C.b, C.c], L C.hs, L C.ds, .lst (pls C.ss 0), L (setsL C.ls C.ss.all), I C.bad, .map cm, slo cp m.posts.length, .sl cn m.nums.length, .sl ((S.set cn (Ob.cells false ((m.nums.map irow).set j (irow y)))).length + 0) 1, slo cs m.ss.length, .sl cq 3, .bool m.ended]] = _ by simp [slo, hn])).app.add 3 (q := S.length + 0) (o := .cells true ((m.ws ++ [((j : Int), y)]).map wrow)) (Nat.le_add_right _ _)
      (fun hm => by
        rcases ids_set hm with hm | ⟨o, e⟩
        · exact nb2 hS.own (Nat.le_add_right _ _) (fun o e => by simp only [Option.some.injEq, Prod.mk.injEq] at e; omega) hm
        · simp only [Option.some.injEq, Prod.mk.injEq] at e; omega) (get_ownL (by simp) rfl) (show Ob.cells true [wrow ((j : Int), y)] = _ by rw [hn]; rfl)
  | some q =>
    have fW := hS.own.get 3 rfl
    have hql : q < S.length := (List.getElem?_eq_some_iff.1 fW).1
    have n2 : k ≠ q := hS.own.ne 0 3 rfl rfl
    have n2' := Ne.symm n2
    have n3 : cn ≠ q := hS.own.ne 2 3 rfl rfl
    have n3' := Ne.symm n3
    refine E_startR (h := ?_)
    repeat' (first | refine c0 ?_ | refine c7 ?_ | refine d2 ?_ | refine d4 ?_ | refine a5 (hk := ?_) | refine b5 (hk := ?_) | refine b9 (hk := ?_) | refine b7 (hk := ?_) | refine p0 (hk := ?_))
    refine b7 (h3 := get_old (setN n2 (setN n1 fB))) (h10 := set_old (setN n2 (setN n1 fB))) (hk := ?_)
    repeat' (first | refine d4 ?_)
    refine ⟨_, _, rKeepN, rfl, ⟨cm, cn, cq, some q, cs, o0, o1, o2, cp, cks⟩, ?_, ⟨(fun h => by cases h), ss', s0, s1, s2, sp, sk⟩, rfl⟩
    exact ((((Gh.start hS.own).upd 2 (o' := .cells false ((m.nums.set j y).map irow)) rfl (show Ob.cells false ((m.nums.map irow).set j (irow y)) = _ by rw [List.map_set])).upd 3
      (o' := .cells true ((m.ws ++ [((j : Int), y)]).map wrow)) rfl (show Ob.cells true (m.ws.map wrow ++ [wrow ((j : Int), y)]) = _ by simp)).upd 0
      (o' := .cells false [imrow C { m with nums := m.nums.set j y, ws := m.ws ++ [((j : Int), y)] } ⟨cm, cn, cq, some q, cs, o0, o1, o2, cp, cks⟩]) rfl
      (show Ob.cells false [[L [C.a, C.b, C.c], L C.hs, L C.ds, .lst (pls C.ss 0), L (setsL C.ls C.ss.all), I C.bad, .map cm, slo cp m.posts.length, .sl cn m.nums.length, .sl q (m.ws.length + 1), slo cs m.ss.length, .sl cq 3, .bool m.ended]] = _ by simp [slo])).app
theorem k_impl_set (C : Cx) (k N : Nat) (m : Sm) (c : Ic) (host : Int) (v : Nat) (x : Int) (S : St) (P : Pk C) (hI : Iv C m N) (hN : N ≤ 900000) (hv : v < C.ls.length) (hS : ISim C S k m c) :
    EvR Y impl_parted_set [.ptr k 1 0 0, I host, I v, I x] S (fun w S' => w = .tup [] ∧ Isp C S k m c (setS C m host v x) S') := by
  have fB := hS.box
  have hgh := map_get (f := irow) (nget_at (nums := C.hs) (j := v) (by rw [P.hl]; exact hv))
  refine E_startR (h := ?_)
  repeat' (first | refine c7 ?_ | refine d2 ?_ | refine a5 (hk := ?_) | refine b5 (hk := ?_) | refine b6 (hk := ?_) | refine b8 (hk := ?_))
  refine kX (he := k_impl_get C k m c (nget C.hs v) ⟨5, host, v, 0, 0, 0, x⟩ _ (P.home v) hS.app (by have := hI.z0; omega) (by have := hI.z1; omega) (by have := hI.z2; omega)) (hk := ?_)
  rintro w S2 ⟨rfl, c1, h1, s1, p1x⟩
  have hI1 := sees_iv hI (nget C.hs v) ⟨5, host, v, 0, 0, 0, x⟩ (P.home v)
  have hA : setS C m host v x = (let m1 := seesS m (nget C.hs v) ⟨5, host, v, 0, 0, 0, x⟩; { m1 with nums := m1.nums.set v x, ws := m1.ws ++ [((v : Int), x)] }) := rfl
  rw [hA]
  generalize seesS m (nget C.hs v) ⟨5, host, v, 0, 0, 0, x⟩ = m1 at *
  rw [← List.append_nil S2]
  repeat' (first | refine c0 ?_ | refine d2 ?_ | refine d4 ?_ | refine a5 (hk := ?_))
  refine kX (he := k_impl_Run_set8 C k m1 c1 v x _ (by rw [hI1.nl]; exact hv) (by have := hI1.zw; omega) ⟨h1.own.app, s1⟩) (hk := ?_)
  rintro w S3 ⟨rfl, c2, h2, s2, p2x⟩
  rw [← List.append_nil S3]
  repeat' (first | refine d4 ?_)
  exact ⟨_, _, rKeepN, rfl, c2, (((Gh.start hS.own).app.call h1).app.call h2).app, s2, p2x.trans p1x⟩
end Go.Proofs.X
end
section
namespace Go.Proofs.X
open Go Go.Proofs.XVai Go.Proofs Go.Proofs.XN
set_option linter.unusedVariables false
set_option linter.unusedSimpArgs false
set_option maxHeartbeats 40000000
set_option maxRecDepth 100000

def Loc (S : St) (cs : List Comp) (j : Nat) (o : Ob) : Prop := S[j]? = some o ∧ ∀ n, HV.sl j n ∉ cs.map Comp.c
theorem Loc.app {S L : St} {cs : List Comp} {j : Nat} {o : Ob} (h : Loc S cs j o) : Loc (S ++ L) cs j o := ⟨get_old h.1, h.2⟩
theorem Loc.call {S S1 : St} {cs cs1 : List Comp} {j : Nat} {o : Ob} (h : Loc S cs j o) (h' : Gd S (cs.map Comp.c) S1 cs1) : Loc S1 cs1 j o := by
  obtain ⟨e1, e2⟩ := Gd.old h' (List.getElem?_eq_some_iff.1 h.1).1 h.2
  exact ⟨e1.trans h.1, e2⟩
theorem Loc.new {S L : St} {cs : List Comp} {j : Nat} {o : Ob} (h : Own S cs) (hL : L[j]? = some o) : Loc (S ++ L) cs (S.length + j) o := ⟨get_own hL, h.behind (Nat.le_add_right _ _)⟩
end Go.Proofs.X
end
section
namespace Go.Proofs.X
open Go Go.Proofs.XVai Go.Proofs Go.Proofs.XN
set_option linter.unusedVariables false
set_option linter.unusedSimpArgs false
set_option maxHeartbeats 4000000
set_option maxRecDepth 100000

theorem and8x : ∀ a : Nat, a < 8 → ∀ b : Nat, b < 8 → andI a b = bothG a b := by decide +kernel
theorem and_eq {a b : Int} (ha : setB a = true) (hb : setB b = true) : andI a b = bothG a b := by
  obtain ⟨n, hn, rfl⟩ := set8 ha
  obtain ⟨m, hm, rfl⟩ := set8 hb
  exact and8x n hn m hm
theorem both7 {a : Int} (ha : setB a = true) : bothG a 7 = a := by
  obtain ⟨n, hn, rfl⟩ := set8 ha
  have : ∀ a : Nat, a < 8 → bothG a 7 = (a : Int) := by decide +kernel
  exact this n hn
theorem setsL_set {ls : List Lab} (hls : ls.all labOk = true) : ∀ (l : Stps), ∀ x ∈ setsL ls l, setB x = true
  | .nil, x, h => by simp [setsL] at h
  | .cons k v y hh t e r, x, h => by
    simp only [setsL, List.mem_cons] at h
    rcases h with rfl | h
    · exact setsF_set hls _ 0 set0
    · exact setsL_set hls r x h
theorem k_impl_do_bad (C : Cx) (k N : Nat) (m : Sm) (c : Ic) (to : Int) (w : Wd) (S : St) (P : Pk C) (ht : trOk [C.a, C.b, C.c] = true) (hls : C.ls.all labOk = true) (hI : Iv C m N) (hwl : setB w.level = true) (hwf : -1 ≤ w.frm ∧ w.frm ≤ 2) (hS : ISim C S k m c)
    (hb : (inB w.n 0 ((C.ss.sz : Int) - 1) && (nget C.ds w.n == to && withinG (nget (setsL C.ls C.ss.all) w.n) (bothG w.level (C.by w.frm)))) = false) :
    EvR Y impl_parted_do [.ptr k 1 0 0, I to, .agg (wdrow w)] S (Isd C S k m c m) := by
  have fB := hS.box
  have hkl : k < S.length := (List.getElem?_eq_some_iff.1 fB).1
  have hpl := pls_len C.ss 0
  have h8 := P.sz
  obtain ⟨wk, wf, wn, wl, wm, wa, wx⟩ := w
  simp only at hwl hwf hb
  have ei : ∀ S, Ev Y impl_in [I wn, I 0, .int .i64 (IntKind.i64.wrap (((pls C.ss 0).length : Int) - 1))] S (.bool (inB wn 0 ((C.ss.sz : Int) - 1))) S := fun S => by
    rw [hpl, i64_id (by omega) (by omega)]
    exact k_impl_in _ _ _ _
  cases q1 : inB wn 0 ((C.ss.sz : Int) - 1) with
  | false =>
    simp only [q1] at ei
    refine E_startR (h := ?_)
    repeat' (first | refine c0 ?_ | refine c1 ?_ | refine c7 ?_ | refine d2 ?_ | refine c9 ?_ | refine d4 ?_ | refine d3' (h := ?_) | refine d4' ?_ | refine k0' (he := (by first | exact ei _)) (hk := ?_) | refine b1 (hk := ?_) | refine e0' (hk := ?_) | refine e1' (hk := ?_) | refine e5' (hk := ?_) | refine f5' (hk := ?_) | refine d6 (ht := ?_))
    exact ⟨_, _, rKeep, rfl, c, (Gh.start hS.own).app, hS.side⟩
  | true =>
    simp only [q1] at ei
    have q1' := q1
    simp only [inB, decide_eq_true_eq] at q1'
    obtain ⟨i, rfl⟩ := Int.eq_ofNat_of_zero_le q1'.1
    have hi : i < C.ss.sz := by omega
    have hgd := map_get (f := irow) (nget_at (nums := C.ds) (j := i) (by rw [P.dl]; exact hi))
    by_cases q2 : nget C.ds i = to
    · have hb2 : (nget C.ds i != to) = false := by simpa using q2
      have hgs := map_get (f := irow) (nget_at (nums := setsL C.ls C.ss.all) (j := i) (by rw [setsL_len, Stps.all_len]; exact hi))
      have q3 : withinG (nget (setsL C.ls C.ss.all) i) (bothG wl (C.by wf)) = false := by
        rw [q1, Bool.true_and] at hb
        simpa [q2] using hb
      have hst : setB (nget (setsL C.ls C.ss.all) i) = true := setsL_set hls C.ss.all _ (List.mem_of_getElem? (nget_at (nums := setsL C.ls C.ss.all) (j := i) (by rw [setsL_len, Stps.all_len]; exact hi)))
      have e7 : andI wl 7 = wl := by rw [and_eq hwl (by decide), both7 hwl]
      by_cases hf : wf = -1
      · subst hf
        have hby : C.by (-1) = 7 := rfl
        rw [hby, both7 hwl] at q3
        have eW : ∀ S, Ev Y impl_within [I (nget (setsL C.ls C.ss.all) i), I (andI wl 7)] S (.bool false) S := fun S => by
          rw [e7]
          have := k_impl_within (nget (setsL C.ls C.ss.all) i) wl S hst hwl
          rwa [q3] at this
        refine E_startR (h := ?_)
        repeat' (first | refine c0 ?_ | refine c1 ?_ | refine c7 ?_ | refine d2 ?_ | refine c9 ?_ | refine d0 ?_ | refine d4 ?_ | refine d3' (h := ?_) | refine d4' ?_ | refine k0' (he := (by first | exact ei _ | exact eW _)) (hk := ?_) | refine b1 (hk := ?_) | refine a5 (hk := ?_) | refine b5 (hk := ?_) | refine e2' (hk := ?_) | refine e5' (hk := ?_) | refine f5' (hk := ?_) | refine f6' (hk := ?_) | refine f8' (hk := ?_) | refine d6 (ht := ?_) | refine d7 (hf := ?_) | refine u6 (hk := ?_))
        exact ⟨_, _, rKeep, rfl, c, (Gh.start hS.own).app, hS.side⟩
      · have hb3 : (wf != -1) = true := by simpa using hf
        have et := fun S => k_impl_trusters C.a C.b C.c wf S ht
        have eW : ∀ S, Ev Y impl_within [I (nget (setsL C.ls C.ss.all) i), I (andI (andI wl 7) (trG C.a C.b C.c wf))] S (.bool false) S := fun S => by
          rw [e7, and_eq hwl (trG_set _ _ _ _), trG_by (by omega)]
          have := k_impl_within (nget (setsL C.ls C.ss.all) i) (bothG wl (byG C.a C.b C.c wf)) S hst (bothG_set _ _)
          rwa [q3] at this
        refine E_startR (h := ?_)
        repeat' (first | refine c0 ?_ | refine c1 ?_ | refine c7 ?_ | refine d2 ?_ | refine c9 ?_ | refine d0 ?_ | refine d4 ?_ | refine d3' (h := ?_) | refine d4' ?_ | refine k0' (he := (by first | exact ei _ | exact et _ | exact eW _)) (hk := ?_) | refine b1 (hk := ?_) | refine a5 (hk := ?_) | refine b5 (hk := ?_) | refine e2' (hk := ?_) | refine e5' (hk := ?_) | refine f5' (hk := ?_) | refine f6' (hk := ?_) | refine f8' (hk := ?_) | refine d6 (ht := ?_) | refine u5 (hk := ?_) | refine u6 (hk := ?_))
        exact ⟨_, _, rKeep, rfl, c, (Gh.start hS.own).app, hS.side⟩
    · have hb2 : (nget C.ds i != to) = true := by simpa using q2
      refine E_startR (h := ?_)
      repeat' (first | refine c0 ?_ | refine c1 ?_ | refine c7 ?_ | refine d2 ?_ | refine c9 ?_ | refine d4 ?_ | refine d3' (h := ?_) | refine d4' ?_ | refine k0' (he := (by first | exact ei _)) (hk := ?_) | refine b1 (hk := ?_) | refine e2' (hk := ?_) | refine e5' (hk := ?_) | refine f5' (hk := ?_) | refine f6' (hk := ?_) | refine f8' (hk := ?_) | refine u5 (hk := ?_))
      exact ⟨_, _, rKeep, rfl, c, (Gh.start hS.own).app, hS.side⟩
end Go.Proofs.X
end
section
namespace Go.Proofs.X
open Go Go.Proofs.XVai Go.Proofs Go.Proofs.XN
set_option linter.unusedVariables false
set_option linter.unusedSimpArgs false
set_option maxHeartbeats 4000000
set_option maxRecDepth 100000

theorem k_impl_back (C : Cx) (k N : Nat) (m : Sm) (c : Ic) (to : Int) (w : Wd) (S : St) (P : Pk C) (ht : trOk [C.a, C.b, C.c] = true) (hI : Iv C m N) (hN : N ≤ 900000) (hkx : ∀ x ∈ m.keys, setB x.level = true ∧ ((x.o1 = -1 ∧ x.o2 = -1) ∨ 0 ≤ x.o2)) (hp : c.p = none) (hw : w.kind ≠ 1) (hS : ISim C S k m c) :
    EvR Y impl_parted_back [.ptr k 1 0 0, I to, .agg (wdrow w)] S (Isd C S k m c (getsS C m to w)) := by
  have fB := hS.box
  have hkl : k < S.length := (List.getElem?_eq_some_iff.1 fB).1
  have fM := hS.own.get 9 rfl
  have hml : c.m < S.length := (List.getElem?_eq_some_iff.1 fM).1
  have hlen := holds_len hS.side.k
  have n1 : k ≠ c.m := hS.own.ne 0 9 rfl rfl
  have n1' := Ne.symm n1
  obtain ⟨wk, wf, wn, wl, wm, wa, wx⟩ := w
  simp only at hw
  have hget := kmap_get wm wa hlen
  have hzp := hI.zp
  unfold getsS
  simp only [hw, if_false]
  cases hi : keyI m.keys wm wa with
  | none =>
    rw [hi] at hget
    simp only [Option.bind_none] at hget
    refine E_startR (h := ?_)
    repeat' (first | refine c0 ?_ | refine c7 ?_ | refine d2 ?_ | refine d4 ?_ | refine d3' (h := ?_) | refine b0 (hk := ?_) | refine b1 (hk := ?_) | refine a5 (hk := ?_) | refine b5 (hk := ?_) | refine b7 (hk := ?_) | refine e5' (hk := ?_) | refine f5' (hk := ?_))
    refine lkD (hS := get_old fM) (hget := hget) (hb' := kmap_keys (fun _ _ => rfl) _ _) (hv := rfl) (hc := ne0) (hk := ?_)
    repeat' (first | refine c0 ?_ | refine c1 ?_ | refine c7 ?_ | refine c9 ?_ | refine d3' (h := ?_) | refine d4' ?_ | refine e0' (hk := ?_) | refine e1' (hk := ?_) | refine e4' (ht := ?_) (hf := ?_) | refine e5' (hk := ?_) | refine f5' (hk := ?_) | (with_reducible intro hc) | refine d6 (ht := ?_))
    all_goals exact ⟨_, _, rKeep, rfl, c, (Gh.start hS.own).app, hS.side⟩
  | some i =>
    obtain ⟨x, hx, hx1, hx2⟩ := key_at hi
    have hil : i < c.ks.length := by rw [← hlen]; exact (List.getElem?_eq_some_iff.1 hx).1
    have hki := List.getElem?_eq_getElem hil
    generalize c.ks[i] = ki at hki
    rw [hi] at hget
    simp only [Option.bind_some, hki, Option.map_some] at hget
    simp only [hx]
    obtain ⟨g1', g2'⟩ := kobs_rec hx hki
    have fR := hS.own.get (10 + 2 * i) (by rw [List.getElem?_append_right (by simp)]; simpa using g1')
    have fH := hS.own.get (10 + (2 * i + 1)) (by rw [List.getElem?_append_right (by simp)]; simpa using g2')
    have hrl := (List.getElem?_eq_some_iff.1 fR).1
    have hhl := (List.getElem?_eq_some_iff.1 fH).1
    have hho := holds_at hS.side.k hx hki
    have hkey := int_keys hho.2
    have hgf := hho.1 wf
    obtain ⟨y1, ⟨j, y2, y3⟩, y4, y5⟩ := hI.ks x (List.mem_of_getElem? hx)
    obtain ⟨z1', z2'⟩ := hkx x (List.mem_of_getElem? hx)
    by_cases r1 : wm = to
    · have hb2 : (wm != to) = false := by simpa using r1
      cases r2 : x.used with
      | true =>
        simp only [Bool.true_eq_false, false_and, and_false, if_false]
        rw [r2] at fR
        refine E_startR (h := ?_)
        repeat' (first | refine c0 ?_ | refine c7 ?_ | refine d2 ?_ | refine d4 ?_ | refine d3' (h := ?_) | refine b0 (hk := ?_) | refine b1 (hk := ?_) | refine a5 (hk := ?_) | refine b5 (hk := ?_) | refine b7 (hk := ?_) | refine e5' (hk := ?_) | refine f5' (hk := ?_))
        refine lkD (hS := get_old fM) (hget := hget) (hb' := kmap_keys (fun _ _ => rfl) _ _) (hv := rfl) (hc := ne0) (hk := ?_)
        repeat' (first | refine c0 ?_ | refine c1 ?_ | refine c7 ?_ | refine c9 ?_ | refine d3' (h := ?_) | refine d4' ?_ | refine e0' (hk := ?_) | refine e1' (hk := ?_) | refine e2' (hk := ?_) | refine u2' (hk := ?_) | refine e5' (hk := ?_) | refine f5' (hk := ?_) | refine d6 (ht := ?_))
        exact ⟨_, _, rKeep, rfl, c, (Gh.start hS.own).app, hS.side⟩
      | false =>
        rw [r2] at fR
        cases r3 : hasG x.held wf with
        | false =>
          simp only [Bool.false_eq_true, and_false, if_false]
          rw [r3] at hgf
          simp only [Bool.false_eq_true, if_false] at hgf
          refine E_startR (h := ?_)
          repeat' (first | refine c0 ?_ | refine c7 ?_ | refine d2 ?_ | refine d4 ?_ | refine d3' (h := ?_) | refine b0 (hk := ?_) | refine b1 (hk := ?_) | refine a5 (hk := ?_) | refine b5 (hk := ?_) | refine b7 (hk := ?_) | refine e5' (hk := ?_) | refine f5' (hk := ?_))
          refine lkD (hS := get_old fM) (hget := hget) (hb' := kmap_keys (fun _ _ => rfl) _ _) (hv := rfl) (hc := ne0) (hk := ?_)
          repeat' (first | refine c0 ?_ | refine c7 ?_ | refine d3' (h := ?_) | refine d4' ?_ | refine e2' (hk := ?_) | refine u2' (hk := ?_) | refine e5' (hk := ?_) | refine f5' (hk := ?_))
          refine lkD (hS := get_old fH) (hget := hgf) (hb' := hkey) (hv := rfl) (hc := ne0) (hk := ?_)
          repeat' (first | refine c0 ?_ | refine c1 ?_ | refine c9 ?_ | refine d4' ?_ | refine e5' (hk := ?_) | refine d6 (ht := ?_))
          exact ⟨_, _, rKeep, rfl, c, (Gh.start hS.own).app, hS.side⟩
        | true =>
          rw [r3] at hgf
          simp only [if_true] at hgf
          rw [if_pos ⟨r1, rfl, rfl⟩]
          have haj : wa = (j : Int) := by rw [← hx2, y2]
          subst haj
          have hki' : c.ks.set i ki = c.ks := set_same hki
          have hk1 : kobs (m.keys.set i { x with used := true }) c.ks = (kobs m.keys c.ks).set (2 * i) (krec { x with used := true } ki) := by
            have := kobs_set { x with used := true } ki hx hki
            rw [hki'] at this
            rw [this, set_same]
            rw [List.getElem?_set_ne (by omega)]
            exact g2'
          have hk2 : kmap (m.keys.set i { x with used := true }) c.ks = kmap m.keys c.ks := by
            have := kmap_same { x with used := true } ki hx hki rfl
            rwa [hki'] at this
          have hside : ISide { m with keys := m.keys.set i { x with used := true } } c := by
            refine ⟨hS.side.w, hS.side.s, hS.side.v0, hS.side.v1, hS.side.v2, hS.side.p, ?_⟩
            have := holds_set (n := i) hS.side.k (show HoldOk { x with used := true } ki from hho)
            rwa [hki'] at this
          have hkh : ∀ z ∈ m.keys.set i { x with used := true }, setB z.held = true := fun z hz => by
            rcases List.mem_or_eq_of_mem_set hz with hz | rfl
            · exact (hI.ks z hz).2.2.2
            · exact y5
          have hq : ios C k { m with keys := m.keys.set i { x with used := true } } c = (ios C k m c).set (10 + 2 * i) (some (ki.r, .cells false [[I x.level, I x.o1, I x.o2, .bool true, .map ki.h]])) := by
            rw [show (ios C k m c).set (10 + 2 * i) (some (ki.r, .cells false [[I x.level, I x.o1, I x.o2, .bool true, .map ki.h]])) = ((ios C k m c).set 0 (some (k, .cells false [imrow C m c]))).set (10 + 2 * i) (some (ki.r, .cells false [[I x.level, I x.o1, I x.o2, .bool true, .map ki.h]])) from rfl, set_ten]
            simp only [ios, hk1, hk2]
          refine E_startR (h := ?_)
          repeat' (first | refine c0 ?_ | refine c7 ?_ | refine d2 ?_ | refine d4 ?_ | refine d3' (h := ?_) | refine b0 (hk := ?_) | refine b1 (hk := ?_) | refine a5 (hk := ?_) | refine b5 (hk := ?_) | refine b7 (hk := ?_) | refine e5' (hk := ?_) | refine f5' (hk := ?_))
          refine lkD (hS := get_old fM) (hget := hget) (hb' := kmap_keys (fun _ _ => rfl) _ _) (hv := rfl) (hc := ne0) (hk := ?_)
          repeat' (first | refine c0 ?_ | refine c7 ?_ | refine d3' (h := ?_) | refine d4' ?_ | refine e2' (hk := ?_) | refine u2' (hk := ?_) | refine e5' (hk := ?_) | refine f5' (hk := ?_))
          refine lkD (hS := get_old fH) (hget := hgf) (hb' := hkey) (hv := rfl) (hc := ne0) (hk := ?_)
          repeat' (first | refine c0 ?_ | refine c7 ?_ | refine d2 ?_ | refine d0 ?_ | refine d4 ?_ | refine d3' (h := ?_) | refine d4' ?_ | refine a5 (hk := ?_) | refine b7 (hk := ?_) | refine e5' (hk := ?_) | refine f5' (hk := ?_) | refine d7 (hf := ?_))
          have hG : ∀ L : St, Gh S (ids (ios C k m c)) (S.set ki.r (.cells false [[I x.level, I x.o1, I x.o2, .bool true, .map ki.h]]) ++ L) (ios C k { m with keys := m.keys.set i { x with used := true } } c) := fun L => by
            rw [hq]
            exact ((Gh.start hS.own).upd (10 + 2 * i) (o := .cells false [[I x.level, I x.o1, I x.o2, .bool false, .map ki.h]]) (o' := .cells false [[I x.level, I x.o1, I x.o2, .bool true, .map ki.h]]) (by rw [List.getElem?_append_right (by simp)]; have g3 := g1'; simp only [krec, r2] at g3; simpa using g3) rfl).app
          refine kU' (ha := rfl) (he := k_impl_behind C k { m with keys := m.keys.set i { x with used := true } } c to j x.level x.o1 x.o2 _ P ht z1' (by simp only; omega) hkh y3 hp z2' ⟨(hG _).own, hside⟩) (hk := ?_)
          rintro v S3 ⟨rfl, c3, h3, s3⟩
          rw [← List.append_nil S3]
          repeat' (first | refine d4' ?_)
          exact ⟨_, _, rKeepN, rfl, c3, ((hG _).call h3).app, s3⟩
    · have hb2 : (wm != to) = true := by simpa using r1
      simp only [r1, false_and, if_false]
      refine E_startR (h := ?_)
      repeat' (first | refine c0 ?_ | refine c7 ?_ | refine d2 ?_ | refine d4 ?_ | refine d3' (h := ?_) | refine b0 (hk := ?_) | refine b1 (hk := ?_) | refine a5 (hk := ?_) | refine b5 (hk := ?_) | refine b7 (hk := ?_) | refine e5' (hk := ?_) | refine f5' (hk := ?_))
      refine lkD (hS := get_old fM) (hget := hget) (hb' := kmap_keys (fun _ _ => rfl) _ _) (hv := rfl) (hc := ne0) (hk := ?_)
      repeat' (first | refine c0 ?_ | refine c1 ?_ | refine c7 ?_ | refine c9 ?_ | refine d3' (h := ?_) | refine d4' ?_ | refine e0' (hk := ?_) | refine e1' (hk := ?_) | refine u1' (hk := ?_) | refine e5' (hk := ?_) | refine f5' (hk := ?_) | refine d6 (ht := ?_))
      exact ⟨_, _, rKeep, rfl, c, (Gh.start hS.own).app, hS.side⟩
end Go.Proofs.X
end
section
namespace Go.Proofs.X
open Go Go.Proofs.XVai Go.Proofs Go.Proofs.XN
set_option linter.unusedVariables false
set_option linter.unusedSimpArgs false
set_option maxHeartbeats 40000000
set_option maxRecDepth 100000

section
variable {fid : Nat} {T : Tm} {S : St} {K : Tm → St → Prop} {ops : Array Oper} {l : List Oper} {dst : Option Tmp} {ty : TypeId} {pos : String} {after : Array Edge} {g0 : Option (Nat × Bool)} {bs ix : Nat} {es : List (Nat × (Nat → Prop))} {ns : List (Nat × Nat)}
end
theorem po_pure (ps : List Po) : (ps.map porow).all (fun r => r.all pureC) = true := by simp [pureC]
end Go.Proofs.X
end
section
namespace Go.Proofs.X
open Go Go.Proofs.XVai Go.Proofs Go.Proofs.XN
set_option linter.unusedVariables false
set_option linter.unusedSimpArgs false
set_option maxHeartbeats 40000000
set_option maxRecDepth 100000

def frc : HV → HV
  | .nils => .lst []
  | v => v
end Go.Proofs.X
end
section
namespace Go.Proofs.X
open Go Go.Proofs.XVai Go.Proofs Go.Proofs.XN
set_option linter.unusedVariables false
set_option linter.unusedSimpArgs false

def sig (h : Int) : Int := if h = 0 then 1 else if h = 1 then 2 else if h = 2 then 0 else h
def turnG (s : Int) : Int := (if hasG s 2 then 1 else 0) + (if hasG s 0 then 2 else 0) + (if hasG s 1 then 4 else 0)
def turnL (l : Lab) : Lab := ⟨turnG l.k, turnG l.t⟩
def turnS : Stps → Stps
  | .nil => .nil
  | .cons k v x h t e r => .cons k v x (if k = 3 then sig h else h) (turnS t) (turnS e) (turnS r)
def tau (p : Int × Int) : Int × Int := (sig p.1, p.2)
end Go.Proofs.X
end
section
namespace Go.Proofs.X
open Go Go.Proofs.XVai Go.Proofs Go.Proofs.XN
set_option linter.unusedVariables false
set_option linter.unusedSimpArgs false
set_option maxHeartbeats 4000000
set_option maxRecDepth 100000

theorem wrow22 (ws : List (Int × Int)) : (ws.map wrow).all (fun r => r.length == 2 && r.all isCell) = true := by simp [isCell]
theorem Col.own {S X : St} {j : Nat} {o : Ob} {fr : Bool} {c : HV} {rows : List (List HV)} (h : Col fr (S ++ X) c rows) (hj : ∀ k n, c = .sl k n → k ≠ S.length + j) : Col fr (S ++ X.set j o) c rows := by
  rw [← set_own]; exact h.set hj
theorem Run3.frzR {S S1 : St} {r : Rn} {c1 c2 c3 : HV} (h : Run3 S1 r c1 c2 c3) (h1 : ∀ k n, c1 = .sl k n → S.length ≤ k) (h2 : ∀ k n, c2 = .sl k n → S.length ≤ k) (h3 : ∀ k n, c3 = .sl k n → S.length ≤ k) (hl : S.length ≤ S1.length) (ho : ∀ j, j < S.length → S1[j]? = S[j]?) :
    ∃ S2, XVai.frzR S.length (.agg [c1, c2, c3]) S1 = some (RN r.nums r.ws r.ss, S2) ∧ S.length ≤ S2.length ∧ ∀ j, j < S.length → S2[j]? = S[j]? := by
  obtain ⟨S2, z1, z2, z3⟩ := h.frz h1 h2 h3
  refine ⟨S2, by rw [← z1]; rfl, by omega, fun j hj => ?_⟩
  rw [z3 j (fun n hc => by have := h1 j n hc; omega) (fun n hc => by have := h2 j n hc; omega) (fun n hc => by have := h3 j n hc; omega), ho j hj]
theorem rRn {f : Nat} {fn : Func} {T' : Tm} {S S1 : St} {r : Rn} {c1 c2 c3 : HV} (hkp : Y.keep f = false := by rfl) {a : Tmp} {t : TypeId} (hres : fn.results.toList = [.cell a t] := by rfl) {ti : TI} (h1 : Y.tab t = some ti := by rfl) {q n i of' : Nat} {fr : Bool} {rows : List (List HV)} {row : List HV}
    (h2 : T' a = .ptr q n i of' := by rfl) (h3 : S1[q]? = some (.cells fr rows)) (h4 : rows.length = n := by rfl) (h5 : rows[i]? = some row := by rfl) (h6 : XVai.part ti.agg ti.size row of' = some (.agg [c1, c2, c3]) := by rfl) (hR : Run3 S1 r c1 c2 c3)
    (o1 : ∀ k n, c1 = .sl k n → S.length ≤ k) (o2 : ∀ k n, c2 = .sl k n → S.length ≤ k) (o3 : ∀ k n, c3 = .sl k n → S.length ≤ k) (hl : S.length ≤ S1.length) (ho : ∀ j, j < S.length → S1[j]? = S[j]?) : RT Y f fn S (RN r.nums r.ws r.ss) S .ret T' S1 := by
  obtain ⟨S2, z1, z2, z3⟩ := hR.frzR o1 o2 o3 hl ho
  exact rCG hkp hres h1 h2 h3 h4 h5 h6 z1 rfl z2 z3
theorem apaI {k n k' n' : Nat} (h : k ≠ k') : Apa (.sl k n) (.sl k' n') := fun a b c d h1 h2 e => by cases h1; cases h2; exact h e
theorem apaN {a : HV} : Apa a .nils := fun k n k' n' _ h => by cases h
theorem ownN {m : Nat} : ∀ k n, HV.nils = .sl k n → m ≤ k := fun k n h => by cases h
theorem ownI {m q l : Nat} (h : m ≤ q) : ∀ k n, HV.sl q l = .sl k n → m ≤ k := fun k n h => by cases h; assumption
theorem k_impl_Run_clone (r : Rn) (S : St) (h1 : r.nums.length ≤ 1048576) (h2 : r.ws.length ≤ 1048576) (h3 : r.ss.length ≤ 1048576) : Ev Y impl_Run_clone [RN r.nums r.ws r.ss] S (RN r.nums r.ws r.ss) S := by
  obtain ⟨nums, ws, ss⟩ := r
  simp only at h1 h2 h3 ⊢
  have w2 := wrow22 ws
  have w3 := wrow22 ss
  cases ws with
  | nil =>
    cases ss with
    | nil =>
      refine E_start (h := ?_)
      repeat' (first | refine c0 ?_ | refine c7 ?_ | refine d2 ?_ | refine d4 ?_ | refine d3' (h := ?_) | refine b0 (hk := ?_) | refine b1 (hk := ?_) | refine e5' (hk := ?_) | refine f5' (hk := ?_))
      refine kX' (he := k_impl_cloneInts nums _ h1) (hx := fun v S' ⟨J, h, _⟩ => ⟨J, h⟩) (hk := ?_)
      rintro c1 J ⟨J', -, hC, hle⟩
      rw [List.append_assoc] at hC ⊢
      rcases hC with ⟨rfl, hz⟩ | ⟨q, rfl, hq⟩
      · have hC0 : ∀ S, Col false S .nils (nums.map irow) := fun _ => .inl ⟨rfl, hz⟩
        repeat' (first | refine e5' (hk := ?_) | refine f5' (hk := ?_))
        refine pN' (hk := ?_)
        repeat' (first | refine e5' (hk := ?_) | refine f5' (hk := ?_))
        refine pN' (hk := ?_)
        repeat' (first | refine c0 ?_ | refine c9 ?_ | refine d4' ?_ | refine b7b (hk := ?_) | refine b7' (hk := ?_))
        refine rRn (r := ⟨nums, [], []⟩) (c1 := .nils) (c2 := .nils) (c3 := .nils) (h3 := get_own rfl) (hR := ⟨hC0 _, .inl ⟨rfl, rfl⟩, .inl ⟨rfl, rfl⟩, apa0, apa0, apa0⟩) (o1 := ownN) (o2 := ownN) (o3 := ownN) (hl := by simp) (ho := fun j hj => by rw [List.getElem?_append_left hj])
      have hql := hle _ _ rfl
      simp at hql
      have hC0 : Col false (S ++ _) (.sl q (nums.map irow).length) (nums.map irow) := .inr ⟨q, rfl, hq⟩
      repeat' (first | refine e5' (hk := ?_) | refine f5' (hk := ?_))
      refine pN' (hk := ?_)
      repeat' (first | refine e5' (hk := ?_) | refine f5' (hk := ?_))
      refine pN' (hk := ?_)
      repeat' (first | refine c0 ?_ | refine c9 ?_ | refine d4' ?_ | refine b7b (hk := ?_) | refine b7' (hk := ?_))
      refine rRn (r := ⟨nums, [], []⟩) (c1 := (.sl q (nums.map irow).length)) (c2 := .nils) (c3 := .nils) (h3 := get_own rfl) (hR := ⟨(hC0.own fun k n hc => by cases hc; omega), .inl ⟨rfl, rfl⟩, .inl ⟨rfl, rfl⟩, apaN, apaN, apa0⟩) (o1 := (ownI (by omega))) (o2 := ownN) (o3 := ownN) (hl := by simp) (ho := fun j hj => by rw [List.getElem?_append_left hj])
    | cons s0 st =>
      have h3' : st.length + 1 ≤ 1048576 := by simpa using h3
      refine E_start (h := ?_)
      repeat' (first | refine c0 ?_ | refine c7 ?_ | refine d2 ?_ | refine d4 ?_ | refine d3' (h := ?_) | refine b0 (hk := ?_) | refine b1 (hk := ?_) | refine e5' (hk := ?_) | refine f5' (hk := ?_))
      refine kX' (he := k_impl_cloneInts nums _ h1) (hx := fun v S' ⟨J, h, _⟩ => ⟨J, h⟩) (hk := ?_)
      rintro c1 J ⟨J', -, hC, hle⟩
      rw [List.append_assoc] at hC ⊢
      rcases hC with ⟨rfl, hz⟩ | ⟨q, rfl, hq⟩
      · have hC0 : ∀ S, Col false S .nils (nums.map irow) := fun _ => .inl ⟨rfl, hz⟩
        repeat' (first | refine e5' (hk := ?_) | refine f5' (hk := ?_))
        refine pN' (hk := ?_)
        repeat' (first | refine c0 ?_ | refine c9 ?_ | refine d4' ?_ | refine p1' (hk := ?_) | refine b7b (hk := ?_) | refine e5' (hk := ?_) | refine f5' (hk := ?_) | refine b7' (hk := ?_))
        refine rRn (r := ⟨nums, [], (s0 :: st)⟩) (c1 := .nils) (c2 := .nils) (c3 := (.sl (S.length + 10) ((s0 :: st).map wrow).length)) (h3 := get_own rfl) (hR := ⟨hC0 _, .inl ⟨rfl, rfl⟩, .inr ⟨S.length + 10, rfl, get_own rfl⟩, apa0, apa0, apa0⟩) (o1 := ownN) (o2 := ownN) (o3 := (ownI (by omega))) (hl := by simp) (ho := fun j hj => by rw [List.getElem?_append_left hj])
      have hql := hle _ _ rfl
      simp at hql
      have hC0 : Col false (S ++ _) (.sl q (nums.map irow).length) (nums.map irow) := .inr ⟨q, rfl, hq⟩
      repeat' (first | refine e5' (hk := ?_) | refine f5' (hk := ?_))
      refine pN' (hk := ?_)
      repeat' (first | refine c0 ?_ | refine c9 ?_ | refine d4' ?_ | refine p1' (hk := ?_) | refine b7b (hk := ?_) | refine e5' (hk := ?_) | refine f5' (hk := ?_) | refine b7' (hk := ?_))
      refine rRn (r := ⟨nums, [], (s0 :: st)⟩) (c1 := (.sl q (nums.map irow).length)) (c2 := .nils) (c3 := (.sl (S.length + 10) ((s0 :: st).map wrow).length)) (h3 := get_own rfl) (hR := ⟨((hC0.own fun k n hc => by cases hc; omega).own fun k n hc => by cases hc; omega), .inl ⟨rfl, rfl⟩, .inr ⟨S.length + 10, rfl, get_own rfl⟩, apaN, (apaI (by omega)), apa0⟩) (o1 := (ownI (by omega))) (o2 := ownN) (o3 := (ownI (by omega))) (hl := by simp) (ho := fun j hj => by rw [List.getElem?_append_left hj])
  | cons w0 wt =>
    cases ss with
    | nil =>
      have h2' : wt.length + 1 ≤ 1048576 := by simpa using h2
      refine E_start (h := ?_)
      repeat' (first | refine c0 ?_ | refine c7 ?_ | refine d2 ?_ | refine d4 ?_ | refine d3' (h := ?_) | refine b0 (hk := ?_) | refine b1 (hk := ?_) | refine e5' (hk := ?_) | refine f5' (hk := ?_))
      refine kX' (he := k_impl_cloneInts nums _ h1) (hx := fun v S' ⟨J, h, _⟩ => ⟨J, h⟩) (hk := ?_)
      rintro c1 J ⟨J', -, hC, hle⟩
      rw [List.append_assoc] at hC ⊢
      rcases hC with ⟨rfl, hz⟩ | ⟨q, rfl, hq⟩
      · have hC0 : ∀ S, Col false S .nils (nums.map irow) := fun _ => .inl ⟨rfl, hz⟩
        repeat' (first | refine p1' (hk := ?_) | refine e5' (hk := ?_) | refine f5' (hk := ?_))
        refine pN' (hk := ?_)
        repeat' (first | refine c0 ?_ | refine c9 ?_ | refine d4' ?_ | refine b7b (hk := ?_) | refine b7' (hk := ?_))
        refine rRn (r := ⟨nums, (w0 :: wt), []⟩) (c1 := .nils) (c2 := (.sl (S.length + 7) ((w0 :: wt).map wrow).length)) (c3 := .nils) (h3 := get_own rfl) (hR := ⟨hC0 _, .inr ⟨S.length + 7, rfl, get_own rfl⟩, .inl ⟨rfl, rfl⟩, apa0, apa0, apaN⟩) (o1 := ownN) (o2 := (ownI (by omega))) (o3 := ownN) (hl := by simp) (ho := fun j hj => by rw [List.getElem?_append_left hj])
      have hql := hle _ _ rfl
      simp at hql
      have hC0 : Col false (S ++ _) (.sl q (nums.map irow).length) (nums.map irow) := .inr ⟨q, rfl, hq⟩
      repeat' (first | refine p1' (hk := ?_) | refine e5' (hk := ?_) | refine f5' (hk := ?_))
      refine pN' (hk := ?_)
      repeat' (first | refine c0 ?_ | refine c9 ?_ | refine d4' ?_ | refine b7b (hk := ?_) | refine b7' (hk := ?_))
      refine rRn (r := ⟨nums, (w0 :: wt), []⟩) (c1 := (.sl q (nums.map irow).length)) (c2 := (.sl (S.length + 7) ((w0 :: wt).map wrow).length)) (c3 := .nils) (h3 := get_own rfl) (hR := ⟨((hC0.own fun k n hc => by cases hc; omega).own fun k n hc => by cases hc; omega), .inr ⟨S.length + 7, rfl, get_own rfl⟩, .inl ⟨rfl, rfl⟩, (apaI (by omega)), apaN, apaN⟩) (o1 := (ownI (by omega))) (o2 := (ownI (by omega))) (o3 := ownN) (hl := by simp) (ho := fun j hj => by rw [List.getElem?_append_left hj])
    | cons s0 st =>
      have h2' : wt.length + 1 ≤ 1048576 := by simpa using h2
      have h3' : st.length + 1 ≤ 1048576 := by simpa using h3
      refine E_start (h := ?_)
      repeat' (first | refine c0 ?_ | refine c7 ?_ | refine d2 ?_ | refine d4 ?_ | refine d3' (h := ?_) | refine b0 (hk := ?_) | refine b1 (hk := ?_) | refine e5' (hk := ?_) | refine f5' (hk := ?_))
      refine kX' (he := k_impl_cloneInts nums _ h1) (hx := fun v S' ⟨J, h, _⟩ => ⟨J, h⟩) (hk := ?_)
      rintro c1 J ⟨J', -, hC, hle⟩
      rw [List.append_assoc] at hC ⊢
      rcases hC with ⟨rfl, hz⟩ | ⟨q, rfl, hq⟩
      · have hC0 : ∀ S, Col false S .nils (nums.map irow) := fun _ => .inl ⟨rfl, hz⟩
        repeat' (first | refine c0 ?_ | refine c9 ?_ | refine d4' ?_ | refine p1' (hk := ?_) | refine b7b (hk := ?_) | refine e5' (hk := ?_) | refine f5' (hk := ?_) | refine b7' (hk := ?_))
        refine rRn (r := ⟨nums, (w0 :: wt), (s0 :: st)⟩) (c1 := .nils) (c2 := (.sl (S.length + 7) ((w0 :: wt).map wrow).length)) (c3 := (.sl (S.length + 10) ((s0 :: st).map wrow).length)) (h3 := get_own rfl) (hR := ⟨hC0 _, .inr ⟨S.length + 7, rfl, get_own rfl⟩, .inr ⟨S.length + 10, rfl, get_own rfl⟩, apa0, apa0, (apaI (by omega))⟩) (o1 := ownN) (o2 := (ownI (by omega))) (o3 := (ownI (by omega))) (hl := by simp) (ho := fun j hj => by rw [List.getElem?_append_left hj])
      have hql := hle _ _ rfl
      simp at hql
      have hC0 : Col false (S ++ _) (.sl q (nums.map irow).length) (nums.map irow) := .inr ⟨q, rfl, hq⟩
      repeat' (first | refine c0 ?_ | refine c9 ?_ | refine d4' ?_ | refine p1' (hk := ?_) | refine b7b (hk := ?_) | refine e5' (hk := ?_) | refine f5' (hk := ?_) | refine b7' (hk := ?_))
      refine rRn (r := ⟨nums, (w0 :: wt), (s0 :: st)⟩) (c1 := (.sl q (nums.map irow).length)) (c2 := (.sl (S.length + 7) ((w0 :: wt).map wrow).length)) (c3 := (.sl (S.length + 10) ((s0 :: st).map wrow).length)) (h3 := get_own rfl) (hR := ⟨(((hC0.own fun k n hc => by cases hc; omega).own fun k n hc => by cases hc; omega).own fun k n hc => by cases hc; omega), .inr ⟨S.length + 7, rfl, get_own rfl⟩, .inr ⟨S.length + 10, rfl, get_own rfl⟩, (apaI (by omega)), (apaI (by omega)), (apaI (by omega))⟩) (o1 := (ownI (by omega))) (o2 := (ownI (by omega))) (o3 := (ownI (by omega))) (hl := by simp) (ho := fun j hj => by rw [List.getElem?_append_left hj])
end Go.Proofs.X
end
section
namespace Go.Proofs.X
open Go Go.Proofs.XVai Go.Proofs Go.Proofs.XN
set_option linter.unusedVariables false
set_option linter.unusedSimpArgs false
set_option maxHeartbeats 4000000
set_option maxRecDepth 100000

section
variable {fid : Nat} {T : Tm} {S : St} {K : Tm → St → Prop} {ops : Array Oper} {l : List Oper} {dst : Option Tmp} {ty : TypeId} {pos : String} {after : Array Edge} {g0 : Option (Nat × Bool)}
theorem kZ {f : Operand} {args : Array Operand} {ats : Array TypeId} {g : Nat} {args' : List HV} {S1 S2 : St} {v : HV} (hg : wantG ops g0 T = true := by rfl) (hf : ev T f = .fn g [] := by rfl) (hb : Y.byref g = false := by rfl)
    (ha : mapMS (frzV 0) (args.toList.map (ev T)) S = some (args', S1)) (he : Ev Y g args' S1 v S2) (hk : OW Y fid ops none l (put T dst v) S2 K) : OW Y fid ops none (⟨dst, .call ⟨.value f, args, ats⟩, ty, pos, after, g0⟩ :: l) T S K := by
  rw [← List.append_nil args'] at he
  exact ⟨WX_call hg hf hb ha he hk.of⟩
end
theorem k_impl_RunOf (ls : List Lab) (ss : Stps) (nums : List Int) (S : St) (hs : ss.sz ≤ 1048576) (hl : ls.length ≤ 1048576) (hn : nums.length ≤ 1048576) : Ev Y impl_RunOf [PR ls ss, L nums] S (RUNR ls ss nums) S := by
  cases hok : numsOk ls ss nums with
  | false =>
    have hno : (!numsOk ls ss nums) = true := by rw [hok]; rfl
    rw [RUNR, hok, show runOf ls ss nums = ⟨[], [], []⟩ by simp [runOf, hok]]
    refine E_start (h := ?_)
    repeat' (first | refine c0 ?_ | refine c1 ?_ | refine c7 ?_ | refine d2 ?_ | refine c9 ?_ | refine d4 ?_ | refine k0 (he := (by first | exact k_impl_NumsOk _ _ _ _ hs hl hn)) (hk := ?_) | refine b0 (hk := ?_) | refine b1 (hk := ?_) | refine a5 (hk := ?_) | refine b5 (hk := ?_) | refine b7 (hk := ?_) | refine u5 (hk := ?_))
    exact rRun (h3 := get_own rfl) (hz := rfl) (hl := by simp) (ho := fun j hj => by rw [List.getElem?_append_left hj])
  | true =>
    have hno : (!numsOk ls ss nums) = false := by rw [hok]; rfl
    obtain ⟨h1, h2, h3⟩ := numsOk_in hok
    obtain ⟨p1, p2, p3, p4⟩ := progOk_in h1
    rw [RUNR, hok, show runOf ls ss nums = run ss ⟨nums, [], []⟩ by simp [runOf, hok]]
    rw [← h2] at p1 p3
    have hri := runs_in ss 3 ⟨nums, [], []⟩ p3 h3
    refine E_start (h := ?_)
    repeat' (first | refine c0 ?_ | refine c7 ?_ | refine d2 ?_ | refine d0 ?_ | refine d4 ?_ | refine k0 (he := (by first | exact k_impl_NumsOk _ _ _ _ hs hl hn)) (hk := ?_) | refine b0 (hk := ?_) | refine b1 (hk := ?_) | refine a5 (hk := ?_) | refine b5 (hk := ?_) | refine u6 (hk := ?_))
    refine kX (he := k_impl_cloneInts nums _ hn) (hk := ?_)
    rintro c1 S2 ⟨J, hJ, hC, hle⟩
    have f0 : S2[S.length + 0]? = some (.cells false [[LS ls, .lst ss.rows]]) := by
      rw [hJ]; exact get_old (get_own rfl)
    have f1 : S2[S.length + 1]? = some (.cells false [[.nils, .nils, .nils]]) := by
      rw [hJ]; exact get_old (get_own rfl)
    have hl2 : S.length + 2 ≤ S2.length := by rw [hJ]; simp <;> omega
    have hold : ∀ j, j < S.length → S2[j]? = S[j]? := fun j hj => by rw [hJ, List.getElem?_append_left (by simp; omega), List.getElem?_append_left hj]
    have hle' : ∀ k n, c1 = .sl k n → S.length + 2 ≤ k := fun k n hc => by have := hle k n hc; simpa using this
    clear hle hJ
    rw [← List.append_nil S2]
    rcases hC with ⟨rfl, hz⟩ | ⟨q, rfl, hq⟩
    · repeat' (first | refine c0 ?_ | refine c7 ?_ | refine d2 ?_ | refine d4 ?_ | refine b0 (hk := ?_) | refine a5 (hk := ?_) | refine b5 (hk := ?_) | refine b7 (hk := ?_))
      refine kX (he := k_impl_Run_do _ ss 3 ⟨nums, [], []⟩ .nils .nils .nils (S2.length + 0) _ (Nat.le_refl _) (by omega) p3 h3 (by simp only; omega) (by simp; omega) (by simp; omega) ⟨get_own rfl, ⟨.inl ⟨rfl, hz⟩, .inl ⟨rfl, rfl⟩, .inl ⟨rfl, rfl⟩, apa0, apa0, apa0⟩, by simp, by simp, by simp⟩) (hk := ?_)
      rintro v S3 ⟨rfl, c2, c3, hR, n2, n3, hle3, hF⟩
      have g0 : S3[S.length + 1]? = some (.cells false [[.nils, .nils, .nils]]) := by
        rw [hF _ (by simp; omega) (by omega) (by simp) (by simp) (by simp)]
        exact get_old f1
      have g1 := hR.box
      obtain ⟨S4, z1, z2, z3⟩ := hR.run.frz (n0 := 0) (fun _ _ _ => Nat.zero_le _) (fun _ _ _ => Nat.zero_le _) (fun _ _ _ => Nat.zero_le _)
      have w2 : ∀ k n, c2 = .sl k n → S2.length ≤ k := fun k n hc => by
        rcases n2 k n hc with ⟨m, hm⟩ | hm
        · cases hm
        · simp at hm; omega
      have w3 : ∀ k n, c3 = .sl k n → S2.length ≤ k := fun k n hc => by
        rcases n3 k n hc with ⟨m, hm⟩ | hm
        · cases hm
        · simp at hm; omega
      have g2 : S4[S.length + 1]? = some (.cells false [[.nils, .nils, .nils]]) := by
        rw [z3 _ (by simp) (fun n hc => by have := w2 _ n hc; omega) (fun n hc => by have := w3 _ n hc; omega), g0]
      rw [← List.append_nil S3]
      repeat' (first | refine c0 ?_ | refine c7 ?_ | refine d2 ?_ | refine d4 ?_ | refine b5 (hk := ?_))
      refine kZ (ha := by rw [List.append_nil]; exact fmS z1 fm0) (he := k_impl_Run_clone (run ss ⟨nums, [], []⟩) S4 (by simp at hri; omega) (by simp at hri; omega) (by simp at hri; omega)) (hk := ?_)
      rw [← List.append_nil S4]
      repeat' (first | refine c0 ?_ | refine c9 ?_ | refine d4 ?_ | refine a5 (hk := ?_) | refine b7 (hk := ?_))
      refine rRun (h3 := get_old (setE g2)) (hz := rfl) (hl := by simp at hle3 z2; simp; omega) (ho := fun j hj => ?_)
      rw [List.append_nil, List.getElem?_set_ne (by omega), z3 _ (by simp) (fun n hc => by have := w2 _ n hc; omega) (fun n hc => by have := w3 _ n hc; omega), hF j (by simp; omega) (by omega) (by simp) (by simp) (by simp), List.getElem?_append_left (by omega), hold j hj]
    · have hq2 := hle' _ _ rfl
      have hql : q < S2.length := (List.getElem?_eq_some_iff.1 hq).1
      repeat' (first | refine c0 ?_ | refine c7 ?_ | refine d2 ?_ | refine d4 ?_ | refine b0 (hk := ?_) | refine a5 (hk := ?_) | refine b5 (hk := ?_) | refine b7 (hk := ?_))
      refine kX (he := k_impl_Run_do _ ss 3 ⟨nums, [], []⟩ (.sl q (nums.map irow).length) .nils .nils (S2.length + 0) _ (Nat.le_refl _) (by omega) p3 h3 (by simp only; omega) (by simp; omega) (by simp; omega) ⟨get_own rfl, ⟨.inr ⟨q, rfl, get_old hq⟩, .inl ⟨rfl, rfl⟩, .inl ⟨rfl, rfl⟩, apaN, apaN, apa0⟩, fun a b hc => by cases hc; omega, by simp, by simp⟩) (hk := ?_)
      rintro v S3 ⟨rfl, c2, c3, hR, n2, n3, hle3, hF⟩
      have g0 : S3[S.length + 1]? = some (.cells false [[.nils, .nils, .nils]]) := by
        rw [hF _ (by simp; omega) (by omega) (fun n hc => by cases hc; omega) (by simp) (by simp)]
        exact get_old f1
      have g1 := hR.box
      obtain ⟨S4, z1, z2, z3⟩ := hR.run.frz (n0 := 0) (fun _ _ _ => Nat.zero_le _) (fun _ _ _ => Nat.zero_le _) (fun _ _ _ => Nat.zero_le _)
      have w2 : ∀ k n, c2 = .sl k n → S2.length ≤ k := fun k n hc => by
        rcases n2 k n hc with ⟨m, hm⟩ | hm
        · cases hm
        · simp at hm; omega
      have w3 : ∀ k n, c3 = .sl k n → S2.length ≤ k := fun k n hc => by
        rcases n3 k n hc with ⟨m, hm⟩ | hm
        · cases hm
        · simp at hm; omega
      have g2 : S4[S.length + 1]? = some (.cells false [[.nils, .nils, .nils]]) := by
        rw [z3 _ (fun n hc => by cases hc; omega) (fun n hc => by have := w2 _ n hc; omega) (fun n hc => by have := w3 _ n hc; omega), g0]
      rw [← List.append_nil S3]
      repeat' (first | refine c0 ?_ | refine c7 ?_ | refine d2 ?_ | refine d4 ?_ | refine b5 (hk := ?_))
      refine kZ (ha := by rw [List.append_nil]; exact fmS z1 fm0) (he := k_impl_Run_clone (run ss ⟨nums, [], []⟩) S4 (by simp at hri; omega) (by simp at hri; omega) (by simp at hri; omega)) (hk := ?_)
      rw [← List.append_nil S4]
      repeat' (first | refine c0 ?_ | refine c9 ?_ | refine d4 ?_ | refine a5 (hk := ?_) | refine b7 (hk := ?_))
      refine rRun (h3 := get_old (setE g2)) (hz := rfl) (hl := by simp at hle3 z2; simp; omega) (ho := fun j hj => ?_)
      rw [List.append_nil, List.getElem?_set_ne (by omega), z3 _ (fun n hc => by cases hc; omega) (fun n hc => by have := w2 _ n hc; omega) (fun n hc => by have := w3 _ n hc; omega), hF j (by simp; omega) (by omega) (fun n hc => by cases hc; omega) (by simp) (by simp), List.getElem?_append_left (by omega), hold j hj]
end Go.Proofs.X
end
section
namespace Go.Proofs.X
open Go Go.Proofs.XVai Go.Proofs Go.Proofs.XN
set_option linter.unusedVariables false
set_option linter.unusedSimpArgs false
set_option maxHeartbeats 40000000
set_option maxRecDepth 100000

/-! ### steps in rows of one's own -/
def Tr (S : St) : Nat → Nat → Stps → List (List HV) → Prop
  | lo, hi, .nil, rows => rows = [] ∧ lo ≤ hi
  | lo, hi, .cons k v x h t e r, rows => ∃ (qt qe m1 m2 : Nat) (rt re rs : List (List HV)), rows = ([I k, I v, I x.kind, I x.a, I x.b, I h, .sl qt t.len, .sl qe e.len] : List HV) :: rs ∧
      (lo ≤ qt ∧ S[qt]? = some (.cells false rt) ∧ Tr S (qt + 1) m1 t rt) ∧ (m1 ≤ qe ∧ S[qe]? = some (.cells false re) ∧ Tr S (qe + 1) m2 e re) ∧ Tr S m2 hi r rs
def Node (S : St) (lo hi : Nat) (c : HV) (l : Stps) : Prop := ∃ q rows, c = .sl q l.len ∧ lo ≤ q ∧ S[q]? = some (.cells false rows) ∧ Tr S (q + 1) hi l rows
theorem Tr.le {S : St} : ∀ {lo hi : Nat} {l : Stps} {rows : List (List HV)}, Tr S lo hi l rows → lo ≤ hi
  | _, _, .nil, _, h => h.2
  | lo, hi, .cons k v x hh t e r, _, h => by
    obtain ⟨qt, qe, m1, m2, rt, re, rs, _, ⟨h1, _, h2⟩, ⟨h3, _, h4⟩, h5⟩ := h
    have := h2.le
    have := h4.le
    have := h5.le
    omega
theorem Tr.keep {S S' : St} : ∀ {lo hi : Nat} {l : Stps} {rows : List (List HV)}, Tr S lo hi l rows → (∀ j, lo ≤ j → j < hi → S'[j]? = S[j]?) → Tr S' lo hi l rows
  | _, _, .nil, _, h, _ => h
  | lo, hi, .cons k v x hh t e r, _, h, hf => by
    obtain ⟨qt, qe, m1, m2, rt, re, rs, h0, ⟨h1, g1, h2⟩, ⟨h3, g2, h4⟩, h5⟩ := h
    have l2 := h2.le
    have l4 := h4.le
    have l5 := h5.le
    exact ⟨qt, qe, m1, m2, rt, re, rs, h0, ⟨h1, by rw [hf _ (by omega) (by omega), g1], h2.keep fun j _ _ => hf j (by omega) (by omega)⟩, ⟨h3, by rw [hf _ (by omega) (by omega), g2], h4.keep fun j _ _ => hf j (by omega) (by omega)⟩, h5.keep fun j _ _ => hf j (by omega) (by omega)⟩
theorem Tr.wide {S : St} : ∀ {lo hi lo' hi' : Nat} {l : Stps} {rows : List (List HV)}, Tr S lo hi l rows → lo' ≤ lo → hi ≤ hi' → Tr S lo' hi' l rows
  | _, _, _, _, .nil, _, h, h1, h2 => ⟨h.1, by have := h.2; omega⟩
  | lo, hi, _, _, .cons k v x hh t e r, _, h, w1, w2 => by
    obtain ⟨qt, qe, m1, m2, rt, re, rs, h0, ⟨h1, g1, h2⟩, ⟨h3, g2, h4⟩, h5⟩ := h
    exact ⟨qt, qe, m1, m2, rt, re, rs, h0, ⟨by omega, g1, h2⟩, ⟨h3, g2, h4⟩, h5.wide (Nat.le_refl _) w2⟩
theorem Tr.len {S : St} : ∀ {lo hi : Nat} {l : Stps} {rows : List (List HV)}, Tr S lo hi l rows → rows.length = l.len
  | _, _, .nil, _, h => by rw [h.1]; rfl
  | lo, hi, .cons k v x hh t e r, _, h => by
    obtain ⟨qt, qe, m1, m2, rt, re, rs, rfl, _, _, h5⟩ := h
    simp [Stps.len, h5.len]
theorem Tr.app {S : St} : ∀ {lo m hi : Nat} {a b : Stps} {ra rb : List (List HV)}, Tr S lo m a ra → Tr S m hi b rb → Tr S lo hi (a.app b) (ra ++ rb)
  | lo, m, hi, .nil, b, _, _, ha, hb => by
    rw [ha.1]
    exact hb.wide ha.2 (Nat.le_refl _)
  | lo, m, hi, .cons k v x hh t e r, b, _, _, ha, hb => by
    obtain ⟨qt, qe, m1, m2, rt, re, rs, rfl, h1, h2, h5⟩ := ha
    exact ⟨qt, qe, m1, m2, rt, re, rs ++ _, rfl, h1, h2, h5.app hb⟩
section
variable {fid : Nat} {T : Tm} {S : St} {K : Tm → St → Prop} {ops : Array Oper} {l : List Oper} {dst : Option Tmp} {ty : TypeId} {pos : String} {after : Array Edge} {g0 : Option (Nat × Bool)}
end
def Cloned (l : Stps) (S : St) (v : HV) (S' : St) : Prop := ∃ J, S' = S ++ J ∧ Node S' S.length S'.length v l
end Go.Proofs.X
end
section
namespace Go.Proofs.X
open Go Go.Proofs.XVai Go.Proofs Go.Proofs.XN
set_option linter.unusedVariables false
set_option linter.unusedSimpArgs false
set_option maxHeartbeats 4000000
set_option maxRecDepth 100000

def newS (nums : List Int) : Sm := ⟨nums, [], [], [], [], [], [], [], false⟩
abbrev nrow (C : Cx) (n : Nat) (nn : Nat) (vc : HV) : List HV := [LS C.ls, .lst C.ss.rows, L [C.a, C.b, C.c], L C.hs, L C.ds, .lst C.ss.all.rows, L (nx C.ss 0), .sl nn n, .nils, .nils, vc, .nils, .nils, I C.bad, .bool false]
abbrev noC : Comp := ⟨.nils, false, []⟩
abbrev noT : Comp := ⟨.nils, true, []⟩
abbrev ncs (C : Cx) (nums : List Int) (k nn : Nat) (vc : HV) (rows : List (List HV)) (x y z : Comp) : List Comp := [⟨.sl k 1, false, [nrow C nums.length nn vc]⟩, ⟨vc, false, rows⟩, ⟨.sl nn nums.length, false, nums.map irow⟩, noT, noT, x, y, z, noT, noC]
theorem Gd.add {S0 S : St} {c0 : List HV} {cs : List Comp} (h : Gd S0 c0 S cs) (i : Nat) {q n : Nat} {fr : Bool} {rows rows2 : List (List HV)} (hq : S0.length ≤ q) (hm : ∀ n, HV.sl q n ∉ cs.map Comp.c) (hS : S[q]? = some (.cells fr rows2)) (hr : rows2 = rows) (hn : n = rows.length) :
    Gd S0 c0 S (cs.set i ⟨.sl q n, fr, rows⟩) := by
  subst hr
  refine ⟨h.own.put i (.inr ⟨q, by rw [hn], hS⟩) ?_ (fun j y _ hy q' n1 e => rfl), h.fo.le, h.fo.fr, fun j n1 hj => ?_⟩
  · rintro q' n1 e j n2 hj y hy e2
    cases e
    exact hm n2 (List.mem_map.2 ⟨y, List.mem_of_getElem? hy, e2⟩)
  · rw [map_set_c] at hj
    rcases List.mem_or_eq_of_mem_set hj with hj | hj
    · exact h.fo.nw j _ hj
    · cases hj
      exact .inl hq
end Go.Proofs.X
end
section
namespace Go.Proofs.X
open Go Go.Proofs.XVai Go.Proofs Go.Proofs.XN
set_option linter.unusedVariables false
set_option linter.unusedSimpArgs false
set_option maxHeartbeats 4000000
set_option maxRecDepth 100000

theorem k_impl_newParted (C : Cx) (nums : List Int) (S : St) (P : Pk C) (hn : nums.length = C.ls.length) (h0 : nums ≠ []) :
    EvR Y impl_newParted [PR C.ls C.ss, PL [C.a, C.b, C.c] C.hs C.ds, L nums, I C.bad] S (fun v S' => ∃ k c, v = .ptr k 1 0 0 ∧ Gh S [] S' (ios C k (newS nums) c) ∧ ISide (newS nums) c ∧ c.p = none) := by
  have h8 := P.sz
  have h4 := P.ll
  refine E_startR (h := ?_)
  repeat' (first | refine c0 ?_ | refine c7 ?_ | refine d2 ?_ | refine d4 ?_ | refine d3' (h := ?_) | refine k0' (he := (by first | exact k_impl_count0 _ _ (by omega) | exact k_impl_TypeSets _ _ _ P.ok)) (hk := ?_) | refine k3' (he := (by first | exact k_impl_count0 _ _ (by omega) | exact k_impl_TypeSets _ _ _ P.ok)) (hk := ?_) | refine b1 (hk := ?_) | refine a5 (hk := ?_) | refine e5' (hk := ?_) | refine f5' (hk := ?_))
  refine mmD (hk := ?_)
  repeat' (first | refine e5' (hk := ?_))
  refine kX' (he := k_impl_cloneInts nums _ (by omega)) (hx := fun v S' ⟨J, h, _⟩ => ⟨J, h⟩) (hk := ?_)
  rintro v J ⟨J', hJ, hcol, hge⟩
  rcases hcol with ⟨rfl, hnil⟩ | ⟨q, rfl, fN⟩
  · exact absurd (by simpa using hnil) h0
  have hq17 := hge q _ rfl
  simp at hq17
  rw [List.append_assoc S] at fN ⊢
  have hql := (List.getElem?_eq_some_iff.1 fN).1
  repeat' (first | refine b7b (hk := ?_))
  refine g0D (c := 3) (hz := rfl) (hz' := rfl) (hc := by decide) (hk := ?_)
  repeat' (first | refine c0 ?_ | refine c9 ?_ | refine d4' ?_ | refine b1' (hk := ?_) | refine b7b (hk := ?_) | refine e5' (hk := ?_))
  refine ⟨_, _, rKeep, S.length + 16, ⟨S.length + 9, q, S.length + 13, none, none, none, none, none, none, []⟩, rfl, ?_, ⟨fun _ => rfl, fun _ => rfl, fun _ => rfl, fun _ => rfl, fun _ => rfl, fun _ => rfl, trivial⟩, rfl⟩
  have h00 : Gh S [] S [none, none, none, none, none, none, none, none, none, none] := ⟨⟨fun q o h => by simp at h, fun i j q o o' h _ => by
    have := List.mem_of_getElem? h
    simp at this⟩, Nat.le_refl _, fun _ _ _ => rfl, fun j hm => by
    obtain ⟨o, ho⟩ := ids_mem.1 hm
    simp at ho⟩
  refine (((h00.app.add 0 (q := S.length + 16) (o := .cells false [imrow C (newS nums) ⟨S.length + 9, q, S.length + 13, none, none, none, none, none, none, []⟩]) (Nat.le_add_right _ _) ?_ (get_own rfl) (show Ob.cells false [[L [C.a, C.b, C.c], L C.hs, L C.ds, .lst (pls C.ss 0), L (setsL C.ls C.ss.all), I C.bad, .map (S.length + 9), .nils, .sl q (nums.map irow).length, .nils, .nils, .sl (S.length + 13) 3, .bool false]] = _ by simp [newS, slo])).add 1 (q := S.length + 13) (o := .cells false [[.nils], [.nils], [.nils]]) (Nat.le_add_right _ _) ?_ (get_own rfl) rfl).add 2 (q := q) (o := .cells false (nums.map irow)) (by omega) ?_ ?_ rfl).add 9 (q := S.length + 9) (o := .map []) (Nat.le_add_right _ _) ?_ (get_own rfl) rfl
  all_goals first
    | (intro hm; obtain ⟨o, ho⟩ := ids_mem.1 hm; simp at ho; done)
    | (intro hm; obtain ⟨o, ho⟩ := ids_mem.1 hm; simp at ho; omega)
    | skip
  rw [List.getElem?_append_right (by omega)] at fN ⊢
  rw [List.getElem?_set_ne (by omega), List.getElem?_set_ne (by omega)]
  exact fN
end Go.Proofs.X
end
section
namespace Go.Proofs.X
open Go Go.Proofs.XVai Go.Proofs Go.Proofs.XN
set_option linter.unusedVariables false
set_option linter.unusedSimpArgs false
set_option maxHeartbeats 4000000
set_option maxRecDepth 100000

def Loc2 (S : St) (os : Os) (j : Nat) (o : Ob) : Prop := S[j]? = some o ∧ j ∉ ids os
theorem Loc2.app {S L : St} {os : Os} {j : Nat} {o : Ob} (h : Loc2 S os j o) : Loc2 (S ++ L) os j o := ⟨get_old h.1, h.2⟩
theorem Loc2.call {S S1 : St} {os os1 : Os} {j : Nat} {o : Ob} (h : Loc2 S os j o) (h' : Gh S (ids os) S1 os1) : Loc2 S1 os1 j o := by
  obtain ⟨e1, e2⟩ := Gh.old h' (List.getElem?_eq_some_iff.1 h.1).1 h.2
  exact ⟨e1.trans h.1, e2⟩
theorem Loc2.new {S L : St} {os : Os} {j : Nat} {o : Ob} (h : Hv S os) (hL : L[j]? = some o) : Loc2 (S ++ L) os (S.length + j) o := ⟨get_own hL, h.behind (Nat.le_add_right _ _)⟩
theorem Loc2.set {S : St} {os : Os} {i j : Nat} {o o' : Ob} (h : Loc2 S os j o) (hij : j ≠ i) : Loc2 (S.set i o') os j o := ⟨setN hij h.1, h.2⟩
theorem k_impl_do_a (C : Cx) (k N : Nat) (m : Sm) (c : Ic) (to : Int) (i : Nat) (w : Wd) (S : St) (P : Pk C) (ht : trOk [C.a, C.b, C.c] = true) (hls : C.ls.all labOk = true) (hI : Iv C m N) (hN : N ≤ 600000) (hto : 0 ≤ to ∧ to ≤ 2) (hwl : setB w.level = true) (hwf : -1 ≤ w.frm ∧ w.frm ≤ 2) (h12 : (w.maker = -1 ∧ w.after = -1) ∨ 0 ≤ w.after) (hp : c.p = none)
    (hf : w.frm = -1) (hi : i < C.ss.sz) (hwn : w.n = i) (hdo : nget C.ds i = to) (hin : withinG (nget (setsL C.ls C.ss.all) i) (bothG w.level (C.by w.frm)) = true) (hS : ISim C S k m c) :
    EvR Y impl_parted_do [.ptr k 1 0 0, I to, .agg (wdrow w)] S (Isd C S k m c (doS C m to i (bothG w.level (C.by w.frm)) w.maker w.after)) := by
  have fB := hS.box
  have hkl : k < S.length := (List.getElem?_eq_some_iff.1 fB).1
  have hpl := pls_len C.ss 0
  have h8 := P.sz
  obtain ⟨wk, wf, wn, wl, wm, wa, wx⟩ := w
  simp only at hwl hwf h12 hwn hin hf ⊢
  subst hwn
  have ei : ∀ S, Ev Y impl_in [I i, I 0, .int .i64 (IntKind.i64.wrap (((pls C.ss 0).length : Int) - 1))] S (.bool true) S := fun S => by
    rw [hpl, i64_id (by omega) (by omega)]
    have := k_impl_in i 0 ((C.ss.sz : Int) - 1) S
    rwa [show inB i 0 ((C.ss.sz : Int) - 1) = true by simp [inB]; omega] at this
  have hgd := map_get (f := irow) (nget_at (nums := C.ds) (j := i) (by rw [P.dl]; exact hi))
  have hb2 : (nget C.ds i != to) = false := by simpa using hdo
  have hgs := map_get (f := irow) (nget_at (nums := setsL C.ls C.ss.all) (j := i) (by rw [setsL_len, Stps.all_len]; exact hi))
  have hst : setB (nget (setsL C.ls C.ss.all) i) = true := setsL_set hls C.ss.all _ (List.mem_of_getElem? (nget_at (nums := setsL C.ls C.ss.all) (j := i) (by rw [setsL_len, Stps.all_len]; exact hi)))
  have e7 : andI wl 7 = wl := by rw [and_eq hwl (by decide), both7 hwl]
  have hpa := place_at hi
  have hok := P.stp hi
  have hroom := stp_room hi
  have eT := fun S => k_impl_trusters C.a C.b C.c to S ht
  unfold doS
  generalize hsx : stpAt C i = s at *
  have hvok := stepVars_ok hok
  have hvl := stepVars_len s.k s.v s.x
  clear hsx
  obtain ⟨sk, sv, sx, sh, stt, se⟩ := s
  obtain ⟨o1, o2, o3⟩ := hok
  simp only at hpa hroom hvok hvl o1 o2 o3 ⊢
  have em := fun S => k_impl_makes C.ls.length sk sv sx sh stt se S o2
  have hlow : setB (bothG (bothG wl (C.by wf)) (C.by to)) = true := bothG_set _ _
  subst hf
  have hby : C.by (-1) = 7 := rfl
  rw [hby, both7 hwl] at hin ⊢
  have eW : ∀ S, Ev Y impl_within [I (nget (setsL C.ls C.ss.all) i), I (andI wl 7)] S (.bool true) S := fun S => by
    rw [e7]
    have := k_impl_within (nget (setsL C.ls C.ss.all) i) wl S hst hwl
    rwa [hin] at this
  refine E_startR (h := ?_)
  repeat' (first | refine c0 ?_ | refine c7 ?_ | refine d2 ?_ | refine c8 ?_ | refine d0 ?_ | refine d4 ?_ | refine d3' (h := ?_) | refine d4' ?_ | refine k0 (he := (by first | exact ei _ | exact eW _ | exact eT _ | exact em _)) (hk := ?_) | refine k0' (he := (by first | exact ei _ | exact eW _ | exact eT _ | exact em _)) (hk := ?_) | refine b0 (hk := ?_) | refine b1 (hk := ?_) | refine b3 (hk := ?_) | refine a5 (hk := ?_) | refine b5 (hk := ?_) | refine b7 (hk := ?_) | refine b0' (hk := ?_) | refine e2' (hk := ?_) | refine e5' (hk := ?_) | refine f5' (hk := ?_) | refine f6' (hk := ?_) | refine f8' (hk := ?_) | refine b7' (hk := ?_) | refine d7 (hf := ?_) | refine u6 (hk := ?_))
  obtain ⟨vs, hvs⟩ : ∃ vs, stepVars sk sv sx = vs := ⟨_, rfl⟩
  rw [hvs] at hvok hvl ⊢
  refine C_list vs (fun pre r T' S' => ∃ (T0 : Tm) (S1 : St) (m1 : Sm) (c1 : Ic) (p7 p8 p9 : Nat), Gh S (ids (ios C k m c)) S1 (ios C k m1 c1) ∧ ISide m1 c1 ∧ c1.p = none ∧ Iv C m1 (N + 2 * pre.length) ∧ m1.nums = m.nums ∧ vs.foldl (fun m v => askS C m to v) m = r.foldl (fun m v => askS C m to v) m1 ∧
      Loc2 S1 (ios C k m1 c1) (S.length + 0) (.cells false [wdrow ⟨wk, -1, i, wl, wm, wa, wx⟩]) ∧ Loc2 S1 (ios C k m1 c1) p7 (.cells false [[I wm, I wa]]) ∧ Loc2 S1 (ios C k m1 c1) p8 (.cells false [plr sk sv sx sh stt se (nget (nx C.ss 0) i) (if stt.len = 0 then -1 else ((i + 1 : Nat) : Int)) (if se.len = 0 then -1 else ((i + 1 + stt.sz : Nat) : Int))]) ∧
      Loc2 S1 (ios C k m1 c1) p9 (.cells true ((pre.map (nget m.nums)).map irow)) ∧ (S.length ≤ p9 ∧ p9 ≠ S.length + 0 ∧ p9 ≠ p7 ∧ p9 ≠ p8) ∧
      T' = putL T0 [(0, .ptr k 1 0 0), (1, I to), (5, .ptr (S.length + 0) 1 0 0), (6, I (bothG wl (C.by to))), (7, .ptr p7 1 0 0), (8, .ptr p8 1 0 0), (9, .sl p9 pre.length), (88, L vs), (89, I (vs.map irow).length), (90, I pre.length)] ∧ S' = S1 ++ [])
    ⟨_, _, m, c, _, _, _, (Gh.start hS.own).app, hS.side, hp, hI, rfl, rfl, Loc2.new hS.own rfl, ?_, ?_, ?_, ?_, at_mk ⟨rfl, rfl, rfl, ?_, rfl, rfl, rfl, rfl, rfl, rfl, trivial⟩, (List.append_nil _).symm⟩ ?_ ?_
  · exact Loc2.new hS.own rfl
  · exact Loc2.new hS.own rfl
  · exact Loc2.new hS.own rfl
  · exact ⟨Nat.le_add_right _ _, (by first | omega | (simp; done) | (simp; omega) | (intro h; simp at h; omega) | (intro h; simp at h; done)), (by first | omega | (simp; done) | (simp; omega) | (intro h; simp at h; omega) | (intro h; simp at h; done)), (by first | omega | (simp; done) | (simp; omega) | (intro h; simp at h; omega) | (intro h; simp at h; done))⟩
  · show I (andI (andI wl 7) (trG C.a C.b C.c to)) = _
    rw [e7, and_eq hwl (trG_set _ _ _ _), trG_by hto.1]
  · rintro pre y r T' S' hx ⟨T0, S1, m1, c1, p7, p8, p9, hG, hs1, hp1x, hI1, hnm, hq, l5, l7, l8, l9, ⟨q1, q2, q3, q4⟩, rfl, rfl⟩
    have hgv := map_get (f := irow) (mid hx)
    have hlt := mid_lt hx
    have hc0 : (pre.length : Int) < ((vs.map irow).length : Int) := by simp; omega
    obtain ⟨j, rfl, hj⟩ := vOk_nat (hvok y (by rw [hx]; simp))
    repeat' (first | refine c0 ?_ | refine c7 ?_ | refine d2 ?_ | refine c8 ?_ | refine d0 ?_ | refine d4 ?_ | refine a5 (hk := ?_) | refine b6 (hk := ?_) | refine b8 (hk := ?_) | refine u7 (hk := ?_))
    refine kX (he := k_impl_ask C k (N + 2 * pre.length) m1 c1 to j _ P hI1 (by omega) hto.2 hj ⟨hG.own.app, hs1⟩) (hk := ?_)
    rintro x S2 ⟨rfl, c2, h2, s2, hp2x⟩
    have f9 := (l9.app.call h2).1
    have e11 : ((pre.map (nget m.nums)).map irow).all (fun r => r.length == 1) = true := irow11 _
    have e12 : ((pre.map (nget m.nums)).map irow).length = pre.length := by simp
    rw [← List.append_nil S2]
    repeat' (first | refine c0 ?_ | refine c3 ?_ | refine d2 ?_ | refine d4 ?_ | refine a5 (hk := ?_) | refine p0 (hk := ?_))
    refine ⟨_, _, askS C m1 to j, c2, p7, p8, p9, ((hG.app.call h2).loc q1 (l9.app.call h2).2).app, s2, hp2x.trans hp1x, (ask_iv P hI1 to j hto.2).mono (by simp; omega), (ask_nums C m1 to j).trans hnm, by rw [hq]; rfl, ((l5.app.call h2).set (Ne.symm q2)).app, ((l7.app.call h2).set (Ne.symm q3)).app, ((l8.app.call h2).set (Ne.symm q4)).app, ⟨?_, (l9.app.call h2).2⟩, ⟨q1, q2, q3, q4⟩, at_mk ⟨rfl, rfl, rfl, rfl, rfl, rfl, ?_, rfl, rfl, inc (by omega), trivial⟩, (List.append_nil _).symm⟩
    · rw [get_set f9, List.map_append, List.map_append, hnm]; rfl
    · show HV.sl _ _ = _
      simp
  · rintro T' S' ⟨T0, S1, m1, c1, p7, p8, p9, hG, hs1, hp1x, hI1, hnm, hq, l5, l7, l8, l9, ⟨q1, q2, q3, q4⟩, rfl, rfl⟩
    have hc0 : ¬ ((vs.length : Int) < ((vs.map irow).length : Int)) := by simp
    rw [hq]
    simp only [List.foldl_nil]
    clear hq
    have hzp1 := hI1.zp
    have hf5 := l5.1
    have hf7 := l7.1
    have hf8 := l8.1
    have hf9 := l9.1
    have hp8 : p9 ≠ p8 := q4
    have hp8' := Ne.symm q4
    have n9 : ((vs.map (nget m.nums)).map irow).length = vs.length := by simp
    have fB1 : S1[k]? = some (.cells false [imrow C m1 c1]) := hG.own.get 0 rfl
    obtain ⟨j, rfl, hj⟩ := vOk_nat o1
    by_cases s1 : sk = 1
    · subst s1
      have hx := o2 rfl
      rw [← hI1.nl] at hx
      have hvn := valNum_small hx hI1.sm
      have hv9 : vs.map (nget m.nums) = (varsV sx).map (nget m1.nums) := by
        rw [← hvs, hnm, vars_same hx]; rfl
      rw [hv9] at hf9
      have n9' : (((varsV sx).map (nget m1.nums)).map irow).length = vs.length := by rw [← hv9]; exact n9
      simp only [if_true]
      repeat' (first | refine c0 ?_ | refine c2 ?_ | refine c5 ?_ | refine c7 ?_ | refine d2 ?_ | refine c8 ?_ | refine d1 ?_ | refine d4 ?_ | refine d3' (h := ?_) | refine a5 (hk := ?_) | refine b5 (hk := ?_) | refine e5' (hk := ?_) | refine f5' (hk := ?_) | refine d6 (ht := ?_) | refine u8 (hk := ?_))
      refine k0' (ha' := fm1 rfl (fm1 (fzV_sl rfl (Nat.zero_le _) (get_old hf9) n9' (irow_pure _)) fm0)) (he := k_impl_Val_of sx m1.nums _ hx hI1.sm) (hk := ?_)
      skip
      refine kU' (ha := rfl) (he := k_impl_set C k (N + 2 * vs.length) m1 c1 to j (valNum sx m1.nums) _ P hI1 (by omega) hj ⟨hG.own.app, hs1⟩) (hk := ?_)
      rintro v S2 ⟨rfl, c2, h2, s2, hp2x⟩
      have hI2 := set_iv P hI1 to j (valNum sx m1.nums) hvn
      have hG2 := (hG.app.call h2)
      have l52 := l5.app.call h2
      have l72 := l7.app.call h2
      have z5 := l52.1
      have z7 := l72.1
      generalize setS C m1 to j (valNum sx m1.nums) = m2 at *
      rw [← List.append_nil S2]
      repeat' (first | refine c0 ?_ | refine c3 ?_ | refine d2 ?_ | refine d4' ?_ | refine a5 (hk := ?_) | refine b5 (hk := ?_))
      refine kX (he := k_impl_behind C k m2 c2 to i (bothG wl (C.by to)) wm wa _ P ht (bothG_set _ _) (by have := hI2.zp; omega) (fun x hx => (hI2.ks x hx).2.2.2) hi (hp2x.trans hp1x) h12 ⟨hG2.own.app, s2⟩) (hk := ?_)
      rintro v S3 ⟨rfl, c3, h3, s3⟩
      rw [← List.append_nil S3]
      repeat' (first | refine d4 ?_)
      exact ⟨_, _, rKeepN, rfl, c3, (hG2.app.call h3).app, s3⟩
    · by_cases s3 : sk = 3
      · subst s3
        simp only [if_false, if_true, s1]
        have hv1 : vs = [(j : Int)] := by rw [← hvs]; rfl
        have hl1 : vs.length = 1 := by rw [hv1]; rfl
        rw [hv1] at hf9
        have hz9 : S1[p9]? = some (.cells true [[I (nget m.nums j)]]) := hf9
        clear hf9
        rw [hl1] at hc0 ⊢
        rw [← hnm] at hz9
        have hs2 : sh ≤ 2 := by have := o3 rfl; simp only [inB, decide_eq_true_eq] at this; omega
        repeat' (first | refine c0 ?_ | refine c2 ?_ | refine c5 ?_ | refine c7 ?_ | refine d2 ?_ | refine c8 ?_ | refine d1 ?_ | refine d4 ?_ | refine d3' (h := ?_) | refine a5 (hk := ?_) | refine b5 (hk := ?_) | refine b7b (hk := ?_) | refine e5' (hk := ?_) | refine f5' (hk := ?_) | refine f9' (hk := ?_) | refine d6 (ht := ?_) | refine d7 (hf := ?_) | refine u8 (hk := ?_))
        refine kU' (ha := rfl) (he := k_impl_get C k m1 c1 sh ⟨6, to, 0, 0, 0, 0, nget m1.nums j⟩ _ hs2 ⟨hG.own.app, hs1⟩ (by have := hI1.z0; omega) (by have := hI1.z1; omega) (by have := hI1.z2; omega)) (hk := ?_)
        rintro v S2 ⟨rfl, c2, h2, s2, hp2x⟩
        have hI2 := sees_iv hI1 sh ⟨6, to, 0, 0, 0, 0, nget m1.nums j⟩ hs2
        have hnm2 := sees_nums m1 sh ⟨6, to, 0, 0, 0, 0, nget m1.nums j⟩
        have hG2 := hG.app.call h2
        have z5 := l5.app.call h2
        have z51 := z5.1
        have z7 := l7.app.call h2
        have z8 := (l8.app.call h2).1
        have l92 := (l9.app.call h2).1
        rw [hv1] at l92
        have z9 : S2[p9]? = some (.cells true [[I (nget m.nums j)]]) := l92
        clear l92 h2
        rw [← hnm, ← hnm2] at z9
        generalize seesS m1 sh ⟨6, to, 0, 0, 0, 0, nget m1.nums j⟩ = m2 at *
        have hzs := hI2.zs
        have hzp2 := hI2.zp
        have fB2 : S2[k]? = some (.cells false [imrow C m2 c2]) := hG2.own.get 0 rfl
        have hkl2 : k < S2.length := (List.getElem?_eq_some_iff.1 fB2).1
        have hle2 := hG2.fo.le
        obtain ⟨cm, cn, cq, cw, cs, y0, y1, y2, cp, cks⟩ := c2
        have hcp : cp = none := hp2x.trans hp1x
        obtain ⟨sw, ss', t0, t1, t2, sp, sq⟩ := s2
        simp only at fB2 sw ss' t0 t1 t2 sp sq
        have z71 := z7.1
        have h7k : p7 ≠ k := fun e => z7.2 (ids_mem.2 ⟨_, by rw [e]; exact List.mem_cons_self⟩)
        have h7k' := Ne.symm h7k
        have h5k : S.length + 0 ≠ k := fun e => z5.2 (ids_mem.2 ⟨_, by rw [e]; exact List.mem_cons_self⟩)
        have h5k' := Ne.symm h5k
        have hbh : ∀ (c' : Ic) (S' : St), c'.p = none → ISim C S' k { m2 with ss := m2.ss ++ [((sh : Int), nget m2.nums j)] } c' → EvR Y impl_parted_behind [.ptr k 1 0 0, I to, I i, I (bothG wl (C.by to)), .agg [I wm, I wa]] S' (Isd C S' k { m2 with ss := m2.ss ++ [((sh : Int), nget m2.nums j)] } c' (goOnS C { m2 with ss := m2.ss ++ [((sh : Int), nget m2.nums j)] } to i (bothG wl (C.by to)) wm wa)) := fun c' S' hp hS' => k_impl_behind C k _ c' to i (bothG wl (C.by to)) wm wa S' P ht (bothG_set _ _) (show m2.posts.length ≤ _ by omega) (fun x hx => (hI2.ks x hx).2.2.2) hi hp h12 hS'
        rw [← List.append_nil S2]
        cases cs with
        | none =>
          have hn := ss' rfl
          repeat' (first | refine c0 ?_ | refine c3 ?_ | refine d2 ?_ | refine d3' (h := ?_) | refine d4' ?_ | refine a5 (hk := ?_) | refine b5 (hk := ?_) | refine p1' (hk := ?_) | refine b4' (hk := ?_) | refine b7b (hk := ?_) | refine e5' (hk := ?_) | refine f5' (hk := ?_) | refine f9' (hk := ?_) | refine b7' (hk := ?_))
          have hG3 : ∀ LL : St, LL[15]? = some (Ob.cells true [wrow (sh, nget m2.nums j)]) → Gh S (ids (ios C k m c)) (S2.set k (.cells false [[L [C.a, C.b, C.c], L C.hs, L C.ds, .lst (pls C.ss 0), L (setsL C.ls C.ss.all), I C.bad, .map cm, slo cp m2.posts.length, .sl cn m2.nums.length, slo cw m2.ws.length, .sl (S2.length + 15) 1, .sl cq 3, .bool m2.ended]]) ++ LL) (ios C k { m2 with ss := m2.ss ++ [(sh, nget m2.nums j)] } ⟨cm, cn, cq, cw, some (S2.length + 15), y0, y1, y2, cp, cks⟩) := fun LL hL => by
            exact ((hG2.upd 0 (o' := .cells false [imrow C { m2 with ss := m2.ss ++ [(sh, nget m2.nums j)] } ⟨cm, cn, cq, cw, some (S2.length + 15), y0, y1, y2, cp, cks⟩]) rfl (show Ob.cells false [[L [C.a, C.b, C.c], L C.hs, L C.ds, .lst (pls C.ss 0), L (setsL C.ls C.ss.all), I C.bad, .map cm, slo cp m2.posts.length, .sl cn m2.nums.length, slo cw m2.ws.length, .sl (S2.length + 15) 1, .sl cq 3, .bool m2.ended]] = _ by simp [slo, hn])).app (L := LL)).add 4 (q := S2.length + 15) (o := .cells true ((m2.ss ++ [(sh, nget m2.nums j)]).map wrow)) (by omega) (nb2 hG2.own (Nat.le_add_right _ _) fun o e => by simp only [Option.some.injEq, Prod.mk.injEq] at e; omega) (get_ownL (by simp) hL) (by rw [hn]; rfl)
          refine kX (he := hbh ⟨cm, cn, cq, cw, some (S2.length + 15), y0, y1, y2, cp, cks⟩ _ hcp ⟨(hG3 _ rfl).own, ⟨sw, (fun h => by cases h), t0, t1, t2, sp, sq⟩⟩) (hk := ?_)
          rintro v S4 ⟨rfl, c4, h4, s4⟩
          rw [← List.append_nil S4]
          repeat' (first | refine d4 ?_)
          exact ⟨_, _, rKeepN, rfl, c4, ((hG3 _ rfl).call h4).app, s4⟩
        | some q =>
          have n2 : k ≠ q := hG2.own.ne 0 4 rfl rfl
          have n2' := Ne.symm n2
          have fW := hG2.own.get 4 rfl
          have lw : (m2.ss.map wrow).length = m2.ss.length := by simp
          have w2 := wrow2 m2.ss
          have hql : q < S2.length := (List.getElem?_eq_some_iff.1 fW).1
          have h5q : S.length + 0 ≠ q := fun e => z5.2 (ids_mem.2 ⟨_, by rw [e]; exact List.mem_of_getElem? (i := 4) rfl⟩)
          have h7q : p7 ≠ q := fun e => z7.2 (ids_mem.2 ⟨_, by rw [e]; exact List.mem_of_getElem? (i := 4) rfl⟩)
          repeat' (first | refine c0 ?_ | refine c3 ?_ | refine d2 ?_ | refine d3' (h := ?_) | refine d4' ?_ | refine a5 (hk := ?_) | refine b4' (hk := ?_) | refine b7b (hk := ?_) | refine e5' (hk := ?_) | refine f5' (hk := ?_) | refine f9' (hk := ?_) | refine b7' (hk := ?_) | refine p0' (hk := ?_))
          refine b5 (h3 := get_old (setN h5k (setN h5q z51))) (hk := ?_)
          repeat' (first | refine a5 (hk := ?_))
          refine b5 (h3 := get_old (setN h7k (setN h7q z71))) (hk := ?_)
          skip
          have hG3 : ∀ LL : St, Gh S (ids (ios C k m c)) ((S2.set q (.cells true (m2.ss.map wrow ++ [wrow (sh, nget m2.nums j)]))).set k (.cells false [[L [C.a, C.b, C.c], L C.hs, L C.ds, .lst (pls C.ss 0), L (setsL C.ls C.ss.all), I C.bad, .map cm, slo cp m2.posts.length, .sl cn m2.nums.length, slo cw m2.ws.length, .sl q (m2.ss.length + 1), .sl cq 3, .bool m2.ended]]) ++ LL) (ios C k { m2 with ss := m2.ss ++ [(sh, nget m2.nums j)] } ⟨cm, cn, cq, cw, some q, y0, y1, y2, cp, cks⟩) := fun LL => by
            exact ((hG2.upd 4 (o' := .cells true ((m2.ss ++ [(sh, nget m2.nums j)]).map wrow)) rfl (show Ob.cells true (m2.ss.map wrow ++ [wrow (sh, nget m2.nums j)]) = _ by simp)).upd 0 (o' := .cells false [imrow C { m2 with ss := m2.ss ++ [(sh, nget m2.nums j)] } ⟨cm, cn, cq, cw, some q, y0, y1, y2, cp, cks⟩]) rfl (show Ob.cells false [[L [C.a, C.b, C.c], L C.hs, L C.ds, .lst (pls C.ss 0), L (setsL C.ls C.ss.all), I C.bad, .map cm, slo cp m2.posts.length, .sl cn m2.nums.length, slo cw m2.ws.length, .sl q (m2.ss.length + 1), .sl cq 3, .bool m2.ended]] = _ by simp [slo])).app
          refine kX (he := hbh ⟨cm, cn, cq, cw, some q, y0, y1, y2, cp, cks⟩ _ hcp ⟨(hG3 _).own, ⟨sw, (fun h => by cases h), t0, t1, t2, sp, sq⟩⟩) (hk := ?_)
          rintro v S4 ⟨rfl, c4, h4, s4⟩
          rw [← List.append_nil S4]
          repeat' (first | refine d4 ?_)
          exact ⟨_, _, rKeepN, rfl, c4, ((hG3 _).call h4).app, s4⟩
      · have hk1 : (sk == 1) = false := by simpa using s1
        have hk3 : (sk == 3) = false := by simpa using s3
        have hv1 : vs = [(j : Int)] := by rw [← hvs]; simp [stepVars, s1]
        have hl1 : vs.length = 1 := by rw [hv1]; rfl
        rw [hv1] at hf9
        have hz9 : S1[p9]? = some (.cells true [[I (nget m.nums j)]]) := hf9
        clear hf9
        rw [hl1] at hc0 ⊢
        simp only [s1, s3, if_false]
        by_cases hnz : nget m1.nums j = 0
        · have hb : (nget m.nums j == 0) = true := by rw [← hnm]; simpa using hnz
          simp only [hnz, ne_eq, not_true_eq_false, if_false]
          by_cases hL : se.len = 0
          · rw [if_pos hL] at hf8
            have hlt : ¬ ((-1 : Int) ≥ 0) := by omega
            have e : ∀ lv, branchS C m1 to i ((i + 1 + stt.sz : Nat) : Int) (decide (0 < se.len)) lv wm wa = goOnS C m1 to i lv wm wa := fun lv => by unfold branchS; rw [if_pos (by simp [hL])]
            rw [e]
            repeat' (first | refine c0 ?_ | refine c2 ?_ | refine c3 ?_ | refine c5 ?_ | refine c7 ?_ | refine d2 ?_ | refine c8 ?_ | refine d0 ?_ | refine d1 ?_ | refine d4 ?_ | refine b0 (hk := ?_) | refine a5 (hk := ?_) | refine b5 (hk := ?_) | refine b9 (hk := ?_) | refine b7 (hk := ?_) | refine d7 (hf := ?_) | refine u5 (hk := ?_) | refine u6 (hk := ?_) | refine u8 (hk := ?_))
            refine kX (he := k_impl_behind C k m1 c1 to i (bothG wl (C.by to)) wm wa _ P ht (bothG_set _ _) (by omega) (fun x hx => (hI1.ks x hx).2.2.2) hi hp1x h12 ⟨hG.own.app, hs1⟩) (hk := ?_)
            rintro v S3 ⟨rfl, c3, h3, s3⟩
            rw [← List.append_nil S3]
            repeat' (first | refine d4 ?_)
            exact ⟨_, _, rKeepN, rfl, c3, (hG.app.call h3).app, s3⟩
          · rw [if_neg hL] at hf8
            have hge : ((i + 1 + stt.sz : Nat) : Int) ≥ 0 := by omega
            have hll := se.len_sz
            have e : ∀ lv, branchS C m1 to i ((i + 1 + stt.sz : Nat) : Int) (decide (0 < se.len)) lv wm wa = (if (keyI m1.keys to i).isSome then m1 else passS C (makeS m1 to i lv wm wa) to ((i + 1 + stt.sz : Nat) : Int) lv to i) := fun lv => by unfold branchS; rw [if_neg (by simp; omega)]
            rw [e]
            cases hi2 : keyI m1.keys to i with
            | some x =>
              simp only [Option.isSome_some, if_true]
              repeat' (first | refine c0 ?_ | refine c2 ?_ | refine c5 ?_ | refine c7 ?_ | refine d2 ?_ | refine c8 ?_ | refine d1 ?_ | refine d4 ?_ | refine b0 (hk := ?_) | refine a5 (hk := ?_) | refine b5 (hk := ?_) | refine b9 (hk := ?_) | refine b7 (hk := ?_) | refine d6 (ht := ?_) | refine u5 (hk := ?_) | refine u6 (hk := ?_) | refine u8 (hk := ?_))
              refine kX (he := k_impl_make_old C k m1 c1 to i (bothG wl (C.by to)) wm wa x _ ⟨hG.own.app, hs1⟩ hi2) (hk := ?_)
              rintro v S3 ⟨rfl, h3⟩
              rw [← List.append_nil S3]
              repeat' (first | refine c0 ?_ | refine c4 ?_ | refine c9 ?_ | refine d0 ?_ | refine d4 ?_ | refine d7 (hf := ?_))
              exact ⟨_, _, rKeep, rfl, c1, (hG.app.call h3).app, hs1⟩
            | none =>
              simp only [Option.isSome_none, Bool.false_eq_true, if_false]
              repeat' (first | refine c0 ?_ | refine c2 ?_ | refine c5 ?_ | refine c7 ?_ | refine d2 ?_ | refine c8 ?_ | refine d1 ?_ | refine d4 ?_ | refine b0 (hk := ?_) | refine a5 (hk := ?_) | refine b5 (hk := ?_) | refine b9 (hk := ?_) | refine b7 (hk := ?_) | refine d6 (ht := ?_) | refine u5 (hk := ?_) | refine u6 (hk := ?_) | refine u8 (hk := ?_))
              refine kX (he := k_impl_make_new C k m1 c1 to i (bothG wl (C.by to)) wm wa _ ⟨hG.own.app, hs1⟩ hi2) (hk := ?_)
              rintro v S3 ⟨rfl, c3, h3, s3, p3x⟩
              have fK := (Gh.old h3 (j := S1.length + 0) (by simp) (hG.own.behind (Nat.le_add_right _ _))).1.trans (get_ownL (by simp) rfl)
              rw [← List.append_nil S3]
              repeat' (first | refine c0 ?_ | refine d2 ?_ | refine d4 ?_ | refine a5 (hk := ?_) | refine b5 (hk := ?_) | refine d6 (ht := ?_))
              refine kX (he := k_impl_have C k (makeS m1 to i (bothG wl (C.by to)) wm wa) c3 to (i + 1 + stt.sz) (bothG wl (C.by to)) to i _ P ht (bothG_set _ _) (show m1.posts.length ≤ _ by omega) (fun x hx => by
                simp only [makeS, List.mem_append, List.mem_singleton] at hx
                rcases hx with hx | rfl
                · exact (hI1.ks x hx).2.2.2
                · rfl) (by omega) (p3x.trans hp1x) ⟨(hG.app.call h3).own.app, s3⟩) (hk := ?_)
              rintro v S4 ⟨rfl, c4, h4, s4⟩
              rw [← List.append_nil S4]
              repeat' (first | refine c0 ?_ | refine c9 ?_ | refine d4 ?_)
              exact ⟨_, _, rKeep, rfl, c4, ((hG.app.call h3).app.call h4).app, s4⟩
        · have hb : (nget m.nums j == 0) = false := by rw [← hnm]; simpa using hnz
          simp only [hnz, ne_eq, not_false_eq_true, if_true]
          by_cases hL : stt.len = 0
          · rw [if_pos hL] at hf8
            have hlt : ¬ ((-1 : Int) ≥ 0) := by omega
            have e : ∀ lv, branchS C m1 to i ((i + 1 : Nat) : Int) (decide (0 < stt.len)) lv wm wa = goOnS C m1 to i lv wm wa := fun lv => by unfold branchS; rw [if_pos (by simp [hL])]
            rw [e]
            repeat' (first | refine c0 ?_ | refine c2 ?_ | refine c3 ?_ | refine c5 ?_ | refine c7 ?_ | refine d2 ?_ | refine c8 ?_ | refine d0 ?_ | refine d1 ?_ | refine d4 ?_ | refine b0 (hk := ?_) | refine a5 (hk := ?_) | refine b5 (hk := ?_) | refine b9 (hk := ?_) | refine b7 (hk := ?_) | refine d7 (hf := ?_) | refine u6 (hk := ?_) | refine u8 (hk := ?_))
            refine kX (he := k_impl_behind C k m1 c1 to i (bothG wl (C.by to)) wm wa _ P ht (bothG_set _ _) (by omega) (fun x hx => (hI1.ks x hx).2.2.2) hi hp1x h12 ⟨hG.own.app, hs1⟩) (hk := ?_)
            rintro v S3 ⟨rfl, c3, h3, s3⟩
            rw [← List.append_nil S3]
            repeat' (first | refine d4 ?_)
            exact ⟨_, _, rKeepN, rfl, c3, (hG.app.call h3).app, s3⟩
          · rw [if_neg hL] at hf8
            have hge : ((i + 1 : Nat) : Int) ≥ 0 := by omega
            have hll := stt.len_sz
            have e : ∀ lv, branchS C m1 to i ((i + 1 : Nat) : Int) (decide (0 < stt.len)) lv wm wa = (if (keyI m1.keys to i).isSome then m1 else passS C (makeS m1 to i lv wm wa) to ((i + 1 : Nat) : Int) lv to i) := fun lv => by unfold branchS; rw [if_neg (by simp; omega)]
            rw [e]
            cases hi2 : keyI m1.keys to i with
            | some x =>
              simp only [Option.isSome_some, if_true]
              repeat' (first | refine c0 ?_ | refine c2 ?_ | refine c5 ?_ | refine c7 ?_ | refine d2 ?_ | refine c8 ?_ | refine d0 ?_ | refine d1 ?_ | refine d4 ?_ | refine b0 (hk := ?_) | refine a5 (hk := ?_) | refine b5 (hk := ?_) | refine b9 (hk := ?_) | refine b7 (hk := ?_) | refine d6 (ht := ?_) | refine u6 (hk := ?_) | refine u8 (hk := ?_))
              refine kX (he := k_impl_make_old C k m1 c1 to i (bothG wl (C.by to)) wm wa x _ ⟨hG.own.app, hs1⟩ hi2) (hk := ?_)
              rintro v S3 ⟨rfl, h3⟩
              rw [← List.append_nil S3]
              repeat' (first | refine c0 ?_ | refine c4 ?_ | refine c9 ?_ | refine d0 ?_ | refine d4 ?_ | refine d7 (hf := ?_))
              exact ⟨_, _, rKeep, rfl, c1, (hG.app.call h3).app, hs1⟩
            | none =>
              simp only [Option.isSome_none, Bool.false_eq_true, if_false]
              repeat' (first | refine c0 ?_ | refine c2 ?_ | refine c5 ?_ | refine c7 ?_ | refine d2 ?_ | refine c8 ?_ | refine d0 ?_ | refine d1 ?_ | refine d4 ?_ | refine b0 (hk := ?_) | refine a5 (hk := ?_) | refine b5 (hk := ?_) | refine b9 (hk := ?_) | refine b7 (hk := ?_) | refine d6 (ht := ?_) | refine u6 (hk := ?_) | refine u8 (hk := ?_))
              refine kX (he := k_impl_make_new C k m1 c1 to i (bothG wl (C.by to)) wm wa _ ⟨hG.own.app, hs1⟩ hi2) (hk := ?_)
              rintro v S3 ⟨rfl, c3, h3, s3, p3x⟩
              have fK := (Gh.old h3 (j := S1.length + 0) (by simp) (hG.own.behind (Nat.le_add_right _ _))).1.trans (get_ownL (by simp) rfl)
              rw [← List.append_nil S3]
              repeat' (first | refine c0 ?_ | refine d2 ?_ | refine d4 ?_ | refine a5 (hk := ?_) | refine b5 (hk := ?_) | refine d6 (ht := ?_))
              refine kX (he := k_impl_have C k (makeS m1 to i (bothG wl (C.by to)) wm wa) c3 to (i + 1) (bothG wl (C.by to)) to i _ P ht (bothG_set _ _) (show m1.posts.length ≤ _ by omega) (fun x hx => by
                simp only [makeS, List.mem_append, List.mem_singleton] at hx
                rcases hx with hx | rfl
                · exact (hI1.ks x hx).2.2.2
                · rfl) (by omega) (p3x.trans hp1x) ⟨(hG.app.call h3).own.app, s3⟩) (hk := ?_)
              rintro v S4 ⟨rfl, c4, h4, s4⟩
              rw [← List.append_nil S4]
              repeat' (first | refine c0 ?_ | refine c9 ?_ | refine d4 ?_)
              exact ⟨_, _, rKeep, rfl, c4, ((hG.app.call h3).app.call h4).app, s4⟩
theorem k_impl_do_b (C : Cx) (k N : Nat) (m : Sm) (c : Ic) (to : Int) (i : Nat) (w : Wd) (S : St) (P : Pk C) (ht : trOk [C.a, C.b, C.c] = true) (hls : C.ls.all labOk = true) (hI : Iv C m N) (hN : N ≤ 600000) (hto : 0 ≤ to ∧ to ≤ 2) (hwl : setB w.level = true) (hwf : -1 ≤ w.frm ∧ w.frm ≤ 2) (h12 : (w.maker = -1 ∧ w.after = -1) ∨ 0 ≤ w.after) (hp : c.p = none)
    (hf : ¬ w.frm = -1) (hi : i < C.ss.sz) (hwn : w.n = i) (hdo : nget C.ds i = to) (hin : withinG (nget (setsL C.ls C.ss.all) i) (bothG w.level (C.by w.frm)) = true) (hS : ISim C S k m c) :
    EvR Y impl_parted_do [.ptr k 1 0 0, I to, .agg (wdrow w)] S (Isd C S k m c (doS C m to i (bothG w.level (C.by w.frm)) w.maker w.after)) := by
  have fB := hS.box
  have hkl : k < S.length := (List.getElem?_eq_some_iff.1 fB).1
  have hpl := pls_len C.ss 0
  have h8 := P.sz
  obtain ⟨wk, wf, wn, wl, wm, wa, wx⟩ := w
  simp only at hwl hwf h12 hwn hin hf ⊢
  subst hwn
  have ei : ∀ S, Ev Y impl_in [I i, I 0, .int .i64 (IntKind.i64.wrap (((pls C.ss 0).length : Int) - 1))] S (.bool true) S := fun S => by
    rw [hpl, i64_id (by omega) (by omega)]
    have := k_impl_in i 0 ((C.ss.sz : Int) - 1) S
    rwa [show inB i 0 ((C.ss.sz : Int) - 1) = true by simp [inB]; omega] at this
  have hgd := map_get (f := irow) (nget_at (nums := C.ds) (j := i) (by rw [P.dl]; exact hi))
  have hb2 : (nget C.ds i != to) = false := by simpa using hdo
  have hgs := map_get (f := irow) (nget_at (nums := setsL C.ls C.ss.all) (j := i) (by rw [setsL_len, Stps.all_len]; exact hi))
  have hst : setB (nget (setsL C.ls C.ss.all) i) = true := setsL_set hls C.ss.all _ (List.mem_of_getElem? (nget_at (nums := setsL C.ls C.ss.all) (j := i) (by rw [setsL_len, Stps.all_len]; exact hi)))
  have e7 : andI wl 7 = wl := by rw [and_eq hwl (by decide), both7 hwl]
  have hpa := place_at hi
  have hok := P.stp hi
  have hroom := stp_room hi
  have eT := fun S => k_impl_trusters C.a C.b C.c to S ht
  unfold doS
  generalize hsx : stpAt C i = s at *
  have hvok := stepVars_ok hok
  have hvl := stepVars_len s.k s.v s.x
  clear hsx
  obtain ⟨sk, sv, sx, sh, stt, se⟩ := s
  obtain ⟨o1, o2, o3⟩ := hok
  simp only at hpa hroom hvok hvl o1 o2 o3 ⊢
  have em := fun S => k_impl_makes C.ls.length sk sv sx sh stt se S o2
  have hlow : setB (bothG (bothG wl (C.by wf)) (C.by to)) = true := bothG_set _ _
  have hb3 : (wf != -1) = true := by simpa using hf
  have et := fun S => k_impl_trusters C.a C.b C.c wf S ht
  have eW : ∀ S, Ev Y impl_within [I (nget (setsL C.ls C.ss.all) i), I (andI (andI wl 7) (trG C.a C.b C.c wf))] S (.bool true) S := fun S => by
    rw [e7, and_eq hwl (trG_set _ _ _ _), trG_by (by omega)]
    have := k_impl_within (nget (setsL C.ls C.ss.all) i) (bothG wl (byG C.a C.b C.c wf)) S hst (bothG_set _ _)
    rwa [hin] at this
  refine E_startR (h := ?_)
  repeat' (first | refine c0 ?_ | refine c7 ?_ | refine d2 ?_ | refine c8 ?_ | refine d0 ?_ | refine d4 ?_ | refine d3' (h := ?_) | refine d4' ?_ | refine k0 (he := (by first | exact ei _ | exact et _ | exact eW _ | exact eT _ | exact em _)) (hk := ?_) | refine k0' (he := (by first | exact ei _ | exact et _ | exact eW _ | exact eT _ | exact em _)) (hk := ?_) | refine b0 (hk := ?_) | refine b1 (hk := ?_) | refine b3 (hk := ?_) | refine a5 (hk := ?_) | refine b5 (hk := ?_) | refine b7 (hk := ?_) | refine b0' (hk := ?_) | refine e2' (hk := ?_) | refine e5' (hk := ?_) | refine f5' (hk := ?_) | refine f6' (hk := ?_) | refine f8' (hk := ?_) | refine b7' (hk := ?_) | refine d7 (hf := ?_) | refine u5 (hk := ?_) | refine u6 (hk := ?_))
  obtain ⟨vs, hvs⟩ : ∃ vs, stepVars sk sv sx = vs := ⟨_, rfl⟩
  rw [hvs] at hvok hvl ⊢
  refine C_list vs (fun pre r T' S' => ∃ (T0 : Tm) (S1 : St) (m1 : Sm) (c1 : Ic) (p7 p8 p9 : Nat), Gh S (ids (ios C k m c)) S1 (ios C k m1 c1) ∧ ISide m1 c1 ∧ c1.p = none ∧ Iv C m1 (N + 2 * pre.length) ∧ m1.nums = m.nums ∧ vs.foldl (fun m v => askS C m to v) m = r.foldl (fun m v => askS C m to v) m1 ∧
      Loc2 S1 (ios C k m1 c1) (S.length + 0) (.cells false [wdrow ⟨wk, wf, i, wl, wm, wa, wx⟩]) ∧ Loc2 S1 (ios C k m1 c1) p7 (.cells false [[I wm, I wa]]) ∧ Loc2 S1 (ios C k m1 c1) p8 (.cells false [plr sk sv sx sh stt se (nget (nx C.ss 0) i) (if stt.len = 0 then -1 else ((i + 1 : Nat) : Int)) (if se.len = 0 then -1 else ((i + 1 + stt.sz : Nat) : Int))]) ∧
      Loc2 S1 (ios C k m1 c1) p9 (.cells true ((pre.map (nget m.nums)).map irow)) ∧ (S.length ≤ p9 ∧ p9 ≠ S.length + 0 ∧ p9 ≠ p7 ∧ p9 ≠ p8) ∧
      T' = putL T0 [(0, .ptr k 1 0 0), (1, I to), (5, .ptr (S.length + 0) 1 0 0), (6, I (bothG (bothG wl (C.by wf)) (C.by to))), (7, .ptr p7 1 0 0), (8, .ptr p8 1 0 0), (9, .sl p9 pre.length), (88, L vs), (89, I (vs.map irow).length), (90, I pre.length)] ∧ S' = S1 ++ [])
    ⟨_, _, m, c, _, _, _, (Gh.start hS.own).app, hS.side, hp, hI, rfl, rfl, Loc2.new hS.own rfl, ?_, ?_, ?_, ?_, at_mk ⟨rfl, rfl, rfl, ?_, rfl, rfl, rfl, rfl, rfl, rfl, trivial⟩, (List.append_nil _).symm⟩ ?_ ?_
  · exact Loc2.new hS.own rfl
  · exact Loc2.new hS.own rfl
  · exact Loc2.new hS.own rfl
  · exact ⟨Nat.le_add_right _ _, (by first | omega | (simp; done) | (simp; omega) | (intro h; simp at h; omega) | (intro h; simp at h; done)), (by first | omega | (simp; done) | (simp; omega) | (intro h; simp at h; omega) | (intro h; simp at h; done)), (by first | omega | (simp; done) | (simp; omega) | (intro h; simp at h; omega) | (intro h; simp at h; done))⟩
  · show I (andI (andI (andI wl 7) (trG C.a C.b C.c wf)) (trG C.a C.b C.c to)) = _
    rw [e7, and_eq hwl (trG_set _ _ _ _), and_eq (bothG_set _ _) (trG_set _ _ _ _), trG_by (h := wf) (by omega), trG_by hto.1]
  · rintro pre y r T' S' hx ⟨T0, S1, m1, c1, p7, p8, p9, hG, hs1, hp1x, hI1, hnm, hq, l5, l7, l8, l9, ⟨q1, q2, q3, q4⟩, rfl, rfl⟩
    have hgv := map_get (f := irow) (mid hx)
    have hlt := mid_lt hx
    have hc0 : (pre.length : Int) < ((vs.map irow).length : Int) := by simp; omega
    obtain ⟨j, rfl, hj⟩ := vOk_nat (hvok y (by rw [hx]; simp))
    repeat' (first | refine c0 ?_ | refine c7 ?_ | refine d2 ?_ | refine c8 ?_ | refine d0 ?_ | refine d4 ?_ | refine a5 (hk := ?_) | refine b6 (hk := ?_) | refine b8 (hk := ?_) | refine u7 (hk := ?_))
    refine kX (he := k_impl_ask C k (N + 2 * pre.length) m1 c1 to j _ P hI1 (by omega) hto.2 hj ⟨hG.own.app, hs1⟩) (hk := ?_)
    rintro x S2 ⟨rfl, c2, h2, s2, hp2x⟩
    have f9 := (l9.app.call h2).1
    have e11 : ((pre.map (nget m.nums)).map irow).all (fun r => r.length == 1) = true := irow11 _
    have e12 : ((pre.map (nget m.nums)).map irow).length = pre.length := by simp
    rw [← List.append_nil S2]
    repeat' (first | refine c0 ?_ | refine c3 ?_ | refine d2 ?_ | refine d4 ?_ | refine a5 (hk := ?_) | refine p0 (hk := ?_))
    refine ⟨_, _, askS C m1 to j, c2, p7, p8, p9, ((hG.app.call h2).loc q1 (l9.app.call h2).2).app, s2, hp2x.trans hp1x, (ask_iv P hI1 to j hto.2).mono (by simp; omega), (ask_nums C m1 to j).trans hnm, by rw [hq]; rfl, ((l5.app.call h2).set (Ne.symm q2)).app, ((l7.app.call h2).set (Ne.symm q3)).app, ((l8.app.call h2).set (Ne.symm q4)).app, ⟨?_, (l9.app.call h2).2⟩, ⟨q1, q2, q3, q4⟩, at_mk ⟨rfl, rfl, rfl, rfl, rfl, rfl, ?_, rfl, rfl, inc (by omega), trivial⟩, (List.append_nil _).symm⟩
    · rw [get_set f9, List.map_append, List.map_append, hnm]; rfl
    · show HV.sl _ _ = _
      simp
  · rintro T' S' ⟨T0, S1, m1, c1, p7, p8, p9, hG, hs1, hp1x, hI1, hnm, hq, l5, l7, l8, l9, ⟨q1, q2, q3, q4⟩, rfl, rfl⟩
    have hc0 : ¬ ((vs.length : Int) < ((vs.map irow).length : Int)) := by simp
    rw [hq]
    simp only [List.foldl_nil]
    clear hq
    have hzp1 := hI1.zp
    have hf5 := l5.1
    have hf7 := l7.1
    have hf8 := l8.1
    have hf9 := l9.1
    have hp8 : p9 ≠ p8 := q4
    have hp8' := Ne.symm q4
    have n9 : ((vs.map (nget m.nums)).map irow).length = vs.length := by simp
    have fB1 : S1[k]? = some (.cells false [imrow C m1 c1]) := hG.own.get 0 rfl
    obtain ⟨j, rfl, hj⟩ := vOk_nat o1
    by_cases s1 : sk = 1
    · subst s1
      have hx := o2 rfl
      rw [← hI1.nl] at hx
      have hvn := valNum_small hx hI1.sm
      have hv9 : vs.map (nget m.nums) = (varsV sx).map (nget m1.nums) := by
        rw [← hvs, hnm, vars_same hx]; rfl
      rw [hv9] at hf9
      have n9' : (((varsV sx).map (nget m1.nums)).map irow).length = vs.length := by rw [← hv9]; exact n9
      simp only [if_true]
      repeat' (first | refine c0 ?_ | refine c2 ?_ | refine c5 ?_ | refine c7 ?_ | refine d2 ?_ | refine c8 ?_ | refine d1 ?_ | refine d4 ?_ | refine d3' (h := ?_) | refine a5 (hk := ?_) | refine b5 (hk := ?_) | refine e5' (hk := ?_) | refine f5' (hk := ?_) | refine d6 (ht := ?_) | refine u8 (hk := ?_))
      refine k0' (ha' := fm1 rfl (fm1 (fzV_sl rfl (Nat.zero_le _) (get_old hf9) n9' (irow_pure _)) fm0)) (he := k_impl_Val_of sx m1.nums _ hx hI1.sm) (hk := ?_)
      skip
      refine kU' (ha := rfl) (he := k_impl_set C k (N + 2 * vs.length) m1 c1 to j (valNum sx m1.nums) _ P hI1 (by omega) hj ⟨hG.own.app, hs1⟩) (hk := ?_)
      rintro v S2 ⟨rfl, c2, h2, s2, hp2x⟩
      have hI2 := set_iv P hI1 to j (valNum sx m1.nums) hvn
      have hG2 := (hG.app.call h2)
      have l52 := l5.app.call h2
      have l72 := l7.app.call h2
      have z5 := l52.1
      have z7 := l72.1
      generalize setS C m1 to j (valNum sx m1.nums) = m2 at *
      rw [← List.append_nil S2]
      repeat' (first | refine c0 ?_ | refine c3 ?_ | refine d2 ?_ | refine d4' ?_ | refine a5 (hk := ?_) | refine b5 (hk := ?_))
      refine kX (he := k_impl_behind C k m2 c2 to i (bothG (bothG wl (C.by wf)) (C.by to)) wm wa _ P ht (bothG_set _ _) (by have := hI2.zp; omega) (fun x hx => (hI2.ks x hx).2.2.2) hi (hp2x.trans hp1x) h12 ⟨hG2.own.app, s2⟩) (hk := ?_)
      rintro v S3 ⟨rfl, c3, h3, s3⟩
      rw [← List.append_nil S3]
      repeat' (first | refine d4 ?_)
      exact ⟨_, _, rKeepN, rfl, c3, (hG2.app.call h3).app, s3⟩
    · by_cases s3 : sk = 3
      · subst s3
        simp only [if_false, if_true, s1]
        have hv1 : vs = [(j : Int)] := by rw [← hvs]; rfl
        have hl1 : vs.length = 1 := by rw [hv1]; rfl
        rw [hv1] at hf9
        have hz9 : S1[p9]? = some (.cells true [[I (nget m.nums j)]]) := hf9
        clear hf9
        rw [hl1] at hc0 ⊢
        rw [← hnm] at hz9
        have hs2 : sh ≤ 2 := by have := o3 rfl; simp only [inB, decide_eq_true_eq] at this; omega
        repeat' (first | refine c0 ?_ | refine c2 ?_ | refine c5 ?_ | refine c7 ?_ | refine d2 ?_ | refine c8 ?_ | refine d1 ?_ | refine d4 ?_ | refine d3' (h := ?_) | refine a5 (hk := ?_) | refine b5 (hk := ?_) | refine b7b (hk := ?_) | refine e5' (hk := ?_) | refine f5' (hk := ?_) | refine f9' (hk := ?_) | refine d6 (ht := ?_) | refine d7 (hf := ?_) | refine u8 (hk := ?_))
        refine kU' (ha := rfl) (he := k_impl_get C k m1 c1 sh ⟨6, to, 0, 0, 0, 0, nget m1.nums j⟩ _ hs2 ⟨hG.own.app, hs1⟩ (by have := hI1.z0; omega) (by have := hI1.z1; omega) (by have := hI1.z2; omega)) (hk := ?_)
        rintro v S2 ⟨rfl, c2, h2, s2, hp2x⟩
        have hI2 := sees_iv hI1 sh ⟨6, to, 0, 0, 0, 0, nget m1.nums j⟩ hs2
        have hnm2 := sees_nums m1 sh ⟨6, to, 0, 0, 0, 0, nget m1.nums j⟩
        have hG2 := hG.app.call h2
        have z5 := l5.app.call h2
        have z51 := z5.1
        have z7 := l7.app.call h2
        have z8 := (l8.app.call h2).1
        have l92 := (l9.app.call h2).1
        rw [hv1] at l92
        have z9 : S2[p9]? = some (.cells true [[I (nget m.nums j)]]) := l92
        clear l92 h2
        rw [← hnm, ← hnm2] at z9
        generalize seesS m1 sh ⟨6, to, 0, 0, 0, 0, nget m1.nums j⟩ = m2 at *
        have hzs := hI2.zs
        have hzp2 := hI2.zp
        have fB2 : S2[k]? = some (.cells false [imrow C m2 c2]) := hG2.own.get 0 rfl
        have hkl2 : k < S2.length := (List.getElem?_eq_some_iff.1 fB2).1
        have hle2 := hG2.fo.le
        obtain ⟨cm, cn, cq, cw, cs, y0, y1, y2, cp, cks⟩ := c2
        have hcp : cp = none := hp2x.trans hp1x
        obtain ⟨sw, ss', t0, t1, t2, sp, sq⟩ := s2
        simp only at fB2 sw ss' t0 t1 t2 sp sq
        have z71 := z7.1
        have h7k : p7 ≠ k := fun e => z7.2 (ids_mem.2 ⟨_, by rw [e]; exact List.mem_cons_self⟩)
        have h7k' := Ne.symm h7k
        have h5k : S.length + 0 ≠ k := fun e => z5.2 (ids_mem.2 ⟨_, by rw [e]; exact List.mem_cons_self⟩)
        have h5k' := Ne.symm h5k
        have hbh : ∀ (c' : Ic) (S' : St), c'.p = none → ISim C S' k { m2 with ss := m2.ss ++ [((sh : Int), nget m2.nums j)] } c' → EvR Y impl_parted_behind [.ptr k 1 0 0, I to, I i, I (bothG (bothG wl (C.by wf)) (C.by to)), .agg [I wm, I wa]] S' (Isd C S' k { m2 with ss := m2.ss ++ [((sh : Int), nget m2.nums j)] } c' (goOnS C { m2 with ss := m2.ss ++ [((sh : Int), nget m2.nums j)] } to i (bothG (bothG wl (C.by wf)) (C.by to)) wm wa)) := fun c' S' hp hS' => k_impl_behind C k _ c' to i (bothG (bothG wl (C.by wf)) (C.by to)) wm wa S' P ht (bothG_set _ _) (show m2.posts.length ≤ _ by omega) (fun x hx => (hI2.ks x hx).2.2.2) hi hp h12 hS'
        rw [← List.append_nil S2]
        cases cs with
        | none =>
          have hn := ss' rfl
          repeat' (first | refine c0 ?_ | refine c3 ?_ | refine d2 ?_ | refine d3' (h := ?_) | refine d4' ?_ | refine a5 (hk := ?_) | refine b5 (hk := ?_) | refine p1' (hk := ?_) | refine b4' (hk := ?_) | refine b7b (hk := ?_) | refine e5' (hk := ?_) | refine f5' (hk := ?_) | refine f9' (hk := ?_) | refine b7' (hk := ?_))
          have hG3 : ∀ LL : St, LL[15]? = some (Ob.cells true [wrow (sh, nget m2.nums j)]) → Gh S (ids (ios C k m c)) (S2.set k (.cells false [[L [C.a, C.b, C.c], L C.hs, L C.ds, .lst (pls C.ss 0), L (setsL C.ls C.ss.all), I C.bad, .map cm, slo cp m2.posts.length, .sl cn m2.nums.length, slo cw m2.ws.length, .sl (S2.length + 15) 1, .sl cq 3, .bool m2.ended]]) ++ LL) (ios C k { m2 with ss := m2.ss ++ [(sh, nget m2.nums j)] } ⟨cm, cn, cq, cw, some (S2.length + 15), y0, y1, y2, cp, cks⟩) := fun LL hL => by
            exact ((hG2.upd 0 (o' := .cells false [imrow C { m2 with ss := m2.ss ++ [(sh, nget m2.nums j)] } ⟨cm, cn, cq, cw, some (S2.length + 15), y0, y1, y2, cp, cks⟩]) rfl (show Ob.cells false [[L [C.a, C.b, C.c], L C.hs, L C.ds, .lst (pls C.ss 0), L (setsL C.ls C.ss.all), I C.bad, .map cm, slo cp m2.posts.length, .sl cn m2.nums.length, slo cw m2.ws.length, .sl (S2.length + 15) 1, .sl cq 3, .bool m2.ended]] = _ by simp [slo, hn])).app (L := LL)).add 4 (q := S2.length + 15) (o := .cells true ((m2.ss ++ [(sh, nget m2.nums j)]).map wrow)) (by omega) (nb2 hG2.own (Nat.le_add_right _ _) fun o e => by simp only [Option.some.injEq, Prod.mk.injEq] at e; omega) (get_ownL (by simp) hL) (by rw [hn]; rfl)
          refine kX (he := hbh ⟨cm, cn, cq, cw, some (S2.length + 15), y0, y1, y2, cp, cks⟩ _ hcp ⟨(hG3 _ rfl).own, ⟨sw, (fun h => by cases h), t0, t1, t2, sp, sq⟩⟩) (hk := ?_)
          rintro v S4 ⟨rfl, c4, h4, s4⟩
          rw [← List.append_nil S4]
          repeat' (first | refine d4 ?_)
          exact ⟨_, _, rKeepN, rfl, c4, ((hG3 _ rfl).call h4).app, s4⟩
        | some q =>
          have n2 : k ≠ q := hG2.own.ne 0 4 rfl rfl
          have n2' := Ne.symm n2
          have fW := hG2.own.get 4 rfl
          have lw : (m2.ss.map wrow).length = m2.ss.length := by simp
          have w2 := wrow2 m2.ss
          have hql : q < S2.length := (List.getElem?_eq_some_iff.1 fW).1
          have h5q : S.length + 0 ≠ q := fun e => z5.2 (ids_mem.2 ⟨_, by rw [e]; exact List.mem_of_getElem? (i := 4) rfl⟩)
          have h7q : p7 ≠ q := fun e => z7.2 (ids_mem.2 ⟨_, by rw [e]; exact List.mem_of_getElem? (i := 4) rfl⟩)
          repeat' (first | refine c0 ?_ | refine c3 ?_ | refine d2 ?_ | refine d3' (h := ?_) | refine d4' ?_ | refine a5 (hk := ?_) | refine b4' (hk := ?_) | refine b7b (hk := ?_) | refine e5' (hk := ?_) | refine f5' (hk := ?_) | refine f9' (hk := ?_) | refine b7' (hk := ?_) | refine p0' (hk := ?_))
          refine b5 (h3 := get_old (setN h5k (setN h5q z51))) (hk := ?_)
          repeat' (first | refine a5 (hk := ?_))
          refine b5 (h3 := get_old (setN h7k (setN h7q z71))) (hk := ?_)
          skip
          have hG3 : ∀ LL : St, Gh S (ids (ios C k m c)) ((S2.set q (.cells true (m2.ss.map wrow ++ [wrow (sh, nget m2.nums j)]))).set k (.cells false [[L [C.a, C.b, C.c], L C.hs, L C.ds, .lst (pls C.ss 0), L (setsL C.ls C.ss.all), I C.bad, .map cm, slo cp m2.posts.length, .sl cn m2.nums.length, slo cw m2.ws.length, .sl q (m2.ss.length + 1), .sl cq 3, .bool m2.ended]]) ++ LL) (ios C k { m2 with ss := m2.ss ++ [(sh, nget m2.nums j)] } ⟨cm, cn, cq, cw, some q, y0, y1, y2, cp, cks⟩) := fun LL => by
            exact ((hG2.upd 4 (o' := .cells true ((m2.ss ++ [(sh, nget m2.nums j)]).map wrow)) rfl (show Ob.cells true (m2.ss.map wrow ++ [wrow (sh, nget m2.nums j)]) = _ by simp)).upd 0 (o' := .cells false [imrow C { m2 with ss := m2.ss ++ [(sh, nget m2.nums j)] } ⟨cm, cn, cq, cw, some q, y0, y1, y2, cp, cks⟩]) rfl (show Ob.cells false [[L [C.a, C.b, C.c], L C.hs, L C.ds, .lst (pls C.ss 0), L (setsL C.ls C.ss.all), I C.bad, .map cm, slo cp m2.posts.length, .sl cn m2.nums.length, slo cw m2.ws.length, .sl q (m2.ss.length + 1), .sl cq 3, .bool m2.ended]] = _ by simp [slo])).app
          refine kX (he := hbh ⟨cm, cn, cq, cw, some q, y0, y1, y2, cp, cks⟩ _ hcp ⟨(hG3 _).own, ⟨sw, (fun h => by cases h), t0, t1, t2, sp, sq⟩⟩) (hk := ?_)
          rintro v S4 ⟨rfl, c4, h4, s4⟩
          rw [← List.append_nil S4]
          repeat' (first | refine d4 ?_)
          exact ⟨_, _, rKeepN, rfl, c4, ((hG3 _).call h4).app, s4⟩
      · have hk1 : (sk == 1) = false := by simpa using s1
        have hk3 : (sk == 3) = false := by simpa using s3
        have hv1 : vs = [(j : Int)] := by rw [← hvs]; simp [stepVars, s1]
        have hl1 : vs.length = 1 := by rw [hv1]; rfl
        rw [hv1] at hf9
        have hz9 : S1[p9]? = some (.cells true [[I (nget m.nums j)]]) := hf9
        clear hf9
        rw [hl1] at hc0 ⊢
        simp only [s1, s3, if_false]
        by_cases hnz : nget m1.nums j = 0
        · have hb : (nget m.nums j == 0) = true := by rw [← hnm]; simpa using hnz
          simp only [hnz, ne_eq, not_true_eq_false, if_false]
          by_cases hL : se.len = 0
          · rw [if_pos hL] at hf8
            have hlt : ¬ ((-1 : Int) ≥ 0) := by omega
            have e : ∀ lv, branchS C m1 to i ((i + 1 + stt.sz : Nat) : Int) (decide (0 < se.len)) lv wm wa = goOnS C m1 to i lv wm wa := fun lv => by unfold branchS; rw [if_pos (by simp [hL])]
            rw [e]
            repeat' (first | refine c0 ?_ | refine c2 ?_ | refine c3 ?_ | refine c5 ?_ | refine c7 ?_ | refine d2 ?_ | refine c8 ?_ | refine d0 ?_ | refine d1 ?_ | refine d4 ?_ | refine b0 (hk := ?_) | refine a5 (hk := ?_) | refine b5 (hk := ?_) | refine b9 (hk := ?_) | refine b7 (hk := ?_) | refine d7 (hf := ?_) | refine u5 (hk := ?_) | refine u6 (hk := ?_) | refine u8 (hk := ?_))
            refine kX (he := k_impl_behind C k m1 c1 to i (bothG (bothG wl (C.by wf)) (C.by to)) wm wa _ P ht (bothG_set _ _) (by omega) (fun x hx => (hI1.ks x hx).2.2.2) hi hp1x h12 ⟨hG.own.app, hs1⟩) (hk := ?_)
            rintro v S3 ⟨rfl, c3, h3, s3⟩
            rw [← List.append_nil S3]
            repeat' (first | refine d4 ?_)
            exact ⟨_, _, rKeepN, rfl, c3, (hG.app.call h3).app, s3⟩
          · rw [if_neg hL] at hf8
            have hge : ((i + 1 + stt.sz : Nat) : Int) ≥ 0 := by omega
            have hll := se.len_sz
            have e : ∀ lv, branchS C m1 to i ((i + 1 + stt.sz : Nat) : Int) (decide (0 < se.len)) lv wm wa = (if (keyI m1.keys to i).isSome then m1 else passS C (makeS m1 to i lv wm wa) to ((i + 1 + stt.sz : Nat) : Int) lv to i) := fun lv => by unfold branchS; rw [if_neg (by simp; omega)]
            rw [e]
            cases hi2 : keyI m1.keys to i with
            | some x =>
              simp only [Option.isSome_some, if_true]
              repeat' (first | refine c0 ?_ | refine c2 ?_ | refine c5 ?_ | refine c7 ?_ | refine d2 ?_ | refine c8 ?_ | refine d1 ?_ | refine d4 ?_ | refine b0 (hk := ?_) | refine a5 (hk := ?_) | refine b5 (hk := ?_) | refine b9 (hk := ?_) | refine b7 (hk := ?_) | refine d6 (ht := ?_) | refine u5 (hk := ?_) | refine u6 (hk := ?_) | refine u8 (hk := ?_))
              refine kX (he := k_impl_make_old C k m1 c1 to i (bothG (bothG wl (C.by wf)) (C.by to)) wm wa x _ ⟨hG.own.app, hs1⟩ hi2) (hk := ?_)
              rintro v S3 ⟨rfl, h3⟩
              rw [← List.append_nil S3]
              repeat' (first | refine c0 ?_ | refine c4 ?_ | refine c9 ?_ | refine d0 ?_ | refine d4 ?_ | refine d7 (hf := ?_))
              exact ⟨_, _, rKeep, rfl, c1, (hG.app.call h3).app, hs1⟩
            | none =>
              simp only [Option.isSome_none, Bool.false_eq_true, if_false]
              repeat' (first | refine c0 ?_ | refine c2 ?_ | refine c5 ?_ | refine c7 ?_ | refine d2 ?_ | refine c8 ?_ | refine d1 ?_ | refine d4 ?_ | refine b0 (hk := ?_) | refine a5 (hk := ?_) | refine b5 (hk := ?_) | refine b9 (hk := ?_) | refine b7 (hk := ?_) | refine d6 (ht := ?_) | refine u5 (hk := ?_) | refine u6 (hk := ?_) | refine u8 (hk := ?_))
              refine kX (he := k_impl_make_new C k m1 c1 to i (bothG (bothG wl (C.by wf)) (C.by to)) wm wa _ ⟨hG.own.app, hs1⟩ hi2) (hk := ?_)
              rintro v S3 ⟨rfl, c3, h3, s3, p3x⟩
              have fK := (Gh.old h3 (j := S1.length + 0) (by simp) (hG.own.behind (Nat.le_add_right _ _))).1.trans (get_ownL (by simp) rfl)
              rw [← List.append_nil S3]
              repeat' (first | refine c0 ?_ | refine d2 ?_ | refine d4 ?_ | refine a5 (hk := ?_) | refine b5 (hk := ?_) | refine d6 (ht := ?_))
              refine kX (he := k_impl_have C k (makeS m1 to i (bothG (bothG wl (C.by wf)) (C.by to)) wm wa) c3 to (i + 1 + stt.sz) (bothG (bothG wl (C.by wf)) (C.by to)) to i _ P ht (bothG_set _ _) (show m1.posts.length ≤ _ by omega) (fun x hx => by
                simp only [makeS, List.mem_append, List.mem_singleton] at hx
                rcases hx with hx | rfl
                · exact (hI1.ks x hx).2.2.2
                · rfl) (by omega) (p3x.trans hp1x) ⟨(hG.app.call h3).own.app, s3⟩) (hk := ?_)
              rintro v S4 ⟨rfl, c4, h4, s4⟩
              rw [← List.append_nil S4]
              repeat' (first | refine c0 ?_ | refine c9 ?_ | refine d4 ?_)
              exact ⟨_, _, rKeep, rfl, c4, ((hG.app.call h3).app.call h4).app, s4⟩
        · have hb : (nget m.nums j == 0) = false := by rw [← hnm]; simpa using hnz
          simp only [hnz, ne_eq, not_false_eq_true, if_true]
          by_cases hL : stt.len = 0
          · rw [if_pos hL] at hf8
            have hlt : ¬ ((-1 : Int) ≥ 0) := by omega
            have e : ∀ lv, branchS C m1 to i ((i + 1 : Nat) : Int) (decide (0 < stt.len)) lv wm wa = goOnS C m1 to i lv wm wa := fun lv => by unfold branchS; rw [if_pos (by simp [hL])]
            rw [e]
            repeat' (first | refine c0 ?_ | refine c2 ?_ | refine c3 ?_ | refine c5 ?_ | refine c7 ?_ | refine d2 ?_ | refine c8 ?_ | refine d0 ?_ | refine d1 ?_ | refine d4 ?_ | refine b0 (hk := ?_) | refine a5 (hk := ?_) | refine b5 (hk := ?_) | refine b9 (hk := ?_) | refine b7 (hk := ?_) | refine d7 (hf := ?_) | refine u6 (hk := ?_) | refine u8 (hk := ?_))
            refine kX (he := k_impl_behind C k m1 c1 to i (bothG (bothG wl (C.by wf)) (C.by to)) wm wa _ P ht (bothG_set _ _) (by omega) (fun x hx => (hI1.ks x hx).2.2.2) hi hp1x h12 ⟨hG.own.app, hs1⟩) (hk := ?_)
            rintro v S3 ⟨rfl, c3, h3, s3⟩
            rw [← List.append_nil S3]
            repeat' (first | refine d4 ?_)
            exact ⟨_, _, rKeepN, rfl, c3, (hG.app.call h3).app, s3⟩
          · rw [if_neg hL] at hf8
            have hge : ((i + 1 : Nat) : Int) ≥ 0 := by omega
            have hll := stt.len_sz
            have e : ∀ lv, branchS C m1 to i ((i + 1 : Nat) : Int) (decide (0 < stt.len)) lv wm wa = (if (keyI m1.keys to i).isSome then m1 else passS C (makeS m1 to i lv wm wa) to ((i + 1 : Nat) : Int) lv to i) := fun lv => by unfold branchS; rw [if_neg (by simp; omega)]
            rw [e]
            cases hi2 : keyI m1.keys to i with
            | some x =>
              simp only [Option.isSome_some, if_true]
              repeat' (first | refine c0 ?_ | refine c2 ?_ | refine c5 ?_ | refine c7 ?_ | refine d2 ?_ | refine c8 ?_ | refine d0 ?_ | refine d1 ?_ | refine d4 ?_ | refine b0 (hk := ?_) | refine a5 (hk := ?_) | refine b5 (hk := ?_) | refine b9 (hk := ?_) | refine b7 (hk := ?_) | refine d6 (ht := ?_) | refine u6 (hk := ?_) | refine u8 (hk := ?_))
              refine kX (he := k_impl_make_old C k m1 c1 to i (bothG (bothG wl (C.by wf)) (C.by to)) wm wa x _ ⟨hG.own.app, hs1⟩ hi2) (hk := ?_)
              rintro v S3 ⟨rfl, h3⟩
              rw [← List.append_nil S3]
              repeat' (first | refine c0 ?_ | refine c4 ?_ | refine c9 ?_ | refine d0 ?_ | refine d4 ?_ | refine d7 (hf := ?_))
              exact ⟨_, _, rKeep, rfl, c1, (hG.app.call h3).app, hs1⟩
            | none =>
              simp only [Option.isSome_none, Bool.false_eq_true, if_false]
              repeat' (first | refine c0 ?_ | refine c2 ?_ | refine c5 ?_ | refine c7 ?_ | refine d2 ?_ | refine c8 ?_ | refine d0 ?_ | refine d1 ?_ | refine d4 ?_ | refine b0 (hk := ?_) | refine a5 (hk := ?_) | refine b5 (hk := ?_) | refine b9 (hk := ?_) | refine b7 (hk := ?_) | refine d6 (ht := ?_) | refine u6 (hk := ?_) | refine u8 (hk := ?_))
              refine kX (he := k_impl_make_new C k m1 c1 to i (bothG (bothG wl (C.by wf)) (C.by to)) wm wa _ ⟨hG.own.app, hs1⟩ hi2) (hk := ?_)
              rintro v S3 ⟨rfl, c3, h3, s3, p3x⟩
              have fK := (Gh.old h3 (j := S1.length + 0) (by simp) (hG.own.behind (Nat.le_add_right _ _))).1.trans (get_ownL (by simp) rfl)
              rw [← List.append_nil S3]
              repeat' (first | refine c0 ?_ | refine d2 ?_ | refine d4 ?_ | refine a5 (hk := ?_) | refine b5 (hk := ?_) | refine d6 (ht := ?_))
              refine kX (he := k_impl_have C k (makeS m1 to i (bothG (bothG wl (C.by wf)) (C.by to)) wm wa) c3 to (i + 1) (bothG (bothG wl (C.by wf)) (C.by to)) to i _ P ht (bothG_set _ _) (show m1.posts.length ≤ _ by omega) (fun x hx => by
                simp only [makeS, List.mem_append, List.mem_singleton] at hx
                rcases hx with hx | rfl
                · exact (hI1.ks x hx).2.2.2
                · rfl) (by omega) (p3x.trans hp1x) ⟨(hG.app.call h3).own.app, s3⟩) (hk := ?_)
              rintro v S4 ⟨rfl, c4, h4, s4⟩
              rw [← List.append_nil S4]
              repeat' (first | refine c0 ?_ | refine c9 ?_ | refine d4 ?_)
              exact ⟨_, _, rKeep, rfl, c4, ((hG.app.call h3).app.call h4).app, s4⟩
theorem k_impl_do (C : Cx) (k N : Nat) (m : Sm) (c : Ic) (to : Int) (i : Nat) (w : Wd) (S : St) (P : Pk C) (ht : trOk [C.a, C.b, C.c] = true) (hls : C.ls.all labOk = true) (hI : Iv C m N) (hN : N ≤ 600000) (hto : 0 ≤ to ∧ to ≤ 2) (hwl : setB w.level = true) (hwf : -1 ≤ w.frm ∧ w.frm ≤ 2) (h12 : (w.maker = -1 ∧ w.after = -1) ∨ 0 ≤ w.after) (hp : c.p = none)
    (hi : i < C.ss.sz) (hwn : w.n = i) (hdo : nget C.ds i = to) (hin : withinG (nget (setsL C.ls C.ss.all) i) (bothG w.level (C.by w.frm)) = true) (hS : ISim C S k m c) :
    EvR Y impl_parted_do [.ptr k 1 0 0, I to, .agg (wdrow w)] S (Isd C S k m c (doS C m to i (bothG w.level (C.by w.frm)) w.maker w.after)) := by
  by_cases hf : w.frm = -1
  · exact k_impl_do_a C k N m c to i w S P ht hls hI hN hto hwl hwf h12 hp hf hi hwn hdo hin hS
  · exact k_impl_do_b C k N m c to i w S P ht hls hI hN hto hwl hwf h12 hp hf hi hwn hdo hin hS
end Go.Proofs.X
end
section
namespace Go.Proofs.X
open Go Go.Proofs.XVai Go.Proofs Go.Proofs.XN
set_option linter.unusedVariables false
set_option linter.unusedSimpArgs false
set_option maxHeartbeats 4000000
set_option maxRecDepth 100000

section
variable {fid : Nat} {T : Tm} {S : St} {K : Tm → St → Prop} {ops : Array Oper} {l : List Oper} {dst : Option Tmp} {ty : TypeId} {pos : String} {after : Array Edge} {g0 : Option (Nat × Bool)}
theorem slO {t e z i j q n : Nat} {ti : TI} {x : Operand} {lo hi : Option Operand} {rows : List (List HV)} (hg : wantG ops g0 T = true := by rfl) (h1 : Y.tab t = some ti := by rfl) (h2 : ti.sh = .slice e := by rfl) (h3 : tsize Y e = some z := by rfl) (hx : ev T x = .sl q n := by rfl)
    (hS : S[q]? = some (.cells true rows)) (hn : rows.length = n) (hp : rows.all (fun r => r.all pureC) = true) (hlo : bound 0 (lo.map (ev T)) = some i) (hhi : bound rows.length (hi.map (ev T)) = some j) (hij : i ≤ j) (hj : j ≤ rows.length) (hz : rows.all (fun r => r.length == z) = true)
    (hk : OW Y fid ops none l (put T dst (.lst ((rows.take j).drop i))) S K) : OW Y fid ops none (⟨dst, .slice t x lo hi none, ty, pos, after, g0⟩ :: l) T S K := by
  have hf : frzC 0 6 (.sl q n) S = some (.lst rows, S) := fz_sl rfl (Nat.zero_le _) hS hn hp
  have hc : cop Y fid noCall none ⟨dst, .slice t x lo hi none, ty, pos, after, g0⟩ T S = some (.lst ((rows.take j).drop i), S) := by
    simp only [cop, cslice, h1, h2, h3, hx, hf, hlo, hhi]
    rw [if_pos ⟨hij, hj, hz⟩]
  exact ⟨A_op hg hc hk.of⟩
end
theorem see_keys (m : Sm) (j : Nat) (w : Wd) : (m.see j w).keys = m.keys := by unfold Sm.see; split <;> rfl
theorem sees_keys (m : Sm) (j : Int) (w : Wd) : (seesS m j w).keys = m.keys := by unfold seesS; split <;> simp [see_keys]
theorem see_posts (m : Sm) (j : Nat) (w : Wd) : (m.see j w).posts = m.posts := by unfold Sm.see; split <;> rfl
theorem sees_posts (m : Sm) (j : Int) (w : Wd) : (seesS m j w).posts = m.posts := by unfold seesS; split <;> simp [see_posts]
def WdOk (w : Wd) : Prop := w.kind = 1 → setB w.level = true ∧ (-1 ≤ w.frm ∧ w.frm ≤ 2) ∧ ((w.maker = -1 ∧ w.after = -1) ∨ 0 ≤ w.after)
def KxOk (m : Sm) : Prop := ∀ x ∈ m.keys, setB x.level = true ∧ ((x.o1 = -1 ∧ x.o2 = -1) ∨ 0 ≤ x.o2)
theorem k_impl_gets (C : Cx) (k N : Nat) (m : Sm) (c : Ic) (to : Int) (w : Wd) (S : St) (P : Pk C) (ht : trOk [C.a, C.b, C.c] = true) (hls : C.ls.all labOk = true) (hI : Iv C m N) (hN : N ≤ 600000) (hw : WdOk w) (hk : KxOk m) (hp : c.p = none) (hS : ISim C S k m c) :
    (w.kind = 1 → EvR Y impl_parted_do [.ptr k 1 0 0, I to, .agg (wdrow w)] S (Isd C S k m c (getsS C m to w))) ∧ (w.kind ≠ 1 → EvR Y impl_parted_back [.ptr k 1 0 0, I to, .agg (wdrow w)] S (Isd C S k m c (getsS C m to w))) := by
  refine ⟨fun h1 => ?_, fun h1 => k_impl_back C k N m c to w S P ht hI (by omega) hk hp h1 hS⟩
  obtain ⟨w1, w2, w3⟩ := hw h1
  unfold getsS
  rw [if_pos h1]
  cases hb : (inB w.n 0 ((C.ss.sz : Int) - 1) && (nget C.ds w.n == to && withinG (nget (setsL C.ls C.ss.all) w.n) (bothG w.level (C.by w.frm)))) with
  | false =>
    simp only [Bool.false_eq_true, if_false]
    exact k_impl_do_bad C k N m c to w S P ht hls hI w1 w2 hS hb
  | true =>
    simp only [if_true]
    simp only [Bool.and_eq_true, inB, decide_eq_true_eq, beq_iff_eq] at hb
    obtain ⟨q1, q2, q3⟩ := hb
    obtain ⟨i, hi⟩ := Int.eq_ofNat_of_zero_le q1.1
    have hil : i < C.ss.sz := by omega
    rw [hi] at q2 q3
    have e : w.n.toNat = i := by omega
    rw [e]
    obtain ⟨j, hj, hj3⟩ := P.dd i hil
    exact k_impl_do C k N m c to i w S P ht hls hI hN (by rw [← q2]; omega) w1 w2 w3 hp hil hi q2 q3 hS
theorem k_impl_take (C : Cx) (k N : Nat) (m : Sm) (c : Ic) (x : Po) (S : St) (P : Pk C) (ht : trOk [C.a, C.b, C.c] = true) (hls : C.ls.all labOk = true) (hbad : setB C.bad = true) (hI : Iv C m N) (hN : N ≤ 500000) (hx : m.posts = [x]) (hw : WdOk x.w) (hk : KxOk m) (hS : ISim C S k m c) :
    EvR Y impl_parted_take [.ptr k 1 0 0, I 0] S (Isd C S k m c (takeS C m 0)) := by
  have fB := hS.box
  have hkl : k < S.length := (List.getElem?_eq_some_iff.1 fB).1
  have hI0 : Iv C { m with posts := [] } N := by have := taken_iv hI 0; rwa [hx] at this
  have y1 : x.to ≤ 2 := (hI.ps x (by rw [hx]; simp)).1
  have hT : takeS C m 0 = (if hasG C.bad x.to = true then seesS { m with posts := [] } x.to x.w else getsS C (seesS { m with posts := [] } x.to x.w) x.to x.w) := by
    unfold takeS
    rw [hx]
    simp only [List.getElem?_cons_zero, List.eraseIdx_zero, List.tail_cons]
    by_cases h : hasG C.bad x.to = true
    · rw [if_pos h, if_pos ⟨by rcases hasG_lt h with h | h | h <;> omega, h⟩]
    · rw [if_neg h, if_neg (fun hc => h hc.2)]
  rw [hT]
  clear hT
  have hside := hS.side
  obtain ⟨cm, cn, cq, cw, cs, o0, o1, o2, cp, cks⟩ := c
  obtain ⟨sw, ss', s0, s1, s2, sp, sk⟩ := hside
  simp only at fB sw ss' s0 s1 s2 sp sk
  cases cp with
  | none => have := sp rfl; rw [hx] at this; cases this
  | some q =>
    have fQ : S[q]? = some (.cells true (m.posts.map porow)) := hS.own.get 8 rfl
    have n1 : k ≠ q := hS.own.ne 0 8 rfl rfl
    have n1' := Ne.symm n1
    have hql : q < S.length := (List.getElem?_eq_some_iff.1 fQ).1
    have hql1 : (slo (some q) m.posts.length) = .sl q 1 := by rw [hx]; rfl
    obtain ⟨xt, xk, xf, xn, xl, xm, xa, xx⟩ := x
    rw [hx] at fQ
    have fQ1 : S[q]? = some (.cells true [porow ⟨xt, ⟨xk, xf, xn, xl, xm, xa, xx⟩⟩]) := fQ
    clear fQ
    have fB1 : S[k]? = some (.cells false [[L [C.a, C.b, C.c], L C.hs, L C.ds, .lst (pls C.ss 0), L (setsL C.ls C.ss.all), I C.bad, .map cm, .sl q 1, .sl cn m.nums.length, slo cw m.ws.length, slo cs m.ss.length, .sl cq 3, .bool m.ended]]) := by rw [fB, imrow, hql1]
    clear fB
    have hG : ∀ LL : St, Gh S (ids (ios C k m ⟨cm, cn, cq, cw, cs, o0, o1, o2, some q, cks⟩)) (S.set k (.cells false [[L [C.a, C.b, C.c], L C.hs, L C.ds, .lst (pls C.ss 0), L (setsL C.ls C.ss.all), I C.bad, .map cm, .nils, .sl cn m.nums.length, slo cw m.ws.length, slo cs m.ss.length, .sl cq 3, .bool m.ended]]) ++ LL) (ios C k { m with posts := [] } ⟨cm, cn, cq, cw, cs, o0, o1, o2, none, cks⟩) := fun LL => (((Gh.start hS.own).nil 8).upd 0 (o' := .cells false [imrow C { m with posts := [] } ⟨cm, cn, cq, cw, cs, o0, o1, o2, none, cks⟩]) rfl rfl).app
    refine E_startR (h := ?_)
    repeat' (first | refine c0 ?_ | refine c7 ?_ | refine d2 ?_ | refine d4 ?_ | refine b0 (hk := ?_) | refine a5 (hk := ?_) | refine b5 (hk := ?_) | refine b9 (hk := ?_) | refine b7 (hk := ?_))
    refine slO (i := 0) (j := 0) (hS := get_old fQ1) (hn := rfl) (hp := po_pure [_]) (hlo := rfl) (hhi := rfl) (hij := Nat.le_refl _) (hj := Nat.zero_le _) (hz := po8 [_]) (hk := ?_)
    repeat' (first | refine c0 ?_ | refine c7 ?_ | refine d2 ?_ | refine d4 ?_ | refine a5 (hk := ?_) | refine b5 (hk := ?_))
    refine slO (i := 1) (j := 1) (hS := get_old fQ1) (hn := rfl) (hp := po_pure [_]) (hlo := rfl) (hhi := rfl) (hij := Nat.le_refl _) (hj := Nat.le_refl _) (hz := po8 [_]) (hk := ?_)
    repeat' (first | refine c0 ?_ | refine c7 ?_ | refine d2 ?_ | refine d4 ?_ | refine a5 (hk := ?_) | refine b5 (hk := ?_) | refine b7 (hk := ?_))
    refine kX (he := k_impl_get C k { m with posts := [] } ⟨cm, cn, cq, cw, cs, o0, o1, o2, none, cks⟩ xt ⟨xk, xf, xn, xl, xm, xa, xx⟩ _ y1 ⟨(hG _).own, ⟨sw, ss', s0, s1, s2, fun _ => rfl, sk⟩⟩ (by have := hI0.z0; omega) (by have := hI0.z1; omega) (by have := hI0.z2; omega)) (hk := ?_)
    rintro v S2 ⟨rfl, c2, h2, s2', hp2x⟩
    have hI2 := sees_iv hI0 xt ⟨xk, xf, xn, xl, xm, xa, xx⟩ y1
    have hk2 : KxOk (seesS { m with posts := [] } xt ⟨xk, xf, xn, xl, xm, xa, xx⟩) := by
      unfold KxOk
      rw [sees_keys]
      exact hk
    have hnb : S.length + 0 ∉ ids (ios C k { m with posts := [] } ⟨cm, cn, cq, cw, cs, o0, o1, o2, none, cks⟩) := fun hm => by
      rcases ids_set (os := (ios C k m ⟨cm, cn, cq, cw, cs, o0, o1, o2, some q, cks⟩).set 8 none) (i := 0) (x := some (k, .cells false [imrow C { m with posts := [] } ⟨cm, cn, cq, cw, cs, o0, o1, o2, none, cks⟩])) hm with hm | ⟨o, e⟩
      · exact nb2 hS.own (Nat.le_add_right _ _) (fun o e => by cases e) hm
      · simp only [Option.some.injEq, Prod.mk.injEq] at e; omega
    have fP := (Gh.old h2 (j := S.length + 0) (by simp) hnb).1.trans (get_ownL (by simp) rfl)
    have hG2 := (hG _).call h2
    clear h2
    simp only
    generalize seesS { m with posts := [] } xt ⟨xk, xf, xn, xl, xm, xa, xx⟩ = m2 at *
    have fB2 : S2[k]? = some (.cells false [imrow C m2 c2]) := hG2.own.get 0 rfl
    have eh := fun S => k_impl_has' C.bad xt S hbad
    rw [← List.append_nil S2]
    cases q1 : hasG C.bad xt with
    | true =>
      rw [q1] at eh
      rw [if_pos rfl]
      repeat' (first | refine c0 ?_ | refine c3 ?_ | refine c7 ?_ | refine c8 ?_ | refine d0 ?_ | refine d4 ?_ | refine d3' (h := ?_) | refine d4' ?_ | refine k0' (he := (by first | exact eh _)) (hk := ?_) | refine e5' (hk := ?_) | refine f5' (hk := ?_) | refine d6 (ht := ?_))
      exact ⟨_, _, rKeepN, rfl, c2, hG2.app, s2'⟩
    | false =>
      rw [q1] at eh
      rw [if_neg (by simp)]
      have hg := fun S hS => k_impl_gets C k (N + 1) m2 c2 xt ⟨xk, xf, xn, xl, xm, xa, xx⟩ S P ht hls hI2 (by omega) hw hk2 hp2x hS
      repeat' (first | refine c0 ?_ | refine c7 ?_ | refine d2 ?_ | refine c8 ?_ | refine d4 ?_ | refine d3' (h := ?_) | refine d4' ?_ | refine k0' (he := (by first | exact eh _)) (hk := ?_) | refine a5 (hk := ?_) | refine b5 (hk := ?_) | refine e5' (hk := ?_) | refine f5' (hk := ?_) | (with_reducible intro hc) | refine d7 (hf := ?_) | refine d9 (ht := ?_) (hf := ?_))
      · refine kX (he := (hg _ ⟨hG2.own.app, s2'⟩).1 (by simpa using hc)) (hk := ?_)
        rintro v S3 ⟨rfl, c3, h3, s3⟩
        rw [← List.append_nil S3]
        repeat' (first | refine d4 ?_)
        exact ⟨_, _, rKeepN, rfl, c3, (hG2.app.call h3).app, s3⟩
      · refine kX (he := (hg _ ⟨hG2.own.app, s2'⟩).2 (by simpa using hc)) (hk := ?_)
        rintro v S3 ⟨rfl, c3, h3, s3⟩
        rw [← List.append_nil S3]
        repeat' (first | refine d4 ?_)
        exact ⟨_, _, rKeepN, rfl, c3, (hG2.app.call h3).app, s3⟩
end Go.Proofs.X
end
section
namespace Go.Proofs.X
open Go Go.Proofs.XVai Go.Proofs Go.Proofs.XN
set_option linter.unusedVariables false
set_option linter.unusedSimpArgs false
set_option maxHeartbeats 4000000
set_option maxRecDepth 100000

theorem doesAt_in {ls : List Lab} {ss : Stps} {a b c : Int} {homes does : List Int} : ∀ (m n : Nat), doesAt ls ss a b c homes does n m = true → ∀ i, n ≤ i → i < n + m → inB (nget does i) 0 2 = true
  | 0, n, _, i, h1, h2 => by omega
  | m + 1, n, h, i, h1, h2 => by
    simp only [doesAt, Bool.and_eq_true] at h
    by_cases e : i = n
    · subst e; exact h.1.1
    · exact doesAt_in m (n + 1) h.2 i (by omega) (by omega)
theorem pk_of {ls : List Lab} {ss : Stps} {ts hs ds : List Int} (bad : Int) (h : planOk ls ss ts hs ds = true) : ∃ a b c, ts = [a, b, c] ∧ Pk ⟨ls, ss, a, b, c, hs, ds, bad⟩ := by
  simp only [planOk, Bool.and_eq_true, beq_iff_eq] at h
  obtain ⟨⟨⟨⟨y1, y2⟩, y3⟩, y4⟩, y5⟩ := h
  obtain ⟨a, b, c, rfl⟩ := trOk_in y2
  have hok := typeOk_prog y1
  simp only [Bool.and_eq_true] at y5
  refine ⟨a, b, c, rfl, hok, y3, by simp only [progSize, hok, if_true] at y4; simp only; omega, fun n hn => ?_⟩
  have := doesAt_in _ _ y5.2 n (by omega) (by simp only at hn; omega)
  simp only [inB, decide_eq_true_eq] at this
  simp only
  exact ⟨(nget ds n).toNat, by omega, by omega⟩
theorem new_iv {C : Cx} {nums : List Int} (h : numsOk C.ls C.ss nums = true) : Iv C (newS nums) 0 := by
  simp only [numsOk, Bool.and_eq_true, beq_iff_eq, List.all_eq_true, inB, decide_eq_true_eq] at h
  exact ⟨h.1.2, fun n hn => h.2 n hn, fun x hx => by simp [newS] at hx, fun x hx => by simp [newS] at hx, by simp [newS], by simp [newS], by simp [newS], by simp [newS], by simp [newS], by simp [newS], by simp [newS], by simp [newS]⟩
theorem start_iv {C : Cx} (P : Pk C) {m : Sm} {N : Nat} (h : Iv C m N) : Iv C (startS C m) (N + 2) := by
  unfold startS
  split
  · exact (ended_iv h).mono (by omega)
  · next h0 => exact pass_iv P h (n := 0) (by omega) (by omega) (by omega)
abbrev PTm (m : Sm) : HV := PT m.nums (m.ws.map wrow) (m.ss.map wrow) [m.v0, m.v1, m.v2] m.ended
def partRun (ls : List Lab) (ss : Stps) (ts hs ds nums : List Int) : Option Sm := if planOk ls ss ts hs ds && numsOk ls ss nums then (match ts with
  | [a, b, c] => some (restS ⟨ls, ss, a, b, c, hs, ds, 0⟩ (startS ⟨ls, ss, a, b, c, hs, ds, 0⟩ (newS nums)) 200)
  | _ => none) else none
abbrev PT0 : HV := PT [] [] [] [] false
def partV : Option Sm → HV
  | none => .tup [PT0, .bool false]
  | some m => .tup [PTm m, .bool true]
end Go.Proofs.X
end
section
namespace Go.Proofs.X
open Go Go.Proofs.XVai Go.Proofs Go.Proofs.XN
set_option linter.unusedVariables false
set_option linter.unusedSimpArgs false
set_option maxHeartbeats 4000000
set_option maxRecDepth 100000

structure Pg (C : Cx) : Prop where
  pk : Pk C
  lo : C.ls.all labOk = true
  tr : trOk [C.a, C.b, C.c] = true
  ty : typeOk C.ls C.ss = true
  hm : ∀ v : Nat, v < C.ls.length → homeG C.ls C.a C.b C.c v (nget C.hs v) = true
  st : ∀ n : Nat, n < C.ss.sz → ∃ here, (ats C.ls C.ss lany)[n]? = some here ∧ stepG C.ls C.a C.b C.c C.hs (stpAt C n) here (nget (setsL C.ls C.ss.all) n) (nget C.ds n) = true
theorem homesAt_at {ls : List Lab} {a b c : Int} {hs : List Int} : ∀ (m v : Nat), homesAt ls a b c hs v m = true → ∀ i : Nat, v ≤ i → i < v + m → homeG ls a b c i (nget hs i) = true
  | 0, v, _, i, h1, h2 => by omega
  | m + 1, v, h, i, h1, h2 => by
    simp only [homesAt, Bool.and_eq_true] at h
    by_cases e : i = v
    · subst e; exact h.1
    · exact homesAt_at m (v + 1) h.2 i (by omega) (by omega)
theorem doesAt_at {ls : List Lab} {ss : Stps} {a b c : Int} {hs ds : List Int} : ∀ (m n : Nat), doesAt ls ss a b c hs ds n m = true → ∀ i : Nat, n ≤ i → i < n + m → stepAt ls ss a b c hs i (nget ds i).toNat = true
  | 0, n, _, i, h1, h2 => by omega
  | m + 1, n, h, i, h1, h2 => by
    simp only [doesAt, Bool.and_eq_true] at h
    by_cases e : i = n
    · subst e; exact h.1.2
    · exact doesAt_at m (n + 1) h.2 i (by omega) (by omega)
theorem pg_of {ls : List Lab} {ss : Stps} {a b c : Int} {hs ds : List Int} (bad : Int) (h : planOk ls ss [a, b, c] hs ds = true) : Pg ⟨ls, ss, a, b, c, hs, ds, bad⟩ := by
  obtain ⟨a', b', c', e, P⟩ := pk_of bad h
  cases e
  simp only [planOk, Bool.and_eq_true, beq_iff_eq] at h
  obtain ⟨⟨⟨⟨y1, y2⟩, y3⟩, y4⟩, y5, y6⟩ := h
  refine ⟨P, (progOk_in P.ok).2.1, y2, y1, fun v hv => homesAt_at _ _ y5 v (Nat.zero_le _) (by simpa using hv), fun n hn => ?_⟩
  have h1 := doesAt_at _ _ y6 n (Nat.zero_le _) (by simpa using hn)
  obtain ⟨j, hj, hj3⟩ := P.dd n hn
  simp only at hj
  unfold stepAt at h1
  split at h1
  · next s here st e1 e2 e3 =>
    refine ⟨here, e2, ?_⟩
    have e4 : stpAt ⟨ls, ss, a, b, c, hs, ds, bad⟩ n = s := by simp [stpAt, e1]
    have e5 : nget (setsL ls ss.all) n = st := by simp [nget, e3]
    simp only
    rw [e4, e5, hj]
    rw [hj, Int.toNat_natCast] at h1
    exact h1
  · cases h1
theorem within_iff {a b : Int} : withinG a b = true ↔ ∀ h, hasG a h = true → hasG b h = true := by
  refine ⟨fun h i hi => within_has h hi, fun h => ?_⟩
  have key : ∀ i, (!(hasG a i && !hasG b i)) = true := fun i => by
    have := h i
    cases e : hasG a i with
    | false => rfl
    | true => rw [this e]; rfl
  simp only [withinG, key, Bool.and_self]
theorem within0 {a : Int} : withinG 0 a = true := within_iff.2 fun h hh => by rcases hasG_lt hh with rfl | rfl | rfl <;> simp [hasG] at hh
theorem within_trans {a b c : Int} (h1 : withinG a b = true) (h2 : withinG b c = true) : withinG a c = true := within_iff.2 fun h hh => within_iff.1 h2 h (within_iff.1 h1 h hh)
theorem within_bothI {a b c : Int} (h1 : withinG a b = true) (h2 : withinG a c = true) : withinG a (bothG b c) = true := within_iff.2 fun h hh => by rw [hasG_both, within_iff.1 h1 h hh, within_iff.1 h2 h hh]; rfl
theorem within_bothR {a b : Int} : withinG (bothG a b) b = true := within_iff.2 fun h hh => by rw [hasG_both, Bool.and_eq_true] at hh; exact hh.2
theorem within_refl {a : Int} : withinG a a = true := within_iff.2 fun h hh => hh
theorem within_el {a b : Int} (ha : setB a = true) (hb : setB b = true) : withinG a (eitherG a b) = true := within_iff.2 fun h hh => by rw [either_has ha hb, hh]; rfl
theorem within_er {a b : Int} (ha : setB a = true) (hb : setB b = true) : withinG b (eitherG a b) = true := within_iff.2 fun h hh => by rw [either_has ha hb, hh]; simp
theorem within_e {a b c : Int} (ha : setB a = true) (hb : setB b = true) (h1 : withinG a c = true) (h2 : withinG b c = true) : withinG (eitherG a b) c = true := within_iff.2 fun h hh => by
  rw [either_has ha hb, Bool.or_eq_true] at hh
  rcases hh with hh | hh
  · exact within_iff.1 h1 h hh
  · exact within_iff.1 h2 h hh
theorem within_by0 {a b c : Int} (x : Int) : withinG x (byG a b c (-1)) = true := within_iff.2 fun h hh => by
  rcases hasG_lt hh with rfl | rfl | rfl <;> simp [byG] <;> decide
def SF (ls : List Lab) (s : Stp) : Int := setsF ls (.cons s.k s.v s.x s.h s.t s.e .nil) 0
theorem SF_eq (ls : List Lab) (s : Stp) : SF ls s = eitherG (if s.k = 1 then eitherG 0 (labAt ls s.v).t else 0) (eitherG (setsF ls s.t 0) (setsF ls s.e 0)) := rfl
theorem setsLg (ls : List Lab) : ∀ (l : Stps) (n : Nat) (s : Stp), l.list[n]? = some s → (setsL ls l)[n]? = some (SF ls s)
  | .nil, n, s, h => by simp [Stps.list] at h
  | .cons k v x h t e r, 0, s, hh => by
    simp only [Stps.list, List.getElem?_cons_zero, Option.some.injEq] at hh
    subst hh
    rfl
  | .cons k v x h t e r, n + 1, s, hh => by
    simp only [Stps.list, List.getElem?_cons_succ] at hh
    simp only [setsL, List.getElem?_cons_succ]
    exact setsLg ls r n s hh
theorem sets_at {C : Cx} {n : Nat} (hn : n < C.ss.sz) : nget (setsL C.ls C.ss.all) n = SF C.ls (stpAt C n) := by
  have := setsLg C.ls C.ss.all n _ (stp_at hn)
  simp [nget, this]
theorem setsF_in {ls : List Lab} (hls : ls.all labOk = true) : ∀ (l : Stps) (o : Int), setB o = true → withinG o (setsF ls l o) = true
  | .nil, o, h => within_refl
  | .cons k v x hh t e r, o, h => by
    have h1 : setB (if k = 1 then eitherG o (labAt ls v).t else o) = true := by
      split
      · exact either_set h (labOk_in (labAt_ok hls v)).2
      · exact h
    have h2 := either_set (setsF_set hls t 0 set0) (setsF_set hls e 0 set0)
    refine within_trans ?_ (setsF_in hls r _ (either_set h1 h2))
    refine within_trans ?_ (within_el h1 h2)
    split
    · exact within_el h (labOk_in (labAt_ok hls v)).2
    · exact within_refl
theorem either_mono {a b c d : Int} (ha : setB a = true) (hb : setB b = true) (hc : setB c = true) (hd : setB d = true) (h1 : withinG a c = true) (h2 : withinG b d = true) : withinG (eitherG a b) (eitherG c d) = true :=
  within_e ha hb (within_trans h1 (within_el hc hd)) (within_trans h2 (within_er hc hd))
theorem SF_in {ls : List Lab} (hls : ls.all labOk = true) : ∀ (l : Stps) (o : Int), setB o = true → ∀ s ∈ l.all.list, withinG (SF ls s) (setsF ls l o) = true
  | .nil, o, h, s, hs => by simp [Stps.all, Stps.list] at hs
  | .cons k v x hh t e r, o, h, s, hs => by
    have h1 : setB (if k = 1 then eitherG o (labAt ls v).t else o) = true := by
      split
      · exact either_set h (labOk_in (labAt_ok hls v)).2
      · exact h
    have ht := setsF_set hls t 0 set0
    have he := setsF_set hls e 0 set0
    have h2 := either_set ht he
    have h3 := either_set h1 h2
    simp only [Stps.all, Stps.list, Stps.app_list, List.mem_cons, List.mem_append] at hs
    rcases hs with rfl | hs | hs | hs
    · refine within_trans ?_ (setsF_in hls r _ h3)
      rw [SF_eq]
      refine either_mono ?_ h2 h1 h2 ?_ within_refl
      · simp only
        split
        · exact either_set set0 (labOk_in (labAt_ok hls v)).2
        · exact set0
      · simp only
        split
        · exact within_e set0 (labOk_in (labAt_ok hls v)).2 within0 (within_er h (labOk_in (labAt_ok hls v)).2)
        · exact within0
    · exact within_trans (SF_in hls t 0 set0 s hs) (within_trans (within_trans (within_el ht he) (within_er h1 h2)) (setsF_in hls r _ h3))
    · exact within_trans (SF_in hls e 0 set0 s hs) (within_trans (within_trans (within_er ht he) (within_er h1 h2)) (setsF_in hls r _ h3))
    · exact SF_in hls r _ h3 s hs
theorem app3 {α : Type} {A B D : List α} {i : Nat} {x : α} (h : (A ++ (B ++ D))[i]? = some x) : (i < A.length ∧ A[i]? = some x) ∨ (A.length ≤ i ∧ i - A.length < B.length ∧ B[i - A.length]? = some x) ∨ (A.length + B.length ≤ i ∧ D[i - A.length - B.length]? = some x) := by
  rw [List.getElem?_append] at h
  split at h
  · exact .inl ⟨by assumption, h⟩
  · rw [List.getElem?_append] at h
    split at h
    · exact .inr (.inl ⟨by omega, by assumption, h⟩)
    · exact .inr (.inr ⟨by omega, h⟩)
theorem nx_en : ∀ (l : Stps) (b j : Nat) (u : Stp) (y : Int), l.all.list[j]? = some u → (nx l b)[j]? = some y → 0 ≤ y → y = ((b + j + 1 + u.t.sz + u.e.sz : Nat) : Int)
  | .nil, b, j, u, y, h, _, _ => by simp [Stps.all, Stps.list] at h
  | .cons k v x hh t e r, b, 0, u, y, h, g, h0 => by
    simp only [Stps.all, Stps.list, nx, List.getElem?_cons_zero, Option.some.injEq] at h g
    subst h
    split at g
    · omega
    · rw [← g]
  | .cons k v x hh t e r, b, j + 1, u, y, h, g, h0 => by
    simp only [Stps.all, Stps.list, Stps.app_list, nx, List.getElem?_cons_succ] at h g
    have l1 := t.all_list_len
    have l2 := e.all_list_len
    have m1 := nx_len t (b + 1)
    have m2 := nx_len e (b + 1 + t.sz)
    rcases app3 h with ⟨h1, h2⟩ | ⟨h1, h3, h2⟩ | ⟨h1, h2⟩ <;> rcases app3 g with ⟨g1, g2⟩ | ⟨g1, g3, g2⟩ | ⟨g1, g2⟩ <;> try omega
    · rw [nx_en t _ _ _ _ h2 g2 h0]; omega
    · rw [l1] at h2; rw [m1] at g2; rw [nx_en e _ _ _ _ h2 g2 h0]; omega
    · rw [l1, l2] at h2; rw [m1, m2] at g2; rw [nx_en r _ _ _ _ h2 g2 h0]; omega
theorem nest_all : ∀ (l : Stps) (b i j : Nat) (s u : Stp) (y : Int), l.all.list[i]? = some s → l.all.list[j]? = some u → (nx l b)[j]? = some y → i ≤ j → j < i + 1 + s.t.sz + s.e.sz →
    j + 1 + u.t.sz + u.e.sz ≤ i + 1 + s.t.sz + s.e.sz ∧ (i < j → 0 ≤ y → j + 1 + u.t.sz + u.e.sz < i + 1 + s.t.sz + s.e.sz)
  | .nil, b, i, j, s, u, y, h, _, _, _, _ => by simp [Stps.all, Stps.list] at h
  | .cons k v x hh t e r, b, 0, 0, s, u, y, h, h', g, _, _ => by
    rw [h] at h'
    cases h'
    exact ⟨Nat.le_refl _, fun h => by omega⟩
  | .cons k v x hh t e r, b, i + 1, 0, s, u, y, h, h', g, hij, _ => by omega
  | .cons k v x hh t e r, b, 0, j + 1, s, u, y, h, h', g, _, hj => by
    simp only [Stps.all, Stps.list, Stps.app_list, nx, List.getElem?_cons_succ, List.getElem?_cons_zero, Option.some.injEq] at h h' g
    subst h
    simp only at hj ⊢
    have l1 := t.all_list_len
    have l2 := e.all_list_len
    have m1 := nx_len t (b + 1)
    have m2 := nx_len e (b + 1 + t.sz)
    rcases app3 h' with ⟨h1, h2⟩ | ⟨h1, h3, h2⟩ | ⟨h1, h2⟩ <;> rcases app3 g with ⟨g1, g2⟩ | ⟨g1, g3, g2⟩ | ⟨g1, g2⟩ <;> try omega
    · have q1 := all_room t _ _ h2
      refine ⟨by omega, fun _ h0 => ?_⟩
      have q2 := nx_en t _ _ _ _ h2 g2 h0
      rcases nx_in t _ _ (List.mem_of_getElem? g2) with q3 | q3 <;> omega
    · rw [l1] at h2; rw [m1] at g2
      have q1 := all_room e _ _ h2
      refine ⟨by omega, fun _ h0 => ?_⟩
      have q2 := nx_en e _ _ _ _ h2 g2 h0
      rcases nx_in e _ _ (List.mem_of_getElem? g2) with q3 | q3 <;> omega
  | .cons k v x hh t e r, b, i + 1, j + 1, s, u, y, h, h', g, hij, hj => by
    simp only [Stps.all, Stps.list, Stps.app_list, nx, List.getElem?_cons_succ] at h h' g
    have l1 := t.all_list_len
    have l2 := e.all_list_len
    have m1 := nx_len t (b + 1)
    have m2 := nx_len e (b + 1 + t.sz)
    rcases app3 h with ⟨k1, k2⟩ | ⟨k1, k3, k2⟩ | ⟨k1, k2⟩
    · have q1 := all_room t _ _ k2
      rcases app3 h' with ⟨h1, h2⟩ | ⟨h1, h3, h2⟩ | ⟨h1, h2⟩ <;> rcases app3 g with ⟨g1, g2⟩ | ⟨g1, g3, g2⟩ | ⟨g1, g2⟩ <;> try omega
      have := nest_all t _ _ _ _ _ _ k2 h2 g2 (by omega) (by omega)
      refine ⟨by omega, fun _ h0 => ?_⟩
      have := this.2 (by omega) h0
      omega
    · rw [l1] at k2
      have q1 := all_room e _ _ k2
      rcases app3 h' with ⟨h1, h2⟩ | ⟨h1, h3, h2⟩ | ⟨h1, h2⟩ <;> rcases app3 g with ⟨g1, g2⟩ | ⟨g1, g3, g2⟩ | ⟨g1, g2⟩ <;> try omega
      rw [l1] at h2; rw [m1] at g2
      have := nest_all e _ _ _ _ _ _ k2 h2 g2 (by omega) (by omega)
      refine ⟨by omega, fun _ h0 => ?_⟩
      have := this.2 (by omega) h0
      omega
    · rw [l1, l2] at k2
      rcases app3 h' with ⟨h1, h2⟩ | ⟨h1, h3, h2⟩ | ⟨h1, h2⟩ <;> rcases app3 g with ⟨g1, g2⟩ | ⟨g1, g3, g2⟩ | ⟨g1, g2⟩ <;> try omega
      rw [l1, l2] at h2; rw [m1, m2] at g2
      have := nest_all r _ _ _ _ _ _ k2 h2 g2 (by omega) (by omega)
      refine ⟨by omega, fun _ h0 => ?_⟩
      have := this.2 (by omega) h0
      omega
def enS (C : Cx) (n : Nat) : Nat := n + 1 + (stpAt C n).t.sz + (stpAt C n).e.sz
theorem en_gt (C : Cx) (n : Nat) : n < enS C n := by unfold enS; omega
theorem en_le {C : Cx} {n : Nat} (h : n < C.ss.sz) : enS C n ≤ C.ss.sz := stp_room h
theorem nx_at' {C : Cx} {n : Nat} (hn : n < C.ss.sz) : (nx C.ss 0)[n]? = some (nget (nx C.ss 0) n) := nget_at (by rw [nx_len]; exact hn)
theorem nx_end {C : Cx} {n : Nat} (hn : n < C.ss.sz) (h0 : 0 ≤ nget (nx C.ss 0) n) : nget (nx C.ss 0) n = (enS C n : Nat) := by
  have := nx_en C.ss 0 n _ _ (stp_at hn) (nx_at' hn) h0
  rw [this]
  simp [enS]
theorem en_nest {C : Cx} {i j : Nat} (hi : i < C.ss.sz) (hj : j < C.ss.sz) (hij : i ≤ j) (hji : j < enS C i) : enS C j ≤ enS C i ∧ (i < j → 0 ≤ nget (nx C.ss 0) j → enS C j < enS C i) :=
  nest_all C.ss 0 i j _ _ _ (stp_at hi) (stp_at hj) (nx_at' hj) hij hji

end Go.Proofs.X
end
section
namespace Go.Proofs.X
open Go Go.Proofs.XVai Go.Proofs Go.Proofs.XN
set_option linter.unusedVariables false
set_option linter.unusedSimpArgs false
set_option maxHeartbeats 4000000
set_option maxRecDepth 100000

/-! ### how much is left -/
def Nst (C : Cx) (k1 k2 : Int) (n : Nat) : Prop := (k1 = -1 ∧ k2 = -1) ∨ ∃ j : Nat, k2 = j ∧ j ≤ n ∧ n < enS C j
def Jk (C : Cx) (m : Sm) : Prop := ∀ x ∈ m.keys, setB x.level = true ∧ (-1 ≤ x.maker ∧ x.maker ≤ 2) ∧ ∃ j : Nat, x.after = j ∧ j < C.ss.sz ∧ Nst C x.o1 x.o2 j
def unu (m : Sm) : Nat := m.keys.countP fun x => !x.used
def Wm (C : Cx) (w : Wd) (u μ : Nat) : Prop := (w.kind = 1 ∧ ∃ n : Nat, w.n = n ∧ n < C.ss.sz ∧ setB w.level = true ∧ (-1 ≤ w.frm ∧ w.frm ≤ 2) ∧ Nst C w.maker w.after n ∧ 3 * (C.ss.sz - n) + u ≤ μ) ∨
  (w.kind = 2 ∧ ∃ j : Nat, w.after = j ∧ j < C.ss.sz ∧ 3 * (C.ss.sz - enS C j) + u + 1 ≤ μ)
def Qv (C : Cx) (m : Sm) (μ : Nat) : Prop := Jk C m ∧ (m.posts = [] ∨ ∃ x, m.posts = [x] ∧ Wm C x.w (unu m) μ)
theorem cnt_set (p : Kx → Bool) : ∀ (l : List Kx) (i : Nat) (x y : Kx), l[i]? = some x → (l.set i y).countP p + (if p x then 1 else 0) = l.countP p + (if p y then 1 else 0)
  | [], i, x, y, h => by simp at h
  | z :: l, 0, x, y, h => by
    simp at h
    subst h
    rw [List.set_cons_zero, List.countP_cons, List.countP_cons]
    omega
  | z :: l, i + 1, x, y, h => by
    have := cnt_set p l i x y (by simpa using h)
    rw [List.set_cons_succ, List.countP_cons, List.countP_cons]
    omega
theorem hold_q {C : Cx} {m : Sm} {h k1 k2 : Int} (hJ : Jk C m) : Jk C (holdS m h k1 k2) ∧ unu (holdS m h k1 k2) = unu m ∧ (holdS m h k1 k2).posts = m.posts := by
  unfold holdS
  split
  · exact ⟨hJ, rfl, rfl⟩
  · next i hi =>
    split
    · next h0 =>
      obtain ⟨x, hx, hx1, hx2⟩ := key_at hi
      rw [mod_set hx]
      refine ⟨fun y hy => ?_, ?_, rfl⟩
      · rcases List.mem_or_eq_of_mem_set hy with hy | rfl
        · exact hJ y hy
        · exact hJ x (List.mem_of_getElem? hx)
      · have := cnt_set (fun x => !x.used) m.keys i x { x with held := eitherG x.held (2 ^ h.toNat) } hx
        simp only at this
        simp only [unu]
        omega
    · exact ⟨hJ, rfl, rfl⟩
theorem go_q {C : Cx} {m : Sm} {to host level k1 k2 : Int} {n μ : Nat} (hJ : Jk C m) (hp : m.posts = []) (hn : n < C.ss.sz) (hl : setB level = true) (hh : -1 ≤ host ∧ host ≤ 2) (hk : Nst C k1 k2 n) (hμ : 3 * (C.ss.sz - n) + unu m ≤ μ) : Qv C (goS m to host n level k1 k2) μ := by
  obtain ⟨h1, h2, h3⟩ := hold_q (h := to) (k1 := k1) (k2 := k2) hJ
  refine ⟨h1, .inr ⟨⟨to, ⟨1, host, n, level, k1, k2, 0⟩⟩, by simp [goS, sendS, h3, hp], .inl ⟨rfl, n, rfl, hn, hl, hh, hk, ?_⟩⟩⟩
  have : unu (goS m to host n level k1 k2) = unu (holdS m to k1 k2) := rfl
  omega
theorem make_q {C : Cx} {m : Sm} {host level k1 k2 : Int} {n : Nat} (hJ : Jk C m) (hn : n < C.ss.sz) (hl : setB level = true) (hh : -1 ≤ host ∧ host ≤ 2) (hk : Nst C k1 k2 n) : Jk C (makeS m host n level k1 k2) ∧ unu (makeS m host n level k1 k2) = unu m + 1 := by
  refine ⟨fun x hx => ?_, by simp [unu, makeS, List.countP_append]⟩
  simp only [makeS, List.mem_append, List.mem_singleton] at hx
  rcases hx with hx | rfl
  · exact hJ x hx
  · exact ⟨hl, hh, n, rfl, hn, hk⟩
theorem pass_q {C : Cx} {m : Sm} {host level k1 k2 : Int} {n μ : Nat} (hJ : Jk C m) (hp : m.posts = []) (hn : n < C.ss.sz) (hl : setB level = true) (hh : -1 ≤ host ∧ host ≤ 2) (hk : Nst C k1 k2 n) (hμ : 3 * (C.ss.sz - n) + unu m + 1 ≤ μ) : Qv C (passS C m host n level k1 k2) μ := by
  unfold passS
  split
  · split
    · exact ⟨hJ, .inl hp⟩
    · obtain ⟨h1, h2⟩ := make_q (host := host) hJ hn hl hh hk
      exact go_q h1 hp hn hl hh (.inr ⟨n, rfl, Nat.le_refl _, en_gt C n⟩) (by omega)
  · exact go_q hJ hp hn hl hh hk (by omega)
theorem goOn_q {C : Cx} {m : Sm} {host level k1 k2 : Int} {n μ : Nat} (hJ : Jk C m) (hp : m.posts = []) (hn : n < C.ss.sz) (hl : setB level = true) (hh : -1 ≤ host ∧ host ≤ 2) (hk : Nst C k1 k2 n) (hμ : 3 * (C.ss.sz - enS C n) + unu m + 1 ≤ μ) : Qv C (goOnS C m host n level k1 k2) μ := by
  unfold goOnS
  split
  · next hc =>
    have he := nx_end hn hc.1
    have hes : enS C n < C.ss.sz := by rcases nx_at hn with h | ⟨j, h, hj⟩ <;> omega
    rw [he]
    refine pass_q hJ hp hes hl hh ?_ hμ
    rcases hk with h | ⟨j, h1, h2, h3⟩
    · exact .inl h
    · have hjn : j < n := by have := hc.2; omega
      have := (en_nest (by omega) hn (by omega) h3).2 hjn hc.1
      exact .inr ⟨j, h1, by have := en_gt C n; omega, this⟩
  · split
    · next h0 =>
      rcases hk with ⟨_, h⟩ | ⟨j, h1, h2, h3⟩
      · omega
      · have := (en_nest (by omega) hn h2 h3).1
        refine ⟨hJ, .inr ⟨⟨k1, ⟨2, host, 0, 0, k1, k2, 0⟩⟩, by simp [sendS, hp], .inr ⟨rfl, j, h1, by omega, ?_⟩⟩⟩
        show 3 * (C.ss.sz - enS C j) + unu m + 1 ≤ μ
        omega
    · exact ⟨hJ, .inl hp⟩
theorem branch_q {C : Cx} {m : Sm} {host level k1 k2 : Int} {n first μ : Nat} {some : Bool} (hJ : Jk C m) (hp : m.posts = []) (hn : n < C.ss.sz) (hl : setB level = true) (hh : -1 ≤ host ∧ host ≤ 2) (hk : Nst C k1 k2 n) (hf : some = true → n < first ∧ first < enS C n) (hμ : 3 * (C.ss.sz - n) + unu m ≤ μ + 1) : Qv C (branchS C m host n first some level k1 k2) μ := by
  have h1 := en_gt C n
  have h2 := en_le hn
  unfold branchS
  split
  · exact goOn_q hJ hp hn hl hh hk (by omega)
  · next hs =>
    obtain ⟨f1, f2⟩ := hf (by simpa using hs)
    split
    · exact ⟨hJ, .inl hp⟩
    · obtain ⟨j1, j2⟩ := make_q (host := host) hJ hn hl hh hk
      exact pass_q j1 hp (by omega) hl hh (.inr ⟨n, rfl, by omega, f2⟩) (by omega)
theorem asks_q (C : Cx) (host : Int) : ∀ (vs : List Int) (m : Sm), (vs.foldl (fun m v => askS C m host v) m).keys = m.keys ∧ (vs.foldl (fun m v => askS C m host v) m).posts = m.posts
  | [], m => ⟨rfl, rfl⟩
  | v :: vs, m => by
    rw [List.foldl_cons]
    obtain ⟨h1, h2⟩ := asks_q C host vs (askS C m host v)
    rw [h1, h2]
    simp [askS, sees_keys, sees_posts]
theorem do_q {C : Cx} {m : Sm} {host level k1 k2 : Int} {n μ : Nat} (hJ : Jk C m) (hp : m.posts = []) (hn : n < C.ss.sz) (hh : -1 ≤ host ∧ host ≤ 2) (hk : Nst C k1 k2 n) (hμ : 3 * (C.ss.sz - n) + unu m ≤ μ + 1) : Qv C (doS C m host n level k1 k2) μ := by
  have h1 := en_gt C n
  have h2 := en_le hn
  have hl : setB (bothG level (C.by host)) = true := bothG_set _ _
  obtain ⟨a1, a2⟩ := asks_q C host (stepVars (stpAt C n).k (stpAt C n).v (stpAt C n).x) m
  have hen : enS C n = n + 1 + (stpAt C n).t.sz + (stpAt C n).e.sz := rfl
  unfold doS
  simp only
  generalize (stepVars (stpAt C n).k (stpAt C n).v (stpAt C n).x).foldl (fun m v => askS C m host v) m = m1 at *
  have hJ1 : Jk C m1 := by unfold Jk; rw [a1]; exact hJ
  have hu1 : unu m1 = unu m := by unfold unu; rw [a1]
  split
  · have k1' : (setS C m1 host (stpAt C n).v (valNum (stpAt C n).x m1.nums)).keys = m1.keys := by simp [setS, sees_keys]
    have p1' : (setS C m1 host (stpAt C n).v (valNum (stpAt C n).x m1.nums)).posts = m1.posts := by simp [setS, sees_posts]
    refine goOn_q (by unfold Jk; rw [k1']; exact hJ1) (by rw [p1', a2, hp]) hn hl hh hk ?_
    unfold unu
    rw [k1']
    show 3 * (C.ss.sz - enS C n) + unu m1 + 1 ≤ μ
    omega
  · split
    · refine goOn_q (by unfold Jk; simp only [sees_keys]; exact hJ1) (by simp only [sees_posts]; rw [a2, hp]) hn hl hh hk ?_
      unfold unu
      simp only [sees_keys]
      show 3 * (C.ss.sz - enS C n) + unu m1 + 1 ≤ μ
      omega
    · have := (stpAt C n).t.len_sz
      have := (stpAt C n).e.len_sz
      split
      · exact branch_q hJ1 (by rw [a2, hp]) hn hl hh hk (fun h => by simp at h; omega) (by omega)
      · exact branch_q hJ1 (by rw [a2, hp]) hn hl hh hk (fun h => by simp at h; omega) (by omega)
theorem take_q {C : Cx} (P : Pk C) {m : Sm} {μ : Nat} (h : Qv C m (μ + 1)) : Qv C (takeS C m 0) μ := by
  obtain ⟨hJ, hp | ⟨x, hx, hw⟩⟩ := h
  · unfold takeS
    rw [hp]
    exact ⟨hJ, .inl hp⟩
  · unfold takeS
    rw [hx]
    simp only [List.getElem?_cons_zero, List.eraseIdx_zero, List.tail_cons]
    have e1 := sees_keys { m with posts := [] } x.to x.w
    have e2 := sees_posts { m with posts := [] } x.to x.w
    simp only at e1 e2
    generalize seesS { m with posts := [] } x.to x.w = m1 at *
    have hJ1 : Jk C m1 := by unfold Jk; rw [e1]; exact hJ
    have hu1 : unu m1 = unu m := by unfold unu; rw [e1]
    split
    · exact ⟨hJ1, .inl e2⟩
    · unfold getsS
      rcases hw with ⟨w1, n, w2, w3, w4, w5, w6, w7⟩ | ⟨w1, j, w2, w3, w4⟩
      · rw [if_pos w1]
        split
        · next hc =>
          simp only [Bool.and_eq_true, beq_iff_eq] at hc
          obtain ⟨d, hd, hd3⟩ := P.dd n w3
          have hto : x.to = d := by rw [← hc.2.1, w2, hd]
          rw [w2, Int.toNat_natCast]
          exact do_q hJ1 e2 w3 (by omega) w6 (by omega)
        · exact ⟨hJ1, .inl e2⟩
      · rw [if_neg (by omega)]
        split
        · exact ⟨hJ1, .inl e2⟩
        · next i hi =>
          obtain ⟨y, hy, y1, y2⟩ := key_at hi
          rw [hy]
          simp only
          split
          · next hc =>
            obtain ⟨z1, z5, j', z2, z3, z4⟩ := hJ1 y (List.mem_of_getElem? hy)
            have hjj : j' = j := by omega
            subst hjj
            have hto : -1 ≤ x.to ∧ x.to ≤ 2 := by rw [← hc.1, ← y1]; exact z5
            have hcnt := cnt_set (fun x => !x.used) m1.keys i y { y with used := true } hy
            simp only [hc.2.1] at hcnt
            rw [w2]
            refine goOn_q (fun q hq => ?_) e2 w3 z1 hto z4 ?_
            · rcases List.mem_or_eq_of_mem_set hq with hq | rfl
              · exact hJ1 q hq
              · exact hJ1 y (List.mem_of_getElem? hy)
            · unfold unu at hu1 w4 ⊢
              simp at hcnt
              simp only
              omega
          · exact ⟨hJ1, .inl e2⟩
theorem rest_end {C : Cx} (P : Pk C) : ∀ (f : Nat) (m : Sm), Qv C m f → (restS C m f).posts = []
  | 0, m, h => by
    obtain ⟨hJ, hp | ⟨x, hx, hw⟩⟩ := h
    · exact hp
    · rcases hw with ⟨w1, n, w2, w3, w4, w5, w6, w7⟩ | ⟨w1, j, w2, w3, w4⟩ <;> omega
  | f + 1, m, h => by
    rw [restS]
    split
    · assumption
    · exact rest_end P f _ (take_q P h)
theorem start_q {C : Cx} (P : Pk C) (nums : List Int) : Qv C (startS C (newS nums)) 25 := by
  have hJ : Jk C (newS nums) := fun x hx => by simp [newS] at hx
  have hp : (newS nums).posts = [] := rfl
  have := P.sz
  unfold startS
  split
  · exact ⟨hJ, .inl hp⟩
  · have h0 : unu (newS nums) = 0 := rfl
    exact pass_q (n := 0) hJ hp (by omega) (by decide) (by decide) (.inl ⟨rfl, rfl⟩) (by omega)
theorem Qv.up {C : Cx} {m : Sm} {a b : Nat} (h : Qv C m a) (hab : a ≤ b) : Qv C m b := by
  refine ⟨h.1, ?_⟩
  rcases h.2 with h | ⟨x, hx, hw⟩
  · exact .inl h
  · refine .inr ⟨x, hx, ?_⟩
    rcases hw with ⟨w1, n, w2, w3, w4, w5, w6, w7⟩ | ⟨w1, j, w2, w3, w4⟩
    · exact .inl ⟨w1, n, w2, w3, w4, w5, w6, by omega⟩
    · exact .inr ⟨w1, j, w2, w3, by omega⟩
theorem Nst.ok {C : Cx} {k1 k2 : Int} {n : Nat} (h : Nst C k1 k2 n) : (k1 = -1 ∧ k2 = -1) ∨ 0 ≤ k2 := by
  rcases h with h | ⟨j, h, _⟩
  · exact .inl h
  · exact .inr (by omega)
theorem Jk.kxOk {C : Cx} {m : Sm} (h : Jk C m) : KxOk m := fun x hx => by
  obtain ⟨h1, _, j, _, _, h2⟩ := h x hx
  exact ⟨h1, h2.ok⟩
theorem Wm.wdOk {C : Cx} {w : Wd} {u μ : Nat} (h : Wm C w u μ) : WdOk w := fun h1 => by
  rcases h with ⟨_, n, w2, w3, w4, w5, w6, w7⟩ | ⟨w1, j, w2, w3, w4⟩
  · exact ⟨w4, w5, w6.ok⟩
  · omega
end Go.Proofs.X
end
section
namespace Go.Proofs.X
open Go Go.Proofs.XVai Go.Proofs Go.Proofs.XN
set_option linter.unusedVariables false
set_option linter.unusedSimpArgs false
set_option maxHeartbeats 4000000
set_option maxRecDepth 100000

def frv (rs : List (List HV)) : HV := if rs.isEmpty then .nils else .lst rs
section
variable {fid : Nat} {T : Tm} {S : St} {K : Tm → St → Prop} {ops : Array Oper} {l : List Oper} {dst : Option Tmp} {ty : TypeId} {pos : String} {after : Array Edge} {g0 : Option (Nat × Bool)} {bs ix : Nat} {es : List (Nat × (Nat → Prop))} {ns : List (Nat × Nat)}
theorem pG' {f : Builtin} {x y : Operand} {t t2 : TypeId} {ti ti2 : TI} {e e2 z : Nat} {rs : List (List HV)} (hg : wantG ops g0 T = true := by rfl) (hf : f = .append := by rfl) (h1 : Y.tab t = some ti := by rfl) (h2 : ti.sh = .slice e := by rfl) (h3 : Y.tab t2 = some ti2 := by rfl) (h4 : ti2.sh = .slice e2 := by rfl) (h5 : tsize Y e = some z := by rfl)
    (hx : ev T x = .nils := by rfl) (hr : rowsOf S (ev T y) = some rs) (hz : rs.all (fun r => r.length == z && r.all isCell) = true) (hF : Y.muta fid (2000 + t) = true := by rfl) (hp : rs.all (fun r => r.all pureC) = true) (hl : rs.length ≤ lim)
    (hk : DW Y fid ops bs (ix + 1) es ns l (put T dst (frv rs)) S K) :
    DW Y fid ops bs ix es ns (⟨dst, .call ⟨.builtin f, #[x, y], #[t, t2]⟩, ty, pos, after, g0⟩ :: l) T S K := by
  subst hf
  refine DW_pure hg (v := frv rs) ⟨0, ?_⟩ rfl hk
  simp only [cop]
  simp only [List.map_cons, List.map_nil, h1, h2, h3, h4, h5, cappend, hx, hr, hz, hF, hp, Bool.and_self, if_true]
  unfold frv
  split <;> simp_all
theorem bG' {t el : Nat} {x : Operand} {ti te : TI} {rs : List (List HV)} (hg : wantG ops g0 T = true := by rfl) (h1 : Y.tab t = some ti := by rfl) (h2 : ti.sh = .slice el := by rfl) (h3 : Y.tab el = some te := by rfl) (h4 : te.size = 1 := by rfl) (h5 : te.zero = [.nils] := by rfl) (hx : ev T x = frv rs := by rfl) (hn : Y.muta fid 1002 = false := by rfl)
    (hk : DW Y fid ops bs (ix + 1) es ns l (put T dst (.lst [[.lst rs]])) S K) : DW Y fid ops bs ix es ns (⟨dst, .buildSlice t 1 #[(0, x)], ty, pos, after, g0⟩ :: l) T S K := by
  have hc : cop Y fid noCall (some (bs + ix)) ⟨dst, .buildSlice t 1 #[(0, x)], ty, pos, after, g0⟩ T S = some (.lst [[.lst rs]], S) := by
    simp only [cop, h1, h2, h3, h4, h5, hn]
    unfold frv at hx
    split at hx
    · have : rs = [] := by simpa using ‹rs.isEmpty = true›
      subst this
      simp [hx, fillS, HV.cells, mapMS, frzC, pureC, List.replicate, setCells]
    · simp [hx, fillS, HV.cells, mapMS, frzC, pureC, List.replicate, setCells]
  refine DW_put hg ⟨0, cop_mono (noCall_le _) hc⟩ (fun _ => ⟨rfl, fun _ _ => rfl, ?_⟩) (fun x hx hxr hxe => ?_) (.inl rfl) (fun h => by cases h) (.inl rfl) (fun _ => .inl rfl) hk
  · intro p hp c hc
    simp only [List.mem_singleton] at hp
    subst hp
    rw [hx] at hc
    unfold frv at hc
    split at hc
    · simp [HV.cells] at hc; exact .inr hc
    · simp [HV.cells] at hc; subst hc; exact .inl rfl
  · exact .inr ⟨fun A B hAB k hk => (by cases hk), fun A B hAB => by cases hAB⟩
theorem kY' {f : Operand} {args : Array Operand} {ats : Array TypeId} {g k : Nat} {args' : List HV} {o : Ob} {S0 L : St} {v : HV} (hg : wantG ops g0 T = true := by rfl) (hf : ev T f = .fn g [] := by rfl) (hb : Y.byref g = false := by rfl)
    (ha' : mapMS (frzV 0) (args.toList.map (ev T)) (S0 ++ L) = some (args', (S0 ++ L).set k o)) (hkl : k < S0.length) (he : Ev Y g args' ((S0 ++ L).set k o) v ((S0 ++ L).set k o)) (hc : Nc ops ns ix (fun j => j = k) := by first | exact nc0 | ((repeat' (first | exact nc0 | refine nc1 (by first | assumption | omega | (simp only [List.length_append, List.length_cons, List.length_nil, List.length_set]; omega)) ?_ | refine nc3 (by first | assumption | omega | (simp only [List.length_append, List.length_cons, List.length_nil, List.length_set]; omega)) ?_ | refine nc2 (by decide +kernel) ?_)) <;> fail))
    (hk : DW Y fid ops bs (ix + 1) ((ix, fun j => j = k) :: es) ns l (put T dst v) (S0.set k o ++ L) K) :
    DW Y fid ops bs ix es ns (⟨dst, .call ⟨.value f, args, ats⟩, ty, pos, after, g0⟩ :: l) T (S0 ++ L) K := by
  have e : (S0 ++ L).set k o = S0.set k o ++ L := by rw [List.set_append_left _ _ hkl]
  obtain ⟨m, hm⟩ := he
  rw [← List.append_nil args'] at hm
  rw [← e] at hk
  exact DW_eff hg ⟨m, by simp only [cop, hf, hb, Bool.false_eq_true, if_false, ha', hm]⟩ rfl hc rfl hk
theorem mvO {x : Operand} {v : HV} (hg : wantG ops g0 T = true := by rfl) (hn : nilC x = false := by rfl) (hx : ev T x = v) (hk : OW Y fid ops none l (put T dst v) S K) : OW Y fid ops none (⟨dst, .assign x, ty, pos, after, g0⟩ :: l) T S K :=
  ⟨A_op hg (v := v) (by simp [cop, hn, hx]) hk.of⟩
theorem mvD {x : Operand} {v : HV} (hg : wantG ops g0 T = true := by rfl) (hn : nilC x = false := by rfl) (hx : ev T x = v) (hk : DW Y fid ops bs (ix + 1) es ns l (put T dst v) S K) : DW Y fid ops bs ix es ns (⟨dst, .move x, ty, pos, after, g0⟩ :: l) T S K :=
  DW_still hg (by simp [cop, hn, hx]) rfl rfl hk
theorem lenO {x : Operand} {t : TypeId} {ti : TI} {e : Nat} {o : Option Nat} {n : Nat} (hg : wantG ops g0 T = true := by rfl) (h1 : Y.tab t = some ti := by rfl) (h2 : ti.sh = .slice e := by rfl) (hx : ev T x = slo o n := by rfl) (h0 : o = none → n = 0)
    (hk : OW Y fid ops none l (put T dst (I n)) S K) : OW Y fid ops none (⟨dst, .call ⟨.builtin .len, #[x], #[t]⟩, ty, pos, after, g0⟩ :: l) T S K := by
  refine ⟨A_op hg (v := I n) ?_ hk.of⟩
  cases o with
  | none =>
    rw [h0 rfl]
    simp only [slo] at hx
    simp [cop, h1, h2, hx]
  | some q =>
    simp only [slo] at hx
    simp [cop, h1, h2, hx]
end
theorem rows_slo {S : St} {o : Option Nat} {fr : Bool} {rows : List (List HV)} {n : Nat} (hn : rows.length = n) (h0 : o = none → rows = []) (h1 : ∀ q, o = some q → S[q]? = some (.cells fr rows)) : rowsOf S (slo o n) = some rows := by
  cases o with
  | none => rw [h0 rfl]; rfl
  | some q => simp [slo, rowsOf, h1 q rfl, hn]
theorem fz_slo {n0 : Nat} {S : St} {o : Option Nat} {rows : List (List HV)} {n : Nat} (hn : rows.length = n) (h0 : o = none → rows = []) (hq : ∀ q, o = some q → n0 ≤ q) (h1 : ∀ q, o = some q → S[q]? = some (.cells true rows)) (hp : rows.all (fun r => r.all pureC) = true) : frzC n0 6 (slo o n) S = some (.lst rows, S) := by
  cases o with
  | none => rw [h0 rfl]; rfl
  | some q => exact fz_sl rfl (hq q rfl) (h1 q rfl) hn hp
theorem wd7c (ws : List Wd) : (ws.map wdrow).all (fun r => r.length == 7 && r.all isCell) = true := by simp [isCell]
theorem rest_nil {C : Cx} {m : Sm} (h : m.posts = []) : ∀ f, restS C m f = m
  | 0 => rfl
  | f + 1 => by rw [restS, if_pos h]
theorem k_impl_run (C : Cx) (k N : Nat) (m : Sm) (c : Ic) (S : St) (P : Pk C) (ht : trOk [C.a, C.b, C.c] = true) (hls : C.ls.all labOk = true) (hbad : setB C.bad = true) (hI : Iv C m N) (hN : N ≤ 200000) (hQ : Qv C m 200) (hS : ISim C S k m c) :
    EvR Y impl_parted_run [.ptr k 1 0 0] S (fun v S' => ∃ q, v = .agg [L (restS C m 200).nums, .lst ((restS C m 200).ws.map wrow), .lst ((restS C m 200).ss.map wrow), .sl q 3, .bool (restS C m 200).ended] ∧ S.length ≤ q ∧
      S'[q]? = some (.cells true [[.lst ((restS C m 200).v0.map wdrow)], [.lst ((restS C m 200).v1.map wdrow)], [.lst ((restS C m 200).v2.map wdrow)]]) ∧ S.length ≤ S'.length ∧ ∀ j, j < S.length → j ∉ ids (ios C k m c) → S'[j]? = S[j]?) := by
  have fB := hS.box
  have hkl : k < S.length := (List.getElem?_eq_some_iff.1 fB).1
  refine E_startR (h := ?_)
  repeat' (first | refine c0 ?_ | refine c7 ?_ | refine d2 ?_ | refine c8 ?_ | refine d4 ?_ | refine b0 (hk := ?_))
  refine C_loop (fun f T' S' => ∃ (T0 : Tm) (S1 : St) (n : Nat) (m1 : Sm) (c1 : Ic), n + f = 200 ∧ restS C m 200 = restS C m1 f ∧ Iv C m1 (N + 9 * n) ∧ Qv C m1 f ∧ Gh S (ids (ios C k m c)) S1 (ios C k m1 c1) ∧ ISide m1 c1 ∧
      S1[S.length + 0]? = some (.cells false [[.nils, .nils, .nils, .nils, .bool false]]) ∧ S.length + 0 ∉ ids (ios C k m1 c1) ∧ T' = putL T0 [(0, .ptr k 1 0 0), (2, .ptr (S.length + 0) 1 0 0)] ∧ S' = S1 ++ []) 200
    ⟨_, S ++ [_], 0, m, c, by omega, rfl, hI, hQ, (Gh.start hS.own).app, hS.side, get_own rfl, (fun hm => by have := hS.own.lt hm; omega), at_mk ⟨rfl, rfl, trivial⟩, (List.append_nil _).symm⟩ ?_
  rintro f T' S' ⟨T0, S1, n, m1, c1, hf, hq, hI1, hQ1, hG, hs1, fR, hnR, rfl, rfl⟩
  have fB1 : S1[k]? = some (.cells false [imrow C m1 c1]) := hG.own.get 0 rfl
  have hkl1 : k < S1.length := (List.getElem?_eq_some_iff.1 fB1).1
  have hRl : S.length + 0 < S1.length := (List.getElem?_eq_some_iff.1 fR).1
  by_cases hn : m1.posts = []
  · have hq' : restS C m 200 = m1 := by rw [hq, rest_nil hn]
    rw [hq']
    have hl0 : ¬ ((m1.posts.length : Int) > 0) := by rw [hn]; simp
    repeat' (first | refine c7 ?_ | refine d2 ?_ | refine a5 (hk := ?_) | refine b5 (hk := ?_))
    refine lenO (o := c1.p) (n := m1.posts.length) (hx := fv_eq _) (h0 := fun _ => by rw [hn]; rfl) (hk := ?_)
    have fN := hG.own.get 2 rfl
    have hnl : c1.n < S1.length := (List.getElem?_eq_some_iff.1 fN).1
    have fV := hG.own.get 1 rfl
    have n1 : k ≠ c1.n := hG.own.ne 0 2 rfl rfl
    have n1' := Ne.symm n1
    have n2 : c1.q ≠ c1.n := hG.own.ne 1 2 rfl rfl
    have n2' := Ne.symm n2
    have hcol : ∀ (j : Nat) (o : Option Nat) (rows : List (List HV)), (ios C k m1 c1)[j]? = some (colO o rows) → j ≠ 2 → ∀ q, o = some q → S1[q]? = some (.cells true rows) ∧ c1.n ≠ q := fun j o rows hj h2 q hq => by
      subst hq
      exact ⟨hG.own.get j hj, hG.own.ne 2 j rfl hj (Ne.symm h2)⟩
    have hcw := hcol 3 _ _ rfl (by decide)
    have hcs := hcol 4 _ _ rfl (by decide)
    have hc0 := hcol 5 _ _ rfl (by decide)
    have hc1 := hcol 6 _ _ rfl (by decide)
    have hc2 := hcol 7 _ _ rfl (by decide)
    repeat' (first | refine c0 ?_ | refine c2 ?_ | refine c5 ?_ | refine c7 ?_ | refine d1 ?_ | refine d4 ?_ | refine d3' (h := ?_) | refine a5 (hk := ?_) | refine e5' (hk := ?_) | refine f5' (hk := ?_) | refine u8 (hk := ?_))
    refine kY' (k := c1.n) (o := .cells true (m1.nums.map irow)) (args' := [RN m1.nums m1.ws m1.ss]) (ha' := ?_) (hkl := hnl) (he := k_impl_Run_clone ⟨m1.nums, m1.ws, m1.ss⟩ _ (by have := hI1.nl; have := P.ll; simp only; omega) (by have := hI1.zw; simp only; omega) (by have := hI1.zs; simp only; omega)) (hk := ?_)
    · have e0 : S1[c1.n]? = some (.cells false (m1.nums.map irow)) := fN
      refine fm2 (fzV_agg2 (cs := [.sl c1.n m1.nums.length, slo c1.w m1.ws.length, slo c1.s m1.ss.length]) rfl (fm2 (fz_slF rfl (Nat.zero_le _) (get_old e0) (by simp) (irow_pure _)) (fm2 (fz_slo (by simp) (fun h => by rw [hs1.w h]; rfl) (fun _ _ => Nat.zero_le _) (fun q hq => ?_) (wrow_pure _)) (fm2 (fz_slo (by simp) (fun h => by rw [hs1.s h]; rfl) (fun _ _ => Nat.zero_le _) (fun q hq => ?_) (wrow_pure _)) fm0)))) fm0
      · rw [List.getElem?_set_ne (hcw q hq).2]
        exact get_old (hcw q hq).1
      · rw [List.getElem?_set_ne (hcs q hq).2]
        exact get_old (hcs q hq).1
    repeat' (first | refine c0 ?_ | refine c7 ?_ | refine d2 ?_ | refine c8 ?_ | refine d4 ?_ | refine d4' ?_ | refine a5 (hk := ?_) | refine b5 (hk := ?_) | refine b0' (hk := ?_) | refine b7b (hk := ?_) | refine e5' (hk := ?_) | refine f5' (hk := ?_) | refine b7' (hk := ?_))
    have hS2 : ∀ j, c1.n ≠ j → (S1.set c1.n (.cells true (m1.nums.map irow)))[j]? = S1[j]? := fun j hj => List.getElem?_set_ne hj
    have hS2l : (S1.set c1.n (Ob.cells true (m1.nums.map irow))).length = S1.length := by simp
    have hfr : ∀ j, j < S.length → j ∉ ids (ios C k m c) → c1.n ≠ j ∧ S1[j]? = S[j]? := fun j hj hm => by
      obtain ⟨h1, h2⟩ := hG.old hj hm
      exact ⟨fun e => h2 (ids_mem.2 ⟨_, List.mem_of_getElem? (i := 2) (by rw [← e]; rfl)⟩), h1⟩
    have hnR' : c1.n ≠ S.length + 0 := fun e => hnR (ids_mem.2 ⟨_, List.mem_of_getElem? (i := 2) (by rw [← e]; rfl)⟩)
    generalize S1.set c1.n (Ob.cells true (m1.nums.map irow)) = S2 at *
    refine C_three (fun i T' S' => ∃ (T0 : Tm) (S3 : St) (vv : HV), (∀ j, j < S2.length → S3[j]? = S2[j]?) ∧ S2.length + 12 < S3.length ∧ S3[S2.length + 12]? = some (.cells false [[L m1.nums, .lst (m1.ws.map wrow), .lst (m1.ss.map wrow), vv, .bool m1.ended]]) ∧
        ((i = 0 ∧ vv = .nils) ∨ ∃ q', 0 < i ∧ vv = .sl q' i ∧ S2.length ≤ q' ∧ q' ≠ S2.length + 12 ∧ S3[q']? = some (.cells true ([[.lst (m1.v0.map wdrow)], [.lst (m1.v1.map wdrow)], [.lst (m1.v2.map wdrow)]].take i))) ∧
        T' = putL T0 [(2, .ptr (S.length + 0) 1 0 0), (3, .ptr (S2.length + 12) 1 0 0), (30, .sl c1.q 3), (31, I 3), (32, I i)] ∧ S' = S3 ++ [])
      ⟨_, _, .nils, fun j hj => List.getElem?_append_left hj, ?_, get_own rfl, .inl ⟨rfl, rfl⟩, at_mk ⟨rfl, rfl, rfl, rfl, rfl, trivial⟩, (List.append_nil _).symm⟩ ?_ ?_
    · simp
    · rintro i T' S' hi ⟨T1, S3, vv, hk3, hl3, fO, hvv, rfl, rfl⟩
      have hlt : (i : Int) < 3 := by omega
      have old : ∀ {q : Nat} {o : Ob}, S1[q]? = some o → c1.n ≠ q → S3[q]? = some o := fun {q o} h hn => by
        have hq := (List.getElem?_eq_some_iff.1 h).1
        rw [hk3 q (by omega), hS2 q hn, h]
      have f30 := old fV n2'
      have hi3 : (((0 : Nat) : Int)) < 3 := by decide
      rcases hvv with ⟨rfl, rfl⟩ | ⟨q', hi0, rfl, hq', hqp, fq'⟩
      · have hrow : ∀ L : St, rowsOf (S3 ++ L) (slo c1.v0 m1.v0.length) = some (m1.v0.map wdrow) := fun L => rows_slo (fr := true) (by simp) (fun h => by rw [hs1.v0 h]; rfl) fun q hq => get_old (old (hc0 q hq).1 (hc0 q hq).2)
        have hlim : (m1.v0.map wdrow).length ≤ lim := by have := hI1.z0; simp [lim]; omega
        repeat' (first | refine c0 ?_ | refine c7 ?_ | refine d2 ?_ | refine c8 ?_ | refine d0 ?_ | refine d4 ?_ | refine a5 (hk := ?_) | refine b5 (hk := ?_) | refine b9 (hk := ?_) | refine d6 (ht := ?_))
        refine mvO (v := slo c1.v0 m1.v0.length) (hx := fv_eq _) (hk := ?_)
        repeat' (first | refine c0 ?_ | refine d4 ?_ | refine d3' (h := ?_) | refine e5' (hk := ?_) | refine f5' (hk := ?_))
        refine mvD (v := slo c1.v0 m1.v0.length) (hx := rfl) (hk := ?_)
        skip
        refine pG' (rs := m1.v0.map wdrow) (hr := hrow _) (hz := wd7c _) (hp := wd_pure _) (hl := hlim) (hk := ?_)
        skip
        refine bG' (rs := m1.v0.map wdrow) (hk := ?_)
        repeat' (first | refine c0 ?_ | refine c3 ?_ | refine d2 ?_ | refine d4 ?_ | refine d4' ?_ | refine a5 (hk := ?_) | refine p1' (hk := ?_) | refine e5' (hk := ?_) | refine b7' (hk := ?_))
        refine ⟨_, _, .sl (S3.length + 5) 1, fun j hj => ?_, ?_, ?_, .inr ⟨_, Nat.one_pos, rfl, ?_, ?_, ?_⟩, at_mk ⟨rfl, rfl, rfl, rfl, inc3 (i := 0) (by omega), trivial⟩, (List.append_nil _).symm⟩
        · rw [List.getElem?_append_left (by simp; omega), List.getElem?_set_ne (by omega), hk3 j hj]
        · simp; omega
        · exact get_set fO
        · omega
        · omega
        · exact get_ownL (by simp) rfl
      · obtain ⟨vo, vs, hg, hvo, hvn, hx, hvl⟩ : ∃ (vo : Option Nat) (vs : List Wd), (ivrow m1 c1)[i]? = some [slo vo vs.length] ∧ (∀ q, vo = some q → S3[q]? = some (.cells true (vs.map wdrow))) ∧ (vo = none → vs = []) ∧ ([[.lst (m1.v0.map wdrow)], [.lst (m1.v1.map wdrow)], [.lst (m1.v2.map wdrow)]] : List (List HV))[i]? = some [.lst (vs.map wdrow)] ∧ vs.length ≤ 1000000 := by
          have : i = 0 ∨ i = 1 ∨ i = 2 := by omega
          rcases this with rfl | rfl | rfl
          · exact ⟨c1.v0, m1.v0, rfl, fun q hq => old (hc0 q hq).1 (hc0 q hq).2, hs1.v0, rfl, by have := hI1.z0; omega⟩
          · exact ⟨c1.v1, m1.v1, rfl, fun q hq => old (hc1 q hq).1 (hc1 q hq).2, hs1.v1, rfl, by have := hI1.z1; omega⟩
          · exact ⟨c1.v2, m1.v2, rfl, fun q hq => old (hc2 q hq).1 (hc2 q hq).2, hs1.v2, rfl, by have := hI1.z2; omega⟩
        have hrow : ∀ L : St, rowsOf (S3 ++ L) (slo vo vs.length) = some (vs.map wdrow) := fun L => rows_slo (fr := true) (by simp) (fun h => by rw [hvn h]; rfl) fun q hq => get_old (hvo q hq)
        have hlim : (vs.map wdrow).length ≤ lim := by simp [lim]; omega
        have hqp' := Ne.symm hqp
        have hil : (List.take i ([[.lst (m1.v0.map wdrow)], [.lst (m1.v1.map wdrow)], [.lst (m1.v2.map wdrow)]] : List (List HV))).length = i := by simp; omega
        have hi1 : (List.take i ([[.lst (m1.v0.map wdrow)], [.lst (m1.v1.map wdrow)], [.lst (m1.v2.map wdrow)]] : List (List HV))).all (fun r => r.length == 1) = true := by
          have : i = 1 ∨ i = 2 := by omega
          rcases this with rfl | rfl <;> rfl
        repeat' (first | refine c0 ?_ | refine c7 ?_ | refine d2 ?_ | refine c8 ?_ | refine d0 ?_ | refine d4 ?_ | refine a5 (hk := ?_) | refine b5 (hk := ?_) | refine b9 (hk := ?_) | refine u7 (hk := ?_))
        refine mvO (v := slo vo vs.length) (hx := fv_eq _) (hk := ?_)
        repeat' (first | refine c0 ?_ | refine d4 ?_ | refine d3' (h := ?_) | refine e5' (hk := ?_) | refine f5' (hk := ?_))
        refine mvD (v := slo vo vs.length) (hx := rfl) (hk := ?_)
        skip
        refine pG' (rs := vs.map wdrow) (hr := hrow _) (hz := wd7c _) (hp := wd_pure _) (hl := hlim) (hk := ?_)
        skip
        refine bG' (rs := vs.map wdrow) (hk := ?_)
        repeat' (first | refine c0 ?_ | refine c3 ?_ | refine d2 ?_ | refine d4 ?_ | refine d4' ?_ | refine a5 (hk := ?_) | refine e5' (hk := ?_) | refine b7' (hk := ?_) | refine p0' (hk := ?_))
        refine ⟨_, _, .sl q' (i + 1), fun j hj => ?_, ?_, ?_, .inr ⟨_, Nat.succ_pos _, rfl, hq', hqp, ?_⟩, at_mk ⟨rfl, rfl, rfl, rfl, inc3 (by omega), trivial⟩, (List.append_nil _).symm⟩
        · rw [List.getElem?_append_left (by simp; omega), List.getElem?_set_ne (by omega), List.getElem?_set_ne (by omega), hk3 j hj]
        · simp; omega
        · exact get_set (by rw [List.getElem?_set_ne (by omega)]; exact fO)
        · have hql := (List.getElem?_eq_some_iff.1 fq').1
          rw [List.getElem?_append_left (by simp; omega), List.getElem?_set_ne (by omega), List.getElem?_set_self hql]
          rw [List.take_add_one, hx]
          rfl
    · rintro T' S' ⟨T1, S3, vv, hk3, hl3, fO, hvv, rfl, rfl⟩
      have hn3 : ¬ (((3 : Nat) : Int) < 3) := by decide
      have fR3 : S3[S.length + 0]? = some (.cells false [[.nils, .nils, .nils, .nils, .bool false]]) := by
        rw [hk3 _ (by omega), hS2 _ hnR', fR]
      rcases hvv with ⟨h, _⟩ | ⟨q', _, rfl, hq', hqp, fq'⟩
      · cases h
      repeat' (first | refine c0 ?_ | refine c2 ?_ | refine c5 ?_ | refine c7 ?_ | refine d2 ?_ | refine c9 ?_ | refine d1 ?_ | refine d4 ?_ | refine a5 (hk := ?_) | refine b5 (hk := ?_) | refine b7 (hk := ?_) | refine d7 (hf := ?_))
      refine ⟨_, _, rKeepC (h3 := get_set fR3), q', rfl, by omega, ?_, ?_, fun j hj hm => ?_⟩
      · rw [List.append_nil, List.getElem?_set_ne (by omega)]
        exact fq'
      · simp; omega
      · obtain ⟨h1, h2⟩ := hfr j hj hm
        rw [List.append_nil, List.getElem?_set_ne (by omega), hk3 j (by omega), hS2 j h1, h2]
  · obtain ⟨hJ, hp | ⟨x, hx, hw⟩⟩ := hQ1
    · exact absurd hp hn
    · have hl0 : (m1.posts.length : Int) > 0 := by rw [hx]; simp
      cases f with
      | zero => exact absurd (rest_end P 0 m1 ⟨hJ, .inr ⟨x, hx, hw⟩⟩) hn
      | succ f =>
        have ht0 := take_q P (m := m1) (μ := f) ⟨hJ, .inr ⟨x, hx, hw⟩⟩
        repeat' (first | refine c7 ?_ | refine d2 ?_ | refine a5 (hk := ?_) | refine b5 (hk := ?_))
        refine lenO (o := c1.p) (n := m1.posts.length) (hx := fv_eq _) (h0 := fun hc => by rw [hs1.p hc]; rfl) (hk := ?_)
        repeat' (first | refine c0 ?_ | refine d2 ?_ | refine c8 ?_ | refine d0 ?_ | refine d4 ?_ | refine a5 (hk := ?_) | refine u7 (hk := ?_))
        refine kX (he := k_impl_take C k (N + 9 * n) m1 c1 x _ P ht hls hbad hI1 (by omega) hx hw.wdOk hJ.kxOk ⟨hG.own.app, hs1⟩) (hk := ?_)
        rintro v S2 ⟨rfl, c2, h2, s2⟩
        have fR2 := (Gh.old h2 (j := S.length + 0) (by simp; omega) hnR)
        rw [← List.append_nil S2]
        repeat' (first | refine c0 ?_ | refine c3 ?_ | refine d4 ?_)
        refine ⟨f, by omega, _, S2, n + 1, takeS C m1 0, c2, by omega, by rw [hq, restS, if_neg hn], (take_iv P hI1 0).mono (by omega), ht0, hG.app.call h2, s2, ?_, fR2.2, at_mk ⟨rfl, rfl, trivial⟩, rfl⟩
        rw [fR2.1, List.getElem?_append_left (by omega)]
        exact fR
end Go.Proofs.X
end
section
namespace Go.Proofs.X
open Go Go.Proofs.XVai Go.Proofs Go.Proofs.XN
set_option linter.unusedVariables false
set_option linter.unusedSimpArgs false
set_option maxHeartbeats 4000000
set_option maxRecDepth 100000

abbrev row0 (a b c bad : Int) (qm qv : Nat) (e : Bool) : List HV := [L [a, b, c], L [], L [], .lst [], L [], I bad, .map qm, .nils, .nils, .nils, .nils, .sl qv 3, .bool e]
theorem k_cloneInts0 (S : St) : EvR Y impl_cloneInts [L []] S (fun v S' => v = .nils ∧ ∃ J, S' = S ++ J) := by
  refine E_startR (h := ?_)
  repeat' (first | refine c0 ?_ | refine c7 ?_ | refine d2 ?_ | refine c9 ?_ | refine d4 ?_ | refine b3 (hk := ?_) | refine a5 (hk := ?_))
  exact ⟨_, _, rKeep, rfl, _, rfl⟩
theorem k_impl_newParted0 (a b c bad : Int) (S : St) : EvR Y impl_newParted [PR [] .nil, PL [a, b, c] [] [], L [], I bad] S (fun v S' => ∃ (J : St) (k qv qm : Nat), S' = S ++ J ∧ v = .ptr (S.length + k) 1 0 0 ∧ k ≠ qv ∧ J[k]? = some (.cells false [row0 a b c bad qm (S.length + qv) false]) ∧ J[qv]? = some (.cells false [[.nils], [.nils], [.nils]])) := by
  refine E_startR (h := ?_)
  repeat' (first | refine c0 ?_ | refine c7 ?_ | refine d2 ?_ | refine d4 ?_ | refine d3' (h := ?_) | refine k0' (he := (by first | exact k_impl_count0 .nil _ (by decide) | exact k_impl_TypeSets [] .nil _ (by decide))) (hk := ?_) | refine k3' (he := (by first | exact k_impl_count0 .nil _ (by decide) | exact k_impl_TypeSets [] .nil _ (by decide))) (hk := ?_) | refine b1 (hk := ?_) | refine a5 (hk := ?_) | refine e5' (hk := ?_) | refine f5' (hk := ?_))
  refine mmD (hk := ?_)
  repeat' (first | refine e5' (hk := ?_))
  refine kX' (he := k_cloneInts0 _) (hx := fun v S' ⟨_, h⟩ => h) (hk := ?_)
  rintro v J ⟨rfl, J', hJ⟩
  rw [List.append_assoc S]
  repeat' (first | refine b7b (hk := ?_))
  refine g0D (c := 3) (hz := rfl) (hz' := rfl) (hc := by decide) (hk := ?_)
  repeat' (first | refine c0 ?_ | refine c9 ?_ | refine d4' ?_ | refine b1' (hk := ?_) | refine b7b (hk := ?_) | refine e5' (hk := ?_))
  exact ⟨_, _, rKeep, _, 16, 13, _, rfl, rfl, by decide, rfl, rfl⟩
theorem k_impl_begin0 (a b c bad : Int) (k qm qv : Nat) (S : St) (hB : S[k]? = some (.cells false [row0 a b c bad qm qv false])) : EvR Y impl_parted_begin [.ptr k 1 0 0] S (fun v S' => v = .tup [] ∧ ∃ J, S' = S.set k (.cells false [row0 a b c bad qm qv true]) ++ J) := by
  refine E_startR (h := ?_)
  repeat' (first | refine c0 ?_ | refine c1 ?_ | refine c7 ?_ | refine d2 ?_ | refine c9 ?_ | refine d4 ?_ | refine a5 (hk := ?_) | refine b5 (hk := ?_) | refine b7 (hk := ?_) | refine d6 (ht := ?_))
  exact ⟨_, _, rKeep, rfl, _, rfl⟩
def RunOut (m : Sm) (S : St) (v : HV) (S' : St) : Prop := ∃ q, v = .agg [L m.nums, .lst (m.ws.map wrow), .lst (m.ss.map wrow), .sl q 3, .bool m.ended] ∧ S.length ≤ q ∧
  S'[q]? = some (.cells true [[.lst (m.v0.map wdrow)], [.lst (m.v1.map wdrow)], [.lst (m.v2.map wdrow)]]) ∧ S.length ≤ S'.length
theorem k_impl_run0 (a b c bad : Int) (k qm qv : Nat) (S : St) (hB : S[k]? = some (.cells false [row0 a b c bad qm qv true])) (hV : S[qv]? = some (.cells false [[.nils], [.nils], [.nils]])) : EvR Y impl_parted_run [.ptr k 1 0 0] S (fun v S' => RunOut { newS [] with ended := true } S v S' ∧ ∀ j, j < S.length → S'[j]? = S[j]?) := by
  refine E_startR (h := ?_)
  repeat' (first | refine c0 ?_ | refine c2 ?_ | refine c5 ?_ | refine c7 ?_ | refine d2 ?_ | refine c8 ?_ | refine d0 ?_ | refine d1 ?_ | refine d4 ?_ | refine d3' (h := ?_) | refine d4' ?_ | refine d5 ?_ | refine k0' (he := (by first | exact k_impl_Run_clone ⟨[], [], []⟩ _ (by decide) (by decide) (by decide))) (hk := ?_) | refine b0 (hk := ?_) | refine a5 (hk := ?_) | refine b5 (hk := ?_) | refine b9 (hk := ?_) | refine b0' (hk := ?_) | refine b7b (hk := ?_) | refine e5' (hk := ?_) | refine f5' (hk := ?_) | refine b7' (hk := ?_) | refine d6 (ht := ?_) | refine d7 (hf := ?_))
  refine pN' (hk := ?_)
  repeat' (first | refine c0 ?_ | refine c3 ?_ | refine c7 ?_ | refine d2 ?_ | refine c8 ?_ | refine d0 ?_ | refine d4 ?_ | refine d3' (h := ?_) | refine d4' ?_ | refine d5 ?_ | refine a5 (hk := ?_) | refine b5 (hk := ?_) | refine b9 (hk := ?_) | refine p1' (hk := ?_) | refine b4' (hk := ?_) | refine e5' (hk := ?_) | refine f5' (hk := ?_) | refine b7' (hk := ?_) | refine d6 (ht := ?_))
  refine pN' (hk := ?_)
  repeat' (first | refine c0 ?_ | refine c3 ?_ | refine c7 ?_ | refine d2 ?_ | refine c8 ?_ | refine d0 ?_ | refine d4 ?_ | refine d3' (h := ?_) | refine d4' ?_ | refine d5 ?_ | refine a5 (hk := ?_) | refine b5 (hk := ?_) | refine b9 (hk := ?_) | refine b4' (hk := ?_) | refine e5' (hk := ?_) | refine f5' (hk := ?_) | refine b7' (hk := ?_) | refine p0' (hk := ?_) | refine d6 (ht := ?_))
  refine pN' (hk := ?_)
  repeat' (first | refine c0 ?_ | refine c2 ?_ | refine c3 ?_ | refine c5 ?_ | refine c7 ?_ | refine d2 ?_ | refine c9 ?_ | refine d1 ?_ | refine d4 ?_ | refine d4' ?_ | refine d5 ?_ | refine a5 (hk := ?_) | refine b5 (hk := ?_) | refine b7 (hk := ?_) | refine b4' (hk := ?_) | refine e5' (hk := ?_) | refine b7' (hk := ?_) | refine p0' (hk := ?_) | refine d7 (hf := ?_))
  exact ⟨_, _, rKeepC (h3 := get_own rfl), ⟨_, rfl, Nat.le_add_right _ _, get_own rfl, by simp⟩, fun j hj => by rw [List.getElem?_append_left hj]⟩
theorem frz_out {m : Sm} {n0 q : Nat} {S : St} (hq : n0 ≤ q) (h : S[q]? = some (.cells true [[.lst (m.v0.map wdrow)], [.lst (m.v1.map wdrow)], [.lst (m.v2.map wdrow)]])) : frzV n0 (.agg [L m.nums, .lst (m.ws.map wrow), .lst (m.ss.map wrow), .sl q 3, .bool m.ended]) S = some (PTm m, S) :=
  fzV_agg2 rfl (fm2 rfl (fm2 rfl (fm2 rfl (fm2 (fz_sl rfl hq h rfl rfl) (fm2 rfl fm0)))))
theorem rOut {f : Nat} {fn : Func} {T' : Tm} {S0 S1 : St} {m : Sm} (hkp : Y.keep f = false := by rfl) {a bt : Tmp} {t : TypeId} (hres : fn.results.toList = [.cell a t, .tmp bt] := by rfl) {ti : TI} (ht : Y.tab t = some ti := by rfl) {p q : Nat} {fr : Bool} {row : List HV}
    (h2 : T' a = .ptr p 1 0 0 := by rfl) (h3 : S1[p]? = some (.cells fr [row])) (h6 : XVai.part ti.agg ti.size row 0 = some (.agg [L m.nums, .lst (m.ws.map wrow), .lst (m.ss.map wrow), .sl q 3, .bool m.ended]) := by rfl) (hb : T' bt = .bool true := by rfl) (hq : S0.length ≤ q)
    (hv : S1[q]? = some (.cells true [[.lst (m.v0.map wdrow)], [.lst (m.v1.map wdrow)], [.lst (m.v2.map wdrow)]])) (hl : S0.length ≤ S1.length) (ho : ∀ j, j < S0.length → S1[j]? = S0[j]?) : RT Y f fn S0 (.tup [PTm m, .bool true]) S0 .ret T' S1 :=
  rRun hkp hres ht h2 h3 rfl rfl h6 hb (frz_out hq hv) rfl hl ho
theorem k_impl_PartRun (ls : List Lab) (ss : Stps) (ts hs ds nums : List Int) (S : St) (h1 : ss.sz ≤ 1048576) (h2 : ls.length ≤ 1048576) (h3 : ts.length ≤ 1048576) (h4 : hs.length ≤ 1048576) (h5 : ds.length ≤ 1048576) (h6 : nums.length ≤ 1048576) :
    Ev Y impl_PartRun [PR ls ss, PL ts hs ds, L nums] S (partV (partRun ls ss ts hs ds nums)) S := by
  have ep := fun S => k_impl_PlanOk ls ss ts hs ds S h1 h2 h3 h4 h5
  have en := fun S => k_impl_NumsOk ls ss nums S h1 h2 h6
  unfold partRun
  cases q1 : planOk ls ss ts hs ds with
  | false =>
    simp only [q1] at ep
    simp only [Bool.false_and, Bool.false_eq_true, if_false]
    refine E_start (h := ?_)
    repeat' (first | refine c0 ?_ | refine c1 ?_ | refine c7 ?_ | refine d2 ?_ | refine c9 ?_ | refine d4 ?_ | refine a0 (hk := ?_) | refine k0 (he := (by first | exact ep _)) (hk := ?_) | refine b0 (hk := ?_) | refine b1 (hk := ?_) | refine a1 (hk := ?_) | refine a5 (hk := ?_) | refine b5 (hk := ?_) | refine b7 (hk := ?_) | refine d6 (ht := ?_))
    exact rRun (h3 := get_own rfl) (hz := rfl) (hl := by simp) (ho := fun j hj => List.getElem?_append_left hj)
  | true =>
    simp only [q1] at ep
    cases q2 : numsOk ls ss nums with
    | false =>
      simp only [q2] at en
      simp only [Bool.and_false, Bool.false_eq_true, if_false]
      refine E_start (h := ?_)
      repeat' (first | refine c0 ?_ | refine c1 ?_ | refine c7 ?_ | refine d2 ?_ | refine c9 ?_ | refine d4 ?_ | refine k0 (he := (by first | exact ep _ | exact en _)) (hk := ?_) | refine b0 (hk := ?_) | refine b1 (hk := ?_) | refine a2 (hk := ?_) | refine a5 (hk := ?_) | refine b5 (hk := ?_) | refine b7 (hk := ?_) | refine d6 (ht := ?_))
      exact rRun (h3 := get_own rfl) (hz := rfl) (hl := by simp) (ho := fun j hj => List.getElem?_append_left hj)
    | true =>
      simp only [q2] at en
      obtain ⟨a, b, c, rfl, P⟩ := pk_of 0 q1
      have htr : trOk [a, b, c] = true := by
        simp only [planOk, Bool.and_eq_true] at q1
        exact q1.1.1.1.2
      have hlo : ls.all labOk = true := (progOk_in P.ok).2.1
      simp only [Bool.and_true, if_true]
      have hI : Iv ⟨ls, ss, a, b, c, hs, ds, 0⟩ (newS nums) 0 := new_iv q2
      by_cases h0 : nums = []
      · subst h0
        have hl0 : ls = [] := List.eq_nil_of_length_eq_zero hI.nl.symm
        subst hl0
        have hs0 : hs = [] := List.eq_nil_of_length_eq_zero P.hl
        subst hs0
        have hn0 : ss = .nil := by
          cases ss with
          | nil => rfl
          | cons k v x hh t e r =>
            have := (progOk_in P.ok).2.2.1
            simp [stepsOk, vOk, inB] at this
            omega
        subst hn0
        have hd0 : ds = [] := List.eq_nil_of_length_eq_zero P.dl
        subst hd0
        have hst : restS ⟨[], .nil, a, b, c, [], [], 0⟩ (startS ⟨[], .nil, a, b, c, [], [], 0⟩ (newS [])) 200 = { newS [] with ended := true } := rest_nil rfl 200
        rw [hst]
        refine E_start (h := ?_)
        repeat' (first | refine c0 ?_ | refine c7 ?_ | refine d2 ?_ | refine d0 ?_ | refine d4 ?_ | refine k0 (he := (by first | exact ep _ | exact en _)) (hk := ?_) | refine b0 (hk := ?_) | refine b1 (hk := ?_) | refine a2 (hk := ?_) | refine a5 (hk := ?_) | refine b5 (hk := ?_) | refine d7 (hf := ?_))
        refine kX (he := k_impl_newParted0 a b c 0 _) (hk := ?_)
        rintro v S1 ⟨J, k, qv, qm, hS1, rfl, hkv, fB, fV⟩
        have gB := (congrArg (fun S : St => S[_]?) hS1).trans (get_own fB)
        have gV := (congrArg (fun S : St => S[_]?) hS1).trans (get_own fV)
        have f6 : S1[S.length + 2]? = some (.cells false [[.nils, .nils, .nils, .nils, .bool false]]) := by
          rw [hS1]; exact get_old (get_own rfl)
        have hS : ∀ j, j < S.length → S1[j]? = S[j]? := fun j hj => by
          rw [hS1, List.getElem?_append_left (by simp; omega), List.getElem?_append_left hj]
        have hl1 : S.length + 3 ≤ S1.length := by rw [hS1]; simp
        simp only [List.length_append, List.length_cons, List.length_nil] at gB gV ⊢
        clear hS1
        rw [← List.append_nil S1]
        repeat' (first | refine c0 ?_ | refine c7 ?_ | refine d2 ?_ | refine d4 ?_ | refine a5 (hk := ?_))
        refine kX (he := k_impl_begin0 a b c 0 _ qm _ _ (get_old gB)) (hk := ?_)
        rintro v S2 ⟨rfl, J2, hJ2⟩
        have kl := (List.getElem?_eq_some_iff.1 gB).1
        have hk2 : ∀ j, S.length + (0 + 1 + 1 + 1) + k ≠ j → j < S1.length → S2[j]? = S1[j]? := fun j hj hjl => by
          rw [hJ2, List.getElem?_append_left (by simp; omega), List.getElem?_set_ne hj, List.append_nil]
        have gB2 : S2[S.length + (0 + 1 + 1 + 1) + k]? = some (.cells false [row0 a b c 0 qm (S.length + (0 + 1 + 1 + 1) + qv) true]) := by
          rw [hJ2]; exact get_set (get_old gB)
        have gV2 := (hk2 _ (by omega) (List.getElem?_eq_some_iff.1 gV).1).trans gV
        have f62 := (hk2 (S.length + 2) (by omega) (by omega)).trans f6
        have hS2 : ∀ j, j < S.length → S2[j]? = S[j]? := fun j hj => (hk2 j (by omega) (by omega)).trans (hS j hj)
        have hl2 : S.length + 3 ≤ S2.length := by rw [hJ2]; simp; omega
        clear hJ2
        rw [← List.append_nil S2]
        repeat' (first | refine c0 ?_ | refine c7 ?_ | refine d2 ?_ | refine d4 ?_ | refine a5 (hk := ?_))
        refine kX (he := k_impl_run0 a b c 0 _ qm _ _ (get_old gB2) (get_old gV2)) (hk := ?_)
        rintro v S3 ⟨⟨q, rfl, hq, fq, hl3⟩, hS3⟩
        simp only [List.append_nil] at hq hl3 hS3
        have f63 := (hS3 _ (by omega)).trans f62
        rw [← List.append_nil S3]
        repeat' (first | refine c0 ?_ | refine c9 ?_ | refine d4 ?_ | refine a5 (hk := ?_) | refine b7 (hk := ?_))
        refine rOut (m := { newS [] with ended := true }) (q := q) (h3 := get_set f63) (hq := by omega) (hv := ?_) (hl := by simp; omega) (ho := fun j hj => ?_)
        · rw [List.append_nil, List.getElem?_set_ne (by omega)]
          exact fq
        · rw [List.append_nil, List.getElem?_set_ne (by omega), hS3 j (by omega), hS2 j hj]
      · generalize hC : (⟨ls, ss, a, b, c, hs, ds, 0⟩ : Cx) = C at *
        have eN : ∀ S, EvR Y impl_newParted [PR ls ss, PL [a, b, c] hs ds, L nums, I 0] S (fun v S' => ∃ k c, v = .ptr k 1 0 0 ∧ Gh S [] S' (ios C k (newS nums) c) ∧ ISide (newS nums) c ∧ c.p = none) := fun S => by
          subst hC
          exact k_impl_newParted ⟨ls, ss, a, b, c, hs, ds, 0⟩ nums S P hI.nl h0
        have htr' : trOk [C.a, C.b, C.c] = true := by subst hC; exact htr
        have hlo' : C.ls.all labOk = true := by subst hC; exact hlo
        have hbad : setB C.bad = true := by subst hC; exact set0
        have hQ := start_q P nums
        have hI2 := start_iv P hI
        refine E_start (h := ?_)
        repeat' (first | refine c0 ?_ | refine c7 ?_ | refine d2 ?_ | refine d0 ?_ | refine d4 ?_ | refine k0 (he := (by first | exact ep _ | exact en _)) (hk := ?_) | refine b0 (hk := ?_) | refine b1 (hk := ?_) | refine a2 (hk := ?_) | refine a5 (hk := ?_) | refine b5 (hk := ?_) | refine d7 (hf := ?_))
        refine kX (he := eN _) (hk := ?_)
        rintro v S1 ⟨k, cc, rfl, hG, hsd, hpn⟩
        have f6 := (hG.old (j := S.length + 2) (by simp) (by simp)).1.trans (get_own rfl)
        rw [← List.append_nil S1]
        repeat' (first | refine c0 ?_ | refine c7 ?_ | refine d2 ?_ | refine d4 ?_ | refine a5 (hk := ?_))
        refine kX (he := k_impl_begin C k (newS nums) cc _ P htr' (by simp [newS]) (fun x hx => by simp [newS] at hx) hpn ⟨hG.own.app, hsd⟩) (hk := ?_)
        rintro v S2 ⟨rfl, c2, h2, s2⟩
        have hG2 := hG.app.call h2
        have f62 := (h2.old (j := S.length + 2) (by have := (List.getElem?_eq_some_iff.1 f6).1; simp; omega) (fun hm => by
          rcases hG.fo.nw _ hm with h | h
          · simp at h
          · cases h)).1.trans (get_old f6)
        rw [← List.append_nil S2]
        repeat' (first | refine c0 ?_ | refine c7 ?_ | refine d2 ?_ | refine d4 ?_ | refine a5 (hk := ?_))
        refine kX (he := k_impl_run C k 2 (startS C (newS nums)) c2 _ P htr' hlo' hbad hI2 (by omega) (hQ.up (by omega)) ⟨hG2.own.app, s2⟩) (hk := ?_)
        rintro v S3 ⟨q, rfl, hq, fq, hl3, hold⟩
        have hnew : ∀ j, j < S.length + 3 → S3[j]? = S2[j]? ∧ j < S2.length := fun j hj => by
          have hle := hG2.fo.le
          simp only [List.length_append, List.length_cons, List.length_nil] at hle
          refine ⟨(hold j (by simp; omega) (fun hm => ?_)).trans (by rw [List.append_nil]), by omega⟩
          rcases hG2.fo.nw _ hm with h | h
          · simp at h; omega
          · cases h
        have f63 := (hnew (S.length + 2) (by omega)).1.trans f62
        have hS3 : ∀ j, j < S.length → S3[j]? = S[j]? := fun j hj => by
          rw [(hnew j (by omega)).1, hG2.fo.fr j (by simp; omega) (by simp), List.getElem?_append_left hj]
        have hl2 := (hnew (S.length + 2) (by omega)).2
        simp only [List.append_nil] at hq hl3
        rw [← List.append_nil S3]
        repeat' (first | refine c0 ?_ | refine c9 ?_ | refine d4 ?_ | refine a5 (hk := ?_) | refine b7 (hk := ?_))
        refine rOut (m := restS C (startS C (newS nums)) 200) (q := q) (h3 := get_set f63) (hq := by omega) (hv := ?_) (hl := by simp; omega) (ho := fun j hj => ?_)
        · rw [List.append_nil, List.getElem?_set_ne (by omega)]
          exact fq
        · rw [List.append_nil, List.getElem?_set_ne (by omega), hS3 j hj]
end Go.Proofs.X
end
section
namespace Go.Proofs.X
open Go Go.Proofs.XVai Go.Proofs Go.Proofs.XN
set_option linter.unusedVariables false
set_option linter.unusedSimpArgs false
set_option maxHeartbeats 4000000
set_option maxRecDepth 100000

def mk : List Bool → Nat
  | [] => 0
  | b :: bs => (if b then 1 else 0) + 2 * mk bs
abbrev orI (a b : Int) : Int := IntKind.i64.wrap (BitVec.ofInt IntKind.i64.bits a ||| BitVec.ofInt IntKind.i64.bits b).toNat
abbrev xorMask (f s m : Int) : Int := IntKind.i64.wrap (BitVec.ofInt IntKind.i64.bits (IntKind.i64.wrap (BitVec.ofInt IntKind.i64.bits f ^^^ BitVec.ofInt IntKind.i64.bits s).toNat) &&& BitVec.ofInt IntKind.i64.bits m).toNat
theorem xm0 : ∀ f, f < 1 → ∀ s, s < 1 → (xorMask (f : Nat) (s : Nat) (mk [] : Nat) != 0) = !sameOn (row2 f 0) (row2 s 0) [] := by decide +kernel
theorem xm1 : ∀ a : Bool, ∀ f, f < 2 → ∀ s, s < 2 → (xorMask (f : Nat) (s : Nat) (mk [a] : Nat) != 0) = !sameOn (row2 f 1) (row2 s 1) [a] := by decide +kernel
theorem xm2 : ∀ a b : Bool, ∀ f, f < 4 → ∀ s, s < 4 → (xorMask (f : Nat) (s : Nat) (mk [a, b] : Nat) != 0) = !sameOn (row2 f 2) (row2 s 2) [a, b] := by decide +kernel
theorem xm3 : ∀ a b c : Bool, ∀ f, f < 8 → ∀ s, s < 8 → (xorMask (f : Nat) (s : Nat) (mk [a, b, c] : Nat) != 0) = !sameOn (row2 f 3) (row2 s 3) [a, b, c] := by decide +kernel
theorem xm4 : ∀ a b c d : Bool, ∀ f, f < 16 → ∀ s, s < 16 → (xorMask (f : Nat) (s : Nat) (mk [a, b, c, d] : Nat) != 0) = !sameOn (row2 f 4) (row2 s 4) [a, b, c, d] := by decide +kernel
theorem xm {vars : List Bool} {n f s : Nat} (hn : vars.length = n) (h4 : n ≤ 4) (hf : f < 2 ^ n) (hs : s < 2 ^ n) : (xorMask (f : Nat) (s : Nat) (mk vars : Nat) != 0) = !sameOn (row2 f n) (row2 s n) vars := by
  subst hn
  match vars, h4 with
  | [], _ => exact xm0 f hf s hs
  | [a], _ => exact xm1 a f hf s hs
  | [a, b], _ => exact xm2 a b f hf s hs
  | [a, b, c], _ => exact xm3 a b c f hf s hs
  | [a, b, c, d], _ => exact xm4 a b c d f hf s hs
  | _ :: _ :: _ :: _ :: _ :: _, h => simp at h
def pairAt (ls : List Lab) (ss : Stps) (vars : List Bool) (dif : Rn → Rn → Bool) (p : Nat × Nat) : Bool :=
  sameOn (row2 p.1 ls.length) (row2 p.2 ls.length) vars && dif (runOf ls ss (row2 p.1 ls.length)) (runOf ls ss (row2 p.2 ls.length))
end Go.Proofs.X
end
section
namespace Go.Proofs.X
open Go Go.Proofs.XVai Go.Proofs Go.Proofs.XN
set_option linter.unusedVariables false
set_option linter.unusedSimpArgs false
set_option maxHeartbeats 4000000
set_option maxRecDepth 100000

theorem lcInts_eq (a : List Int) (S : St) (ha : a.length ≤ 1048576) : Ev Y laws_lcInts [L a, L a] S (.bool true) S := by
  have := k_laws_lcInts a a S ha ha
  rwa [beq_self_eq_true] at this
end Go.Proofs.X
end
section
namespace Go.Proofs.X
open Go Go.Proofs.XVai Go.Proofs Go.Proofs.XN
set_option linter.unusedVariables false
set_option linter.unusedSimpArgs false
set_option maxHeartbeats 40000000
set_option maxRecDepth 100000

theorem k_laws_lcRun (nums : List Int) (ws ss : List (Int × Int)) (S : St) (h1 : nums.length ≤ 1048576) (h2 : ws.length ≤ 1048576) (h3 : ss.length ≤ 1048576) : Ev Y laws_lcRun [RN nums ws ss, RN nums ws ss] S (.bool true) S := by
  have e1 := fun S => lcInts_eq nums S h1
  have e2 : ∀ S, Ev Y laws_lcWrites [WS ws, WS ws] S (.bool true) S := fun S => by
    have := k_laws_lcWrites ws ws S h2 h2
    rwa [beq_self_eq_true] at this
  have hn : (((ss.map wrow).length : Int) != ((ss.map wrow).length : Int)) = false := by simp
  refine E_start (h := ?_)
  repeat' (first | refine c0 ?_ | refine c7 ?_ | refine d2 ?_ | refine c8 ?_ | refine d0 ?_ | refine d4 ?_ | refine k0 (he := (by first | exact e1 _ | exact e2 _)) (hk := ?_) | refine b1 (hk := ?_) | refine a2 (hk := ?_) | refine a5 (hk := ?_) | refine b5 (hk := ?_) | refine u6 (hk := ?_))
  refine C_list ss (fun pre r T' S' => ∃ (T0 : Tm) (S1 : St), Ext S S1 ∧ S1[S.length + 0]? = some (.cells false [[L nums, WS ws, WS ss]]) ∧ S1[S.length + 1]? = some (.cells false [[L nums, WS ws, WS ss]]) ∧ T' = putL T0 [(2, .ptr (S.length + 0) 1 0 0), (3, .ptr (S.length + 1) 1 0 0), (5, I pre.length)] ∧ S' = S1 ++ [])
    ⟨_, _, ex0, get_own rfl, get_own rfl, at_mk ⟨rfl, rfl, rfl, trivial⟩, (List.append_nil _).symm⟩ ?_ ?_
  · rintro pre x r T' S' hx ⟨T0, S1, hE, f1, f2, rfl, rfl⟩
    have hg := map_get (f := wrow) (mid hx)
    have hlt := mid_lt hx
    have hc0 : (pre.length : Int) < ((ss.map wrow).length : Int) := by simp; omega
    repeat' (first | refine c0 ?_ | refine c1 ?_ | refine c3 ?_ | refine c4 ?_ | refine c7 ?_ | refine d2 ?_ | refine c8 ?_ | refine c9 ?_ | refine d0 ?_ | refine d4 ?_ | refine d3' (h := ?_) | refine d4' ?_ | refine a5 (hk := ?_) | refine b5 (hk := ?_) | refine e5' (hk := ?_) | refine f5' (hk := ?_) | refine f6' (hk := ?_) | refine f8' (hk := ?_) | (with_reducible intro hc) | refine u7 (hk := ?_) | refine d9 (ht := ?_) (hf := ?_))
    · exfalso; simp at hc
    · exact ⟨_, _, ex1 hE, get_old f1, get_old f2, at_mk ⟨rfl, rfl, inc (by omega), trivial⟩, (List.append_nil _).symm⟩
  · rintro T' S' ⟨T0, S1, hE, f1, f2, rfl, rfl⟩
    have hc0 : ¬ ((ss.length : Int) < ((ss.map wrow).length : Int)) := by simp
    repeat' (first | refine c0 ?_ | refine c2 ?_ | refine c5 ?_ | refine c7 ?_ | refine d2 ?_ | refine c9 ?_ | refine d1 ?_ | refine d4 ?_ | refine a5 (hk := ?_) | refine b5 (hk := ?_) | refine u8 (hk := ?_))
    exact rBx hE (hv := rfl)
end Go.Proofs.X
end
section
namespace Go.Proofs.X
open Go Go.Proofs.XVai Go.Proofs Go.Proofs.XN
set_option linter.unusedVariables false
set_option linter.unusedSimpArgs false
set_option maxHeartbeats 4000000
set_option maxRecDepth 100000

def takeN (C : Cx) : Nat → Sm → Sm
  | 0, m => m
  | n + 1, m => takeN C n (takeS C m 0)
theorem takeN_add (C : Cx) : ∀ (a b : Nat) (m : Sm), takeN C (a + b) m = takeN C b (takeN C a m)
  | 0, b, m => by simp [takeN]
  | a + 1, b, m => by
    rw [show a + 1 + b = (a + b) + 1 by omega, takeN, takeN, takeN_add C a b]
theorem take_nil {C : Cx} {m : Sm} (h : m.posts = []) : takeS C m 0 = m := by unfold takeS; rw [h]; rfl
theorem takeN_nil {C : Cx} {m : Sm} (h : m.posts = []) : ∀ n, takeN C n m = m
  | 0 => rfl
  | n + 1 => by rw [takeN, take_nil h, takeN_nil h n]
theorem rest_takeN (C : Cx) : ∀ (f : Nat) (m : Sm), restS C m f = takeN C f m
  | 0, m => rfl
  | f + 1, m => by
    rw [restS]
    split
    · next h => rw [takeN_nil h]
    · rw [takeN, rest_takeN C f]
/-! ### keys -/
def kget (m : Sm) (a b : Int) : Option Kx := m.keys.find? fun x => x.maker == a && x.after == b
theorem find_idx {α : Type} (p : α → Bool) : ∀ (l : List α), (l.findIdx? p = none ∧ l.find? p = none) ∨ ∃ i x, l.findIdx? p = some i ∧ l[i]? = some x ∧ l.find? p = some x ∧ p x = true
  | [] => .inl ⟨rfl, rfl⟩
  | y :: l => by
    by_cases hy : p y = true
    · exact .inr ⟨0, y, by simp [List.findIdx?_cons, hy], rfl, by simp [List.find?_cons, hy], hy⟩
    · rcases find_idx p l with ⟨h1, h2⟩ | ⟨i, x, h1, h2, h3, h4⟩
      · exact .inl ⟨by simp [List.findIdx?_cons, hy, h1], by simp [List.find?_cons, hy, h2]⟩
      · exact .inr ⟨i + 1, x, by simp [List.findIdx?_cons, hy, h1], by simpa using h2, by simp [List.find?_cons, hy, h3], h4⟩
theorem find_set_same {α : Type} (p : α → Bool) {y : α} (hy : p y = true) : ∀ (l : List α) (i : Nat), l.findIdx? p = some i → (l.set i y).find? p = some y
  | [], i, h => by simp at h
  | z :: l, i, h => by
    by_cases hz : p z = true
    · simp [List.findIdx?_cons, hz] at h
      subst h
      simp [List.find?_cons, hy]
    · simp [List.findIdx?_cons, hz] at h
      obtain ⟨j, h1, rfl⟩ := h
      simp [List.find?_cons, hz, find_set_same p hy l j h1]
theorem find_set_other {α : Type} (q : α → Bool) {x y : α} (hx : q x = false) (hy : q y = false) : ∀ (l : List α) (i : Nat), l[i]? = some x → (l.set i y).find? q = l.find? q
  | [], i, h => by simp at h
  | z :: l, 0, h => by
    simp at h
    subst h
    simp [List.find?_cons, hx, hy]
  | z :: l, i + 1, h => by
    have := find_set_other q hx hy l i (by simpa using h)
    simp [List.find?_cons, this]
theorem kget_in {m : Sm} {a b : Int} {x : Kx} (h : kget m a b = some x) : x.maker = a ∧ x.after = b := by
  have := List.find?_some h
  simpa using this
theorem kget_congr {m m' : Sm} (h : m'.keys = m.keys) (a b : Int) : kget m' a b = kget m a b := by unfold kget; rw [h]
theorem keyI_of {m : Sm} {a b : Int} : (keyI m.keys a b = none ∧ kget m a b = none) ∨ ∃ i x, keyI m.keys a b = some i ∧ m.keys[i]? = some x ∧ kget m a b = some x := by
  rcases find_idx (fun x : Kx => x.maker == a && x.after == b) m.keys with h | ⟨i, x, h1, h2, h3, h4⟩
  · exact .inl h
  · exact .inr ⟨i, x, h1, h2, h3⟩
theorem key_no {m : Sm} {a b : Int} (h : kget m a b = none) : (keyI m.keys a b).isSome = false := by
  rcases keyI_of (m := m) (a := a) (b := b) with ⟨h1, _⟩ | ⟨i, x, _, _, h1⟩
  · rw [h1]; rfl
  · rw [h] at h1; cases h1
theorem kget_set {m : Sm} {k1 k2 : Int} {i : Nat} {x y : Kx} (hi : keyI m.keys k1 k2 = some i) (hx : m.keys[i]? = some x) (hm : y.maker = k1) (ha : y.after = k2) (a b : Int) :
    kget { m with keys := m.keys.set i y } a b = if a = k1 ∧ b = k2 then some y else kget m a b := by
  split
  · next h =>
    obtain ⟨rfl, rfl⟩ := h
    exact find_set_same _ (by simp [hm, ha]) _ _ hi
  · next h =>
    rcases keyI_of (m := m) (a := k1) (b := k2) with ⟨h1, _⟩ | ⟨i', x', h1, h2, h3⟩
    · rw [hi] at h1; cases h1
    rw [hi] at h1
    cases h1
    rw [hx] at h2
    cases h2
    obtain ⟨e1, e2⟩ := kget_in h3
    refine find_set_other _ ?_ ?_ _ _ hx
    · simp only [e1, e2, Bool.and_eq_false_iff, beq_eq_false_iff_ne]
      by_cases h5 : a = k1
      · exact .inr fun h6 => h ⟨h5, h6.symm⟩
      · exact .inl fun h6 => h5 h6.symm
    · simp only [hm, ha, Bool.and_eq_false_iff, beq_eq_false_iff_ne]
      by_cases h5 : a = k1
      · exact .inr fun h6 => h ⟨h5, h6.symm⟩
      · exact .inl fun h6 => h5 h6.symm
theorem kget_hold {m : Sm} {h k1 k2 : Int} (h0 : 0 ≤ h) (a b : Int) : kget (holdS m h k1 k2) a b = if a = k1 ∧ b = k2 then (kget m k1 k2).map (fun x => { x with held := eitherG x.held (2 ^ h.toNat) }) else kget m a b := by
  rcases keyI_of (m := m) (a := k1) (b := k2) with ⟨h1, h2⟩ | ⟨i, x, h1, h2, h3⟩
  · unfold holdS
    rw [h1]
    simp only
    split
    · next h => rw [h.1, h.2, h2]; rfl
    · rfl
  · unfold holdS
    rw [h1]
    simp only [if_pos h0]
    rw [mod_set h2]
    obtain ⟨e1, e2⟩ := kget_in h3
    rw [kget_set h1 h2 (by exact e1) (by exact e2), h3]
    rfl
theorem kget_make (m : Sm) (host n level k1 k2 a b : Int) (hn : kget m host n = none) : kget (makeS m host n level k1 k2) a b = if a = host ∧ b = n then some ⟨host, n, level, k1, k2, 0, false⟩ else kget m a b := by
  unfold kget makeS
  simp only [List.find?_append, List.find?_cons, List.find?_nil]
  by_cases hab : a = host ∧ b = n
  · obtain ⟨rfl, rfl⟩ := hab
    unfold kget at hn
    rw [hn]
    simp
  · have : (host == a && n == b) = false := by
      simp only [Bool.and_eq_false_iff, beq_eq_false_iff_ne]
      by_cases h5 : a = host
      · exact .inr fun h6 => hab ⟨h5, h6.symm⟩
      · exact .inl fun h6 => h5 h6.symm
    rw [this, if_neg hab]
    cases List.find? (fun x => x.maker == a && x.after == b) m.keys <;> rfl
end Go.Proofs.X
end
section
namespace Go.Proofs.X
open Go Go.Proofs.XVai Go.Proofs Go.Proofs.XN
set_option linter.unusedVariables false
set_option linter.unusedSimpArgs false
set_option maxHeartbeats 4000000
set_option maxRecDepth 100000

def rn (m : Sm) : Rn := ⟨m.nums, m.ws, m.ss⟩
def cgL (j : Nat) (l : List Wd) : Nat := l.countP fun w => w.kind == 1 && w.n == (j : Int)
def cg (j : Nat) (m : Sm) : Nat := cgL j m.v0 + (cgL j m.v1 + cgL j m.v2)
theorem see_all (m : Sm) (j : Nat) (w : Wd) : (m.see j w).nums = m.nums ∧ (m.see j w).ws = m.ws ∧ (m.see j w).ss = m.ss ∧ (m.see j w).posts = m.posts ∧ (m.see j w).keys = m.keys ∧ (m.see j w).ended = m.ended := by
  unfold Sm.see
  split <;> exact ⟨rfl, rfl, rfl, rfl, rfl, rfl⟩
theorem sees_all (m : Sm) (h : Int) (w : Wd) : (seesS m h w).nums = m.nums ∧ (seesS m h w).ws = m.ws ∧ (seesS m h w).ss = m.ss ∧ (seesS m h w).posts = m.posts ∧ (seesS m h w).keys = m.keys ∧ (seesS m h w).ended = m.ended := by
  unfold seesS
  split
  · exact see_all _ _ _
  · exact ⟨rfl, rfl, rfl, rfl, rfl, rfl⟩
theorem cg_see (i : Nat) (m : Sm) (j : Nat) (w : Wd) : cg i (m.see j w) = cg i m + (if w.kind = 1 ∧ w.n = i then 1 else 0) := by
  have : ∀ l : List Wd, cgL i (l ++ [w]) = cgL i l + (if w.kind = 1 ∧ w.n = i then 1 else 0) := fun l => by
    simp [cgL, List.countP_append, List.countP_cons]
  unfold Sm.see
  split <;> simp only [cg, this] <;> omega
theorem cg_sees (i : Nat) (m : Sm) (h : Int) (w : Wd) : cg i (seesS m h w) ≤ cg i m + (if w.kind = 1 ∧ w.n = i then 1 else 0) := by
  unfold seesS
  split
  · rw [cg_see]; exact Nat.le_refl _
  · omega
theorem cg_no (i : Nat) (m : Sm) (h : Int) (w : Wd) (hk : w.kind ≠ 1) : cg i (seesS m h w) ≤ cg i m := by
  have := cg_sees i m h w
  rw [if_neg (fun h => hk h.1)] at this
  omega
def tot (m : Sm) : Nat := m.v0.length + (m.v1.length + m.v2.length)
theorem tot_sees (m : Sm) (h : Int) (w : Wd) : tot (seesS m h w) ≤ tot m + 1 := by
  unfold seesS
  split
  · unfold Sm.see
    split <;> simp only [tot, List.length_append, List.length_cons, List.length_nil] <;> omega
  · omega
theorem tot_congr {m m' : Sm} (h0 : m'.v0 = m.v0) (h1 : m'.v1 = m.v1) (h2 : m'.v2 = m.v2) : tot m' = tot m := by unfold tot; rw [h0, h1, h2]
def Hd (C : Cx) (h : Int) : Prop := h = -1 ∨ ∃ i : Nat, i < C.ss.sz ∧ h = nget C.ds i
theorem Hd.in {C : Cx} (P : Pk C) {h : Int} (hh : Hd C h) : -1 ≤ h ∧ h ≤ 2 := by
  rcases hh with rfl | ⟨i, hi, rfl⟩
  · decide
  · obtain ⟨d, hd, hd3⟩ := P.dd i hi
    omega
structure Cl (C : Cx) (I : Sm → Prop) : Prop where
  quiet : ∀ m m' : Sm, m'.nums = m.nums → m'.ws = m.ws → m'.ss = m.ss → m'.v0 = m.v0 → m'.v1 = m.v1 → m'.v2 = m.v2 → I m → I m'
  go : ∀ (m : Sm) (n : Nat) (host L k1 k2 : Int), n < C.ss.sz → Hd C host → setB L = true → withinG (SF C.ls (stpAt C n)) L = true → withinG L (C.by host) = true → I m → I (seesS m (nget C.ds n) ⟨1, host, n, L, k1, k2, 0⟩)
  back : ∀ (m : Sm) (a : Int) (i j : Nat), i < C.ss.sz → j < C.ss.sz → Hd C a → I m → I (seesS m a ⟨2, nget C.ds i, 0, 0, a, j, 0⟩)
  ask : ∀ (m : Sm) (n : Nat) (v : Int), n < C.ss.sz → v ∈ stepVars (stpAt C n).k (stpAt C n).v (stpAt C n).x → I m → I (askS C m (nget C.ds n) v)
  set : ∀ (m : Sm) (n : Nat) (y : Int), n < C.ss.sz → (stpAt C n).k = 1 → I m → I (setS C m (nget C.ds n) (stpAt C n).v y)
  tell : ∀ (m : Sm) (n : Nat), n < C.ss.sz → (stpAt C n).k = 3 → I m → I { seesS m (stpAt C n).h ⟨6, nget C.ds n, 0, 0, 0, 0, nget m.nums (stpAt C n).v⟩ with ss := m.ss ++ [((stpAt C n).h, nget m.nums (stpAt C n).v)] }
theorem asks_run {C : Cx} {I : Sm → Prop} (cl : Cl C I) {n : Nat} (hn : n < C.ss.sz) : ∀ (vs : List Int) (m : Sm), (∀ v ∈ vs, v ∈ stepVars (stpAt C n).k (stpAt C n).v (stpAt C n).x) → I m →
    I (vs.foldl (fun m v => askS C m (nget C.ds n) v) m) ∧ rn (vs.foldl (fun m v => askS C m (nget C.ds n) v) m) = rn m ∧ (vs.foldl (fun m v => askS C m (nget C.ds n) v) m).posts = m.posts ∧ (vs.foldl (fun m v => askS C m (nget C.ds n) v) m).keys = m.keys ∧ (∀ j, cg j (vs.foldl (fun m v => askS C m (nget C.ds n) v) m) ≤ cg j m) ∧ tot (vs.foldl (fun m v => askS C m (nget C.ds n) v) m) ≤ tot m + 2 * vs.length
  | [], m, _, hI => ⟨hI, rfl, rfl, rfl, fun _ => Nat.le_refl _, Nat.le_refl _⟩
  | v :: vs, m, hv, hI => by
    rw [List.foldl_cons]
    obtain ⟨h1, h2, h3, h4, h5, h6⟩ := asks_run cl hn vs (askS C m (nget C.ds n) v) (fun v h => hv v (by simp [h])) (cl.ask m n v hn (hv v (by simp)) hI)
    have e1 := sees_all m (nget C.hs v) ⟨3, nget C.ds n, v, 0, 0, 0, 0⟩
    have e2 := sees_all (seesS m (nget C.hs v) ⟨3, nget C.ds n, v, 0, 0, 0, 0⟩) (nget C.ds n) ⟨4, nget C.hs v, v, 0, 0, 0, nget m.nums v⟩
    refine ⟨h1, h2.trans ?_, h3.trans (e2.2.2.2.1.trans e1.2.2.2.1), h4.trans (e2.2.2.2.2.1.trans e1.2.2.2.2.1), fun j => Nat.le_trans (h5 j) (Nat.le_trans (cg_no j _ _ _ (by simp)) (cg_no j _ _ _ (by simp))), ?_⟩
    · simp only [rn, askS, e2.1, e2.2.1, e2.2.2.1, e1.1, e1.2.1, e1.2.2.1]
    · have z1 := tot_sees m (nget C.hs v) ⟨3, nget C.ds n, v, 0, 0, 0, 0⟩
      have z2 := tot_sees (seesS m (nget C.hs v) ⟨3, nget C.ds n, v, 0, 0, 0, 0⟩) (nget C.ds n) ⟨4, nget C.hs v, v, 0, 0, 0, nget m.nums v⟩
      have z3 : tot (askS C m (nget C.ds n) v) ≤ tot m + 2 := by unfold askS; omega
      rw [List.length_cons]
      omega
theorem posts_eta {m : Sm} (h : m.posts = []) : { m with posts := [] } = m := by
  cases m
  simp only at h
  subst h
  rfl
theorem hold_all (m : Sm) (h k1 k2 : Int) : (holdS m h k1 k2).nums = m.nums ∧ (holdS m h k1 k2).ws = m.ws ∧ (holdS m h k1 k2).ss = m.ss ∧ (holdS m h k1 k2).v0 = m.v0 ∧ (holdS m h k1 k2).v1 = m.v1 ∧ (holdS m h k1 k2).v2 = m.v2 ∧ (holdS m h k1 k2).posts = m.posts := by
  unfold holdS
  split
  · exact ⟨rfl, rfl, rfl, rfl, rfl, rfl, rfl⟩
  · split <;> exact ⟨rfl, rfl, rfl, rfl, rfl, rfl, rfl⟩
theorem cg_congr {m m' : Sm} (h0 : m'.v0 = m.v0) (h1 : m'.v1 = m.v1) (h2 : m'.v2 = m.v2) (j : Nat) : cg j m' = cg j m := by unfold cg; rw [h0, h1, h2]
theorem take_go {C : Cx} (G : Pg C) (hbad : C.bad = 0) {b : Nat} (hb : b < C.ss.sz) {mm : Sm} (hp : mm.posts = []) {host L q1 q2 : Int} (h1 : withinG (SF C.ls (stpAt C b)) L = true) (h2 : withinG L (C.by host) = true) :
    takeS C (goS mm (nget C.ds b) host b L q1 q2) 0 = doS C (seesS (holdS mm (nget C.ds b) q1 q2) (nget C.ds b) ⟨1, host, b, L, q1, q2, 0⟩) (nget C.ds b) b (bothG L (C.by host)) q1 q2 := by
  have hph := (hold_all mm (nget C.ds b) q1 q2).2.2.2.2.2.2.trans hp
  have e : (goS mm (nget C.ds b) host b L q1 q2).posts = [⟨nget C.ds b, ⟨1, host, b, L, q1, q2, 0⟩⟩] := by simp [goS, sendS, hph]
  have e2 : ({ goS mm (nget C.ds b) host b L q1 q2 with posts := [] } : Sm) = holdS mm (nget C.ds b) q1 q2 := posts_eta hph
  unfold takeS
  rw [e]
  simp only [List.getElem?_cons_zero, List.eraseIdx_zero, List.tail_cons]
  rw [e2, if_neg (by rw [hbad]; simp [hasG])]
  unfold getsS
  rw [if_pos rfl]
  simp only
  rw [sets_at hb, if_pos (by
    simp only [inB, Bool.and_eq_true, decide_eq_true_eq, beq_self_eq_true, true_and]
    exact ⟨⟨by omega, by omega⟩, within_bothI h1 (within_trans h1 h2)⟩)]
  rfl
theorem take_back {C : Cx} (hbad : C.bad = 0) {I : Sm → Prop} (cl : Cl C I) {m : Sm} {k1 h : Int} {k2 : Nat} {x : Kx} (hk : k2 < C.ss.sz) (hi : ∃ i : Nat, i < C.ss.sz ∧ h = nget C.ds i) (hk1 : Hd C k1) (hp : m.posts = [⟨k1, ⟨2, h, 0, 0, k1, k2, 0⟩⟩]) (hx : kget m k1 k2 = some x) (hu : x.used = false) (hh : hasG x.held h = true) (hI : I m) :
    ∃ m3, takeS C m 0 = goOnS C m3 k1 k2 x.level x.o1 x.o2 ∧ m3.posts = [] ∧ rn m3 = rn m ∧ I m3 ∧ (∀ a c : Int, ¬(a = k1 ∧ c = k2) → kget m3 a c = kget m a c) ∧ (∀ j, cg j m3 ≤ cg j m) ∧ tot m3 ≤ tot m + 1 := by
  have hI1 : I (seesS { m with posts := [] } k1 ⟨2, h, 0, 0, k1, k2, 0⟩) := by
    obtain ⟨i, hi, rfl⟩ := hi
    exact cl.back _ k1 i k2 hi hk hk1 (cl.quiet m _ rfl rfl rfl rfl rfl rfl hI)
  have e1 := sees_all { m with posts := [] } k1 ⟨2, h, 0, 0, k1, k2, 0⟩
  have hc1 : ∀ j, cg j (seesS { m with posts := [] } k1 ⟨2, h, 0, 0, k1, k2, 0⟩) ≤ cg j m := fun j => cg_no j _ _ _ (by simp)
  have hc2 : tot (seesS { m with posts := [] } k1 ⟨2, h, 0, 0, k1, k2, 0⟩) ≤ tot m + 1 := tot_sees { m with posts := [] } k1 _
  unfold takeS
  rw [hp]
  simp only [List.getElem?_cons_zero, List.eraseIdx_zero, List.tail_cons]
  rw [if_neg (by rw [hbad]; simp [hasG])]
  unfold getsS
  rw [if_neg (by simp)]
  simp only
  generalize seesS { m with posts := [] } k1 ⟨2, h, 0, 0, k1, k2, 0⟩ = m1 at *
  obtain ⟨f1, f2, f3, f4, f5, f6⟩ := e1
  simp only at f1 f2 f3 f4 f5 f6
  have hg : ∀ a c, kget m1 a c = kget m a c := kget_congr f5
  rcases keyI_of (m := m1) (a := k1) (b := k2) with ⟨_, g1⟩ | ⟨i, x', g1, g2, g3⟩
  · rw [hg, hx] at g1; cases g1
  rw [hg, hx] at g3
  cases g3
  rw [g1]
  simp only
  rw [g2]
  simp only
  rw [if_pos ⟨trivial, hu, hh⟩]
  obtain ⟨y1, y2⟩ := kget_in hx
  refine ⟨_, rfl, f4, by simp only [rn]; rw [f1, f2, f3], cl.quiet m1 _ rfl rfl rfl rfl rfl rfl hI1, fun a c hac => ?_, hc1, hc2⟩
  rw [kget_set g1 g2 (by exact y1) (by exact y2), if_neg hac, hg]
structure At (C : Cx) (l : Stps) (b : Nat) : Prop where
  le : b + l.sz ≤ C.ss.sz
  al : ∀ i, i < l.sz → C.ss.all.list[b + i]? = l.all.list[i]?
  nx : ∀ i, i < l.sz → (X.nx C.ss 0)[b + i]? = (X.nx l b)[i]?
theorem at_top (C : Cx) : At C C.ss 0 := ⟨by omega, fun i _ => by rw [Nat.zero_add], fun i _ => by rw [Nat.zero_add]⟩
section
variable {C : Cx} {k v : Int} {x : Vl} {h : Int} {t e r : Stps} {b : Nat} (H : At C (.cons k v x h t e r) b)
include H
theorem At.inT : At C t (b + 1) := by
  have l1 := t.all_list_len
  have m1 := nx_len t (b + 1)
  have hz : (Stps.cons k v x h t e r).sz = 1 + t.sz + e.sz + r.sz := rfl
  refine ⟨by have := H.le; omega, fun i hi => ?_, fun i hi => ?_⟩
  · have := H.al (i + 1) (by omega)
    rw [show b + 1 + i = b + (i + 1) by omega, this]
    simp only [Stps.all, Stps.list, Stps.app_list, List.getElem?_cons_succ]
    rw [List.getElem?_append_left (by omega)]
  · have := H.nx (i + 1) (by omega)
    rw [show b + 1 + i = b + (i + 1) by omega, this]
    simp only [X.nx, List.getElem?_cons_succ]
    rw [List.getElem?_append_left (by omega)]
theorem At.inE : At C e (b + 1 + t.sz) := by
  have l1 := t.all_list_len
  have l2 := e.all_list_len
  have m1 := nx_len t (b + 1)
  have m2 := nx_len e (b + 1 + t.sz)
  have hz : (Stps.cons k v x h t e r).sz = 1 + t.sz + e.sz + r.sz := rfl
  refine ⟨by have := H.le; omega, fun i hi => ?_, fun i hi => ?_⟩
  · have := H.al (t.sz + i + 1) (by omega)
    rw [show b + 1 + t.sz + i = b + (t.sz + i + 1) by omega, this]
    simp only [Stps.all, Stps.list, Stps.app_list, List.getElem?_cons_succ]
    rw [List.getElem?_append_right (by omega), List.getElem?_append_left (by omega)]
    congr 1
    omega
  · have := H.nx (t.sz + i + 1) (by omega)
    rw [show b + 1 + t.sz + i = b + (t.sz + i + 1) by omega, this]
    simp only [X.nx, List.getElem?_cons_succ]
    rw [List.getElem?_append_right (by omega), List.getElem?_append_left (by omega)]
    congr 1
    omega
theorem At.inR : At C r (b + 1 + t.sz + e.sz) := by
  have l1 := t.all_list_len
  have l2 := e.all_list_len
  have m1 := nx_len t (b + 1)
  have m2 := nx_len e (b + 1 + t.sz)
  have hz : (Stps.cons k v x h t e r).sz = 1 + t.sz + e.sz + r.sz := rfl
  refine ⟨by have := H.le; omega, fun i hi => ?_, fun i hi => ?_⟩
  · have := H.al (t.sz + e.sz + i + 1) (by omega)
    rw [show b + 1 + t.sz + e.sz + i = b + (t.sz + e.sz + i + 1) by omega, this]
    simp only [Stps.all, Stps.list, Stps.app_list, List.getElem?_cons_succ]
    rw [List.getElem?_append_right (by omega), List.getElem?_append_right (by omega)]
    congr 1
    omega
  · have := H.nx (t.sz + e.sz + i + 1) (by omega)
    rw [show b + 1 + t.sz + e.sz + i = b + (t.sz + e.sz + i + 1) by omega, this]
    simp only [X.nx, List.getElem?_cons_succ]
    rw [List.getElem?_append_right (by omega), List.getElem?_append_right (by omega)]
    congr 1
    omega
theorem At.lt : b < C.ss.sz := by
  have := H.le
  have hz : (Stps.cons k v x h t e r).sz = 1 + t.sz + e.sz + r.sz := rfl
  omega
theorem At.stp : stpAt C b = ⟨k, v, x, h, t, e⟩ := by
  have hz : (Stps.cons k v x h t e r).sz = 1 + t.sz + e.sz + r.sz := rfl
  have := H.al 0 (by omega)
  rw [Nat.add_zero] at this
  simp only [Stps.all, Stps.list, List.getElem?_cons_zero] at this
  simp [stpAt, this]
theorem At.next : nget (X.nx C.ss 0) b = if r.len = 0 then -1 else ((b + 1 + t.sz + e.sz : Nat) : Int) := by
  have hz : (Stps.cons k v x h t e r).sz = 1 + t.sz + e.sz + r.sz := rfl
  have := H.nx 0 (by omega)
  rw [Nat.add_zero] at this
  simp only [X.nx, List.getElem?_cons_zero] at this
  simp [nget, this]
end
end Go.Proofs.X
end
