/- The canonical machine on which the functions are run, contracts of functions, and what they mean, part 6 of 6. Conditions: none. -/
import Derived.Test.YtakcbgipdknijaaGreatDoorA5
set_option linter.all false
section
namespace Go.Proofs.X
open Go Go.Proofs.XVai Go.Proofs Go.Proofs.XN
set_option linter.unusedVariables false
set_option linter.unusedSimpArgs false
set_option maxHeartbeats 4000000
set_option maxRecDepth 100000

def Kp (m : Sm) (b : Nat) (k1 k2 : Int) : Prop := (k1 = -1 ∧ k2 = -1) ∨ ∃ j : Nat, k2 = j ∧ j < b ∧ ∃ x, kget m k1 k2 = some x ∧ x.used = false ∧ setB x.held = true
def Kh (m m' : Sm) (d k1 k2 : Int) : Prop := ∃ x x', kget m k1 k2 = some x ∧ kget m' k1 k2 = some x' ∧ x'.used = false ∧ setB x'.held = true ∧ hasG x'.held d = true ∧ x'.level = x.level ∧ x'.o1 = x.o1 ∧ x'.o2 = x.o2
def Kd (m m' : Sm) (d k1 k2 : Int) : Prop := (k1 = -1 ∧ k2 = -1) ∨ Kh m m' d k1 k2
def FinS (C : Cx) (m m' : Sm) (k1 k2 : Int) : Prop := (k1 = -1 ∧ k2 = -1 ∧ m'.posts = [] ∧ m'.ended = true) ∨ ∃ d, 0 ≤ k2 ∧ m'.posts = [⟨k1, ⟨2, d, 0, 0, k1, k2, 0⟩⟩] ∧ (∃ i : Nat, i < C.ss.sz ∧ d = nget C.ds i) ∧ Kh m m' d k1 k2
def PassOk (C : Cx) (I : Sm → Prop) (l : Stps) : Prop := ∀ (b : Nat) (m : Sm) (host L k1 k2 : Int), 0 < l.len → At C l b → m.posts = [] → I m → setB L = true → withinG L (C.by host) = true → Hd C host → (∀ s ∈ l.list, withinG (SF C.ls s) L = true) → Kp m b k1 k2 → (∀ a c, (b : Int) ≤ c → kget m a c = none) →
  ∃ t m', t ≤ 3 * l.sz ∧ takeN C t (passS C m host b L k1 k2) = m' ∧ I m' ∧ rn m' = run l (rn m) ∧ FinS C m m' k1 k2 ∧ (∀ a c, ((b + l.sz : Nat) : Int) ≤ c → kget m' a c = none) ∧ (∀ a c, c < (b : Int) → ¬(a = k1 ∧ c = k2) → kget m' a c = kget m a c) ∧ (∀ j, cg j m' ≤ cg j m + (if b ≤ j ∧ j < b + l.sz then 1 else 0)) ∧ tot m' ≤ tot m + 8 * l.sz
def stepR (k v : Int) (x : Vl) (h : Int) (t e : Stps) (r : Rn) : Rn := if k = 1 then ⟨r.nums.set v.toNat (valNum x r.nums), r.ws ++ [(v, valNum x r.nums)], r.ss⟩
  else if k = 3 then ⟨r.nums, r.ws, r.ss ++ [(h, nget r.nums v)]⟩ else if nget r.nums v ≠ 0 then run t r else run e r
theorem runS_cons (k v : Int) (x : Vl) (h : Int) (t e r : Stps) (m : Rn) : run (.cons k v x h t e r) m = run r (stepR k v x h t e m) := rfl
theorem list_all : ∀ (l : Stps), ∀ s ∈ l.list, s ∈ l.all.list
  | .nil, s, h => h
  | .cons k v x h t e r, s, hs => by
    simp only [Stps.list, List.mem_cons] at hs
    simp only [Stps.all, Stps.list, Stps.app_list, List.mem_cons, List.mem_append]
    rcases hs with hs | hs
    · exact .inl hs
    · exact .inr (.inr (.inr (list_all r s hs)))
theorem vars_two (k v : Int) (x : Vl) : (stepVars k v x).length ≤ 2 := by
  unfold stepVars
  split
  · split
    · simp
    · split <;> simp
  · simp
theorem within7 {a : Int} : withinG a 7 = true := within_iff.2 fun h hh => by rcases hasG_lt hh with rfl | rfl | rfl <;> decide
theorem two_ok {d : Int} (h0 : 0 ≤ d) (h2 : d ≤ 2) : setB (2 ^ d.toNat) = true ∧ hasG (2 ^ d.toNat) d = true := by
  have : d = 0 ∨ d = 1 ∨ d = 2 := by omega
  rcases this with rfl | rfl | rfl <;> decide
theorem held_kh {m m' : Sm} {d k1 k2 : Int} (h0 : 0 ≤ d) (h2 : d ≤ 2) (h : kget m' k1 k2 = (kget m k1 k2).map (fun x => { x with held := eitherG x.held (2 ^ d.toNat) })) {x : Kx} (hx : kget m k1 k2 = some x) (hu : x.used = false) (hs : setB x.held = true) : Kh m m' d k1 k2 := by
  obtain ⟨t1, t2⟩ := two_ok h0 h2
  rw [hx] at h
  exact ⟨x, _, hx, h, hu, either_set hs t1, by simp only; rw [either_has hs t1, t2]; simp, rfl, rfl, rfl⟩
theorem Kh.same {m m1 m2 : Sm} {d k1 k2 : Int} (h : Kh m m1 d k1 k2) (e : kget m2 k1 k2 = kget m1 k1 k2) : Kh m m2 d k1 k2 := by
  obtain ⟨x, x', h1, h2, h3⟩ := h
  exact ⟨x, x', h1, by rw [e]; exact h2, h3⟩
theorem branch_run {C : Cx} (G : Pg C) (hbad : C.bad = 0) {I : Sm → Prop} (cl : Cl C I) {l : Stps} (hl : PassOk C I l) {b f e : Nat} {ma : Sm} {d : Nat} {low q1 q2 : Int} (A : At C l f) (hb : b < C.ss.sz) (hbf : b < f) (hfe : f + l.sz ≤ e) (hp : ma.posts = []) (hI : I ma) (hd3 : (d : Int) = nget C.ds b) (hlow : setB low = true) (hlb : withinG low (C.by d) = true)
    (hs : ∀ s ∈ l.list, withinG (SF C.ls s) low = true) (hq : q2 ≤ b) (hqd : ¬(q1 = d ∧ q2 = b)) (hdb : kget ma d b = none) (hn : ∀ a c, (b : Int) < c → kget ma a c = none) :
    ∃ t' m2, t' ≤ 3 * l.sz + 1 ∧ takeN C t' (branchS C ma d b f (decide (0 < l.len)) low q1 q2) = goOnS C m2 d b low q1 q2 ∧ m2.posts = [] ∧ I m2 ∧ rn m2 = run l (rn ma) ∧ kget m2 q1 q2 = kget ma q1 q2 ∧ (∀ a c, (e : Int) ≤ c → kget m2 a c = none) ∧ (∀ a c, c < (b : Int) → kget m2 a c = kget ma a c) ∧
      (∀ j, cg j m2 ≤ cg j ma + (if f ≤ j ∧ j < e then 1 else 0)) ∧ tot m2 ≤ tot ma + 8 * l.sz + 1 := by
  by_cases h0 : 0 < l.len
  · have e1 : branchS C ma d b f (decide (0 < l.len)) low q1 q2 = passS C (makeS ma d b low q1 q2) d f low d b := by
      unfold branchS
      rw [if_neg (by simp [h0]), if_neg (by rw [key_no hdb]; simp)]
    have hk := kget_make ma d b low q1 q2
    obtain ⟨t1, m', g0, g1, g2, g3, g4, g5, g6, g7, g8'⟩ := hl f (makeS ma d b low q1 q2) d low d b h0 A hp (cl.quiet ma _ rfl rfl rfl rfl rfl rfl hI) hlow hlb (.inr ⟨b, hb, hd3⟩) hs
      (.inr ⟨b, rfl, hbf, _, by rw [hk _ _ hdb, if_pos ⟨rfl, rfl⟩], rfl, set0⟩) (fun a c hc => by rw [hk _ _ hdb, if_neg (by omega)]; exact hn a c (by omega))
    rcases g4 with ⟨_, h, _⟩ | ⟨d2, _, h2, h3, x, x', h5, h6, h7, h8, h9, h10, h11, h12⟩
    · omega
    rw [hk _ _ hdb, if_pos ⟨rfl, rfl⟩] at h5
    cases h5
    obtain ⟨m3, y1, y2, y3, y4, y5, y6, y7⟩ := take_back hbad cl hb h3 (.inr ⟨b, hb, hd3⟩) h2 h6 h7 h9 g2
    refine ⟨t1 + 1, m3, by omega, ?_, y2, y4, ?_, ?_, ?_, ?_, ?_, Nat.le_trans y7 (Nat.add_le_add_right g8' 1)⟩
    · rw [e1, takeN_add, g1, takeN, takeN, y1, h10, h11, h12]
    · rw [y3, g3]; rfl
    · rw [y5 _ _ hqd, g6 _ _ (by omega) hqd, hk _ _ hdb, if_neg hqd]
    · intro a c hc
      rw [y5 _ _ (by omega)]
      exact g5 a c (by omega)
    · intro a c hc
      rw [y5 _ _ (by omega), g6 _ _ (by omega) (by omega), hk _ _ hdb, if_neg (by omega)]
    · intro j
      have z1 := y6 j
      have z2 := g7 j
      have z3 : cg j (makeS ma d b low q1 q2) = cg j ma := rfl
      rw [z3] at z2
      split at z2
      · rw [if_pos (by omega)]; omega
      · split <;> omega
  · have : l = .nil := by cases l <;> simp [Stps.len] at h0; rfl
    subst this
    refine ⟨0, ma, Nat.zero_le _, ?_, hp, hI, rfl, rfl, fun a c hc => hn a c (by omega), fun _ _ _ => rfl, fun j => by omega, by omega⟩
    unfold takeN branchS
    rw [if_pos (by simp [Stps.len])]
theorem head_run {C : Cx} (G : Pg C) (hbad : C.bad = 0) {I : Sm → Prop} (cl : Cl C I) {k v : Int} {x : Vl} {h : Int} {t e r : Stps} (ht : PassOk C I t) (he : PassOk C I e) (b : Nat) (mm : Sm) (host L q1 q2 : Int) (H : At C (.cons k v x h t e r) b) (hp : mm.posts = []) (hI : I mm) (hL : setB L = true)
    (h1 : withinG (SF C.ls ⟨k, v, x, h, t, e⟩) L = true) (h2 : withinG L (C.by host) = true) (hh : Hd C host) (hk : (q1 = -1 ∧ q2 = -1) ∨ ∃ j : Nat, q2 = j ∧ j ≤ b ∧ ∃ x, kget mm q1 q2 = some x ∧ x.used = false ∧ setB x.held = true)
    (hn : ∀ a c, (b : Int) < c → kget mm a c = none) (hb0 : ∀ a, ¬(a = q1 ∧ (b : Int) = q2) → kget mm a b = none) (hqd : q2 = b → q1 ≠ nget C.ds b) :
    ∃ t' m2, t' ≤ 3 * t.sz + 3 * e.sz + 2 ∧ takeN C t' (goS mm (nget C.ds b) host b L q1 q2) = goOnS C m2 (nget C.ds b) b (bothG (bothG L (C.by host)) (C.by (nget C.ds b))) q1 q2 ∧ m2.posts = [] ∧ I m2 ∧ rn m2 = stepR k v x h t e (rn mm) ∧ Kd mm m2 (nget C.ds b) q1 q2 ∧
      (∀ a c, ((b + 1 + t.sz + e.sz : Nat) : Int) ≤ c → kget m2 a c = none) ∧ (∀ a c, c < (b : Int) → ¬(a = q1 ∧ c = q2) → kget m2 a c = kget mm a c) ∧ (∀ j, cg j m2 ≤ cg j mm + (if b ≤ j ∧ j < b + 1 + t.sz + e.sz then 1 else 0)) ∧ tot m2 ≤ tot mm + 6 + 8 * t.sz + 8 * e.sz := by
  have hb := H.lt
  have hs := H.stp
  have hst : stepG C.ls C.a C.b C.c C.hs (stpAt C b) _ _ _ = true := (G.st b hb).choose_spec.2
  have hsb : withinG (SF C.ls (stpAt C b)) (C.by (nget C.ds b)) = true := by
    simp only [stepG, Bool.and_eq_true] at hst
    rw [← sets_at hb]
    exact hst.1.1.2
  obtain ⟨d, hd, hd3⟩ := G.pk.dd b hb
  have h1' : withinG (SF C.ls (stpAt C b)) L = true := by rw [hs]; exact h1
  have hT := take_go G hbad hb hp (q1 := q1) (q2 := q2) h1' h2
  have f := hold_all mm (nget C.ds b) q1 q2
  have hI1 : I (seesS (holdS mm (nget C.ds b) q1 q2) (nget C.ds b) ⟨1, host, b, L, q1, q2, 0⟩) := cl.go _ b host L q1 q2 hb hh hL h1' h2 (cl.quiet mm _ f.1 f.2.1 f.2.2.1 f.2.2.2.1 f.2.2.2.2.1 f.2.2.2.2.2.1 hI)
  have e1 := sees_all (holdS mm (nget C.ds b) q1 q2) (nget C.ds b) ⟨1, host, b, L, q1, q2, 0⟩
  have hc1 : ∀ j, cg j (seesS (holdS mm (nget C.ds b) q1 q2) (nget C.ds b) ⟨1, host, b, L, q1, q2, 0⟩) ≤ cg j mm + (if j = b then 1 else 0) := fun j => by
    have z := cg_sees j (holdS mm (nget C.ds b) q1 q2) (nget C.ds b) ⟨1, host, b, L, q1, q2, 0⟩
    rw [cg_congr f.2.2.2.1 f.2.2.2.2.1 f.2.2.2.2.2.1] at z
    simp only [true_and] at z
    refine Nat.le_trans z (Nat.add_le_add_left ?_ _)
    by_cases hj : j = b
    · rw [if_pos (by omega), if_pos hj]; exact Nat.le_refl _
    · rw [if_neg (by omega), if_neg hj]; exact Nat.le_refl _
  have hw1 : tot (seesS (holdS mm (nget C.ds b) q1 q2) (nget C.ds b) ⟨1, host, b, L, q1, q2, 0⟩) ≤ tot mm + 1 := by
    have z := tot_sees (holdS mm (nget C.ds b) q1 q2) (nget C.ds b) ⟨1, host, b, L, q1, q2, 0⟩
    rwa [tot_congr f.2.2.2.1 f.2.2.2.2.1 f.2.2.2.2.2.1] at z
  have hg1 : ∀ a c, kget (seesS (holdS mm (nget C.ds b) q1 q2) (nget C.ds b) ⟨1, host, b, L, q1, q2, 0⟩) a c = if a = q1 ∧ c = q2 then (kget mm q1 q2).map (fun x => { x with held := eitherG x.held (2 ^ (nget C.ds b).toNat) }) else kget mm a c := fun a c =>
    (kget_congr e1.2.2.2.2.1 a c).trans (kget_hold (by omega) a c)
  have hr1 : rn (seesS (holdS mm (nget C.ds b) q1 q2) (nget C.ds b) ⟨1, host, b, L, q1, q2, 0⟩) = rn mm := by simp only [rn, e1.1, e1.2.1, e1.2.2.1, f.1, f.2.1, f.2.2.1]
  have hp1 : (seesS (holdS mm (nget C.ds b) q1 q2) (nget C.ds b) ⟨1, host, b, L, q1, q2, 0⟩).posts = [] := by rw [e1.2.2.2.1, f.2.2.2.2.2.2, hp]
  obtain ⟨a1, a2, a3, a4, a5, a6⟩ := asks_run cl hb _ _ (fun v h => h) hI1
  have hq2 : q2 ≤ b := by rcases hk with ⟨_, h⟩ | ⟨j, h, h', _⟩ <;> omega
  suffices hdo : ∃ t' m2, t' ≤ 3 * t.sz + 3 * e.sz + 1 ∧ takeN C t' (doS C (seesS (holdS mm (nget C.ds b) q1 q2) (nget C.ds b) ⟨1, host, b, L, q1, q2, 0⟩) (nget C.ds b) b (bothG L (C.by host)) q1 q2) = goOnS C m2 (nget C.ds b) b (bothG (bothG L (C.by host)) (C.by (nget C.ds b))) q1 q2 ∧ m2.posts = [] ∧ I m2 ∧ rn m2 = stepR k v x h t e (rn mm) ∧
      kget m2 q1 q2 = (kget mm q1 q2).map (fun x => { x with held := eitherG x.held (2 ^ (nget C.ds b).toNat) }) ∧
      (∀ a c, ((b + 1 + t.sz + e.sz : Nat) : Int) ≤ c → kget m2 a c = none) ∧ (∀ a c, c < (b : Int) → ¬(a = q1 ∧ c = q2) → kget m2 a c = kget mm a c) ∧ (∀ j, cg j m2 ≤ cg j mm + (if b ≤ j ∧ j < b + 1 + t.sz + e.sz then 1 else 0)) ∧ tot m2 ≤ tot mm + 6 + 8 * t.sz + 8 * e.sz by
    obtain ⟨t', m2, y0, y1, y2, y3, y4, y5, y6⟩ := hdo
    refine ⟨t' + 1, m2, by omega, by rw [takeN, hT, y1], y2, y3, y4, ?_, y6⟩
    rcases hk with hk | ⟨j, _, _, x, x1, x2, x3⟩
    · exact .inl hk
    · exact .inr (held_kh (by omega) (by omega) y5 x1 x2 x3)
  have hlow : setB (bothG (bothG L (C.by host)) (C.by (nget C.ds b))) = true := setB_both _ _
  have hle : withinG (SF C.ls (stpAt C b)) (bothG (bothG L (C.by host)) (C.by (nget C.ds b))) = true := within_bothI (within_bothI h1' (within_trans h1' h2)) hsb
  unfold doS
  simp only
  generalize (stepVars (stpAt C b).k (stpAt C b).v (stpAt C b).x).foldl (fun m v => askS C m (nget C.ds b) v) (seesS (holdS mm (nget C.ds b) q1 q2) (nget C.ds b) ⟨1, host, b, L, q1, q2, 0⟩) = ma at *
  have hwA : tot ma ≤ tot mm + 5 := by have := vars_two (stpAt C b).k (stpAt C b).v (stpAt C b).x; omega
  have hgA : ∀ a c, kget ma a c = if a = q1 ∧ c = q2 then (kget mm q1 q2).map (fun x => { x with held := eitherG x.held (2 ^ (nget C.ds b).toNat) }) else kget mm a c := fun a c => (kget_congr a4 a c).trans (hg1 a c)
  have hpA : ma.posts = [] := a3.trans hp1
  have hrA : rn ma = rn mm := a2.trans hr1
  have hcA : ∀ j, cg j ma ≤ cg j mm + (if j = b then 1 else 0) := fun j => Nat.le_trans (a5 j) (hc1 j)
  have hcB : ∀ j, cg j mm + (if j = b then 1 else 0) ≤ cg j mm + (if b ≤ j ∧ j < b + 1 + t.sz + e.sz then 1 else 0) := fun j => by
    split
    · rw [if_pos (by omega)]; exact Nat.le_refl _
    · omega
  have hnA : ∀ a c, (b : Int) < c → kget ma a c = none := fun a c hc => by rw [hgA, if_neg (by omega)]; exact hn a c hc
  have hlA : ∀ a c, c < (b : Int) → ¬(a = q1 ∧ c = q2) → kget ma a c = kget mm a c := fun a c hc hac => by rw [hgA, if_neg hac]
  have hdA : kget ma (nget C.ds b) b = none := by
    have : ¬(nget C.ds b = q1 ∧ (b : Int) = q2) := fun h => hqd h.2.symm h.1.symm
    rw [hgA, if_neg this]
    exact hb0 _ this
  clear hg1 hc1 hr1 hp1 hI1 e1 f hT a2 a3 a4 a5 a6 hw1
  have simple : ∀ m2 : Sm, m2.keys = ma.keys → (kget m2 q1 q2 = (kget mm q1 q2).map (fun x => { x with held := eitherG x.held (2 ^ (nget C.ds b).toNat) }) ∧
      (∀ a c, ((b + 1 + t.sz + e.sz : Nat) : Int) ≤ c → kget m2 a c = none) ∧ (∀ a c, c < (b : Int) → ¬(a = q1 ∧ c = q2) → kget m2 a c = kget mm a c)) := fun m2 h => by
    have hc := kget_congr h
    exact ⟨(hc _ _).trans (by rw [hgA, if_pos ⟨rfl, rfl⟩]), fun a c hac => (hc _ _).trans (hnA a c (by omega)), fun a c h1 h2 => (hc _ _).trans (hlA a c h1 h2)⟩
  have hnum : ma.nums = (rn mm).nums := by rw [← hrA]; rfl
  have hws : ma.ws = (rn mm).ws := by rw [← hrA]; rfl
  have hss : ma.ss = (rn mm).ss := by rw [← hrA]; rfl
  rw [hs] at hle ⊢
  simp only
  split
  · next hk1 =>
    have hI2 := cl.set ma b (valNum x ma.nums) hb (by rw [hs]; exact hk1) a1
    rw [hs] at hI2
    have e1 := sees_all ma (nget C.hs v) ⟨5, nget C.ds b, v, 0, 0, 0, valNum x ma.nums⟩
    obtain ⟨s1, s2, s3⟩ := simple (setS C ma (nget C.ds b) v (valNum x ma.nums)) e1.2.2.2.2.1
    refine ⟨0, _, Nat.zero_le _, rfl, e1.2.2.2.1.trans hpA, hI2, ?_, s1, s2, s3, fun j => Nat.le_trans (Nat.le_trans (cg_no j ma (nget C.hs v) ⟨5, nget C.ds b, v, 0, 0, 0, valNum x ma.nums⟩ (by simp)) (hcA j)) (hcB j), by
      have z : tot (setS C ma (nget C.ds b) v (valNum x ma.nums)) ≤ tot ma + 1 := tot_sees ma (nget C.hs v) ⟨5, nget C.ds b, v, 0, 0, 0, valNum x ma.nums⟩
      omega⟩
    unfold stepR
    rw [if_pos hk1, ← hrA]
    simp only [rn, setS]
    rw [e1.1, e1.2.1, e1.2.2.1]
  · next hk1 =>
    split
    · next hk3 =>
      have hI2 := cl.tell ma b hb (by rw [hs]; exact hk3) a1
      rw [hs] at hI2
      simp only at hI2
      have e1 := sees_all ma h ⟨6, nget C.ds b, 0, 0, 0, 0, nget ma.nums v⟩
      obtain ⟨s1, s2, s3⟩ := simple { seesS ma h ⟨6, nget C.ds b, 0, 0, 0, 0, nget ma.nums v⟩ with ss := ma.ss ++ [(h, nget ma.nums v)] } e1.2.2.2.2.1
      refine ⟨0, { seesS ma h ⟨6, nget C.ds b, 0, 0, 0, 0, nget ma.nums v⟩ with ss := ma.ss ++ [(h, nget ma.nums v)] }, Nat.zero_le _, ?_, e1.2.2.2.1.trans hpA, hI2, ?_, s1, s2, s3, fun j => Nat.le_trans (Nat.le_trans (cg_no j ma h ⟨6, nget C.ds b, 0, 0, 0, 0, nget ma.nums v⟩ (by simp)) (hcA j)) (hcB j), by
        have z := tot_sees ma h ⟨6, nget C.ds b, 0, 0, 0, 0, nget ma.nums v⟩
        have z2 : tot { seesS ma h ⟨6, nget C.ds b, 0, 0, 0, 0, nget ma.nums v⟩ with ss := ma.ss ++ [(h, nget ma.nums v)] } = tot (seesS ma h ⟨6, nget C.ds b, 0, 0, 0, 0, nget ma.nums v⟩) := rfl
        omega⟩
      · have hss2 : (seesS ma h ⟨6, nget C.ds b, 0, 0, 0, 0, nget ma.nums v⟩).ss ++ [(h, nget (seesS ma h ⟨6, nget C.ds b, 0, 0, 0, 0, nget ma.nums v⟩).nums v)] = ma.ss ++ [(h, nget ma.nums v)] := by rw [e1.1, e1.2.2.1]
        rw [takeN, hss2]
      · unfold stepR
        rw [if_neg hk1, if_pos hk3, ← hrA]
        simp only [rn]
        rw [e1.1, e1.2.1]
    · next hk3 =>
      have hqd' : ¬(q1 = nget C.ds b ∧ q2 = b) := fun h => hqd h.2 h.1
      have hsub : ∀ (l : Stps), (∀ s ∈ l.list, s ∈ l.all.list) → (∀ s ∈ l.all.list, withinG (SF C.ls s) (SF C.ls ⟨k, v, x, h, t, e⟩) = true) → ∀ s ∈ l.list, withinG (SF C.ls s) (bothG (bothG L (C.by host)) (C.by (nget C.ds b))) = true := fun l h1 h2 s hs => within_trans (h2 s (h1 s hs)) hle
      have hT0 := setsF_set G.lo t 0 set0
      have hE0 := setsF_set G.lo e 0 set0
      have hK0 : setB (if k = 1 then eitherG 0 (labAt C.ls v).t else 0) = true := by rw [if_neg hk1]; exact set0
      have hSF : SF C.ls ⟨k, v, x, h, t, e⟩ = eitherG (if k = 1 then eitherG 0 (labAt C.ls v).t else 0) (eitherG (setsF C.ls t 0) (setsF C.ls e 0)) := rfl
      have hst' : ∀ s ∈ t.all.list, withinG (SF C.ls s) (SF C.ls ⟨k, v, x, h, t, e⟩) = true := fun s hs => by
        rw [hSF]; exact within_trans (SF_in G.lo t 0 set0 s hs) (within_trans (within_el hT0 hE0) (within_er hK0 (either_set hT0 hE0)))
      have hse' : ∀ s ∈ e.all.list, withinG (SF C.ls s) (SF C.ls ⟨k, v, x, h, t, e⟩) = true := fun s hs => by
        rw [hSF]; exact within_trans (SF_in G.lo e 0 set0 s hs) (within_trans (within_er hT0 hE0) (within_er hK0 (either_set hT0 hE0)))
      rw [hd] at hdA hqd' hlow hle hsub simple ⊢
      split
      · next hv =>
        obtain ⟨t', m2, y0, y1, y2, y3, y4, y5, y6, y7, y8, y9⟩ := branch_run G hbad cl ht (b := b) (f := b + 1) (e := b + 1 + t.sz + e.sz) (q1 := q1) (q2 := q2) H.inT hb (by omega) (by omega) hpA a1 hd.symm hlow within_bothR (hsub t (list_all t) hst') hq2 hqd' hdA hnA
        refine ⟨t', m2, by omega, y1, y2, y3, ?_, by rw [y5, hgA, hd, if_pos ⟨rfl, rfl⟩], y6, fun a c h1 h2 => by rw [y7 a c h1, hlA a c h1 h2], fun j => ?_, by omega⟩
        · rw [y4, hrA]
          unfold stepR
          rw [if_neg hk1, if_neg hk3, if_pos (by rw [← hnum]; exact hv)]
        · have z1 := y8 j
          have z2 := hcA j
          split at z1 <;> split at z2 <;> (first | omega | (rw [if_pos (by omega)]; omega) | (split <;> omega))
      · next hv =>
        obtain ⟨t', m2, y0, y1, y2, y3, y4, y5, y6, y7, y8, y9⟩ := branch_run G hbad cl he (b := b) (f := b + 1 + t.sz) (e := b + 1 + t.sz + e.sz) (q1 := q1) (q2 := q2) H.inE hb (by omega) (by omega) hpA a1 hd.symm hlow within_bothR (hsub e (list_all e) hse') hq2 hqd' hdA hnA
        refine ⟨t', m2, by omega, y1, y2, y3, ?_, by rw [y5, hgA, hd, if_pos ⟨rfl, rfl⟩], y6, fun a c h1 h2 => by rw [y7 a c h1, hlA a c h1 h2], fun j => ?_, by omega⟩
        · rw [y4, hrA]
          unfold stepR
          rw [if_neg hk1, if_neg hk3, if_neg (by rw [← hnum]; exact hv)]
        · have z1 := y8 j
          have z2 := hcA j
          split at z1 <;> split at z2 <;> (first | omega | (rw [if_pos (by omega)]; omega) | (split <;> omega))
theorem bits8 : ∀ a : Nat, a < 8 → (if hasG (a : Int) 0 then (1 : Int) else 0) + (if hasG (a : Int) 1 then 2 else 0) + (if hasG (a : Int) 2 then 4 else 0) = a := by decide +kernel
theorem both_of {a x : Int} (ha : setB a = true) (h : withinG a x = true) : bothG a x = a := by
  have key : ∀ i, (hasG a i && hasG x i) = hasG a i := fun i => by
    have := within_iff.1 h i
    cases e : hasG a i with
    | false => rfl
    | true => rw [this e]; rfl
  have ha' : 0 ≤ a ∧ a < 8 := by simp [setB, inB] at ha; omega
  obtain ⟨n, rfl⟩ := Int.eq_ofNat_of_zero_le ha'.1
  unfold bothG
  rw [key, key, key]
  exact bits8 n (by omega)
def Ks (m m2 : Sm) (k1 k2 : Int) : Prop := (k1 = -1 ∧ k2 = -1) ∨ ∃ x x2, kget m k1 k2 = some x ∧ kget m2 k1 k2 = some x2 ∧ x2.used = false ∧ setB x2.held = true ∧ x2.level = x.level ∧ x2.o1 = x.o1 ∧ x2.o2 = x.o2
theorem Ks.fin {C : Cx} {m m2 m' : Sm} {k1 k2 : Int} (h : Ks m m2 k1 k2) (f : FinS C m2 m' k1 k2) : FinS C m m' k1 k2 := by
  rcases f with f | ⟨d, f1, f2, f3, x, x', g1, g2, g3, g4, g5, g6, g7, g8⟩
  · exact .inl f
  · rcases h with ⟨_, h⟩ | ⟨y, y2, h1, h2, h3, h4, h5, h6, h7⟩
    · omega
    · rw [h2] at g1
      cases g1
      exact .inr ⟨d, f1, f2, f3, y, x', h1, g2, g3, g4, g5, g6.trans h5, g7.trans h6, g8.trans h7⟩
theorem rest_cons {C : Cx} {I : Sm → Prop} {k v : Int} {x : Vl} {h : Int} {t e r : Stps} (hr : PassOk C I r) {b : Nat} (H : At C (.cons k v x h t e r) b) (h0 : 0 < r.len) {m m2 : Sm} {h' lv k1 k2 : Int} (hp : m2.posts = []) (hI : I m2) (hL : setB lv = true) (h2 : withinG lv (C.by h') = true) (hh : Hd C h')
    (hs : ∀ s ∈ r.list, withinG (SF C.ls s) lv = true) (hk2 : k2 < b) (hm1 : k1 = -1 ∧ k2 = -1 ∨ 0 ≤ k2) (hk : Ks m m2 k1 k2) (hn : ∀ a c, ((b + 1 + t.sz + e.sz : Nat) : Int) ≤ c → kget m2 a c = none) (hlo : ∀ a c, c < (b : Int) → ¬(a = k1 ∧ c = k2) → kget m2 a c = kget m a c) (hc : ∀ j, cg j m2 ≤ cg j m + (if b ≤ j ∧ j < b + 1 + t.sz + e.sz then 1 else 0)) (hw : tot m2 ≤ tot m + 8 + 8 * t.sz + 8 * e.sz) :
    ∃ t' m', t' ≤ 3 * r.sz ∧ takeN C t' (goOnS C m2 h' b lv k1 k2) = m' ∧ I m' ∧ rn m' = run r (rn m2) ∧ FinS C m m' k1 k2 ∧ (∀ a c, ((b + (Stps.cons k v x h t e r).sz : Nat) : Int) ≤ c → kget m' a c = none) ∧ (∀ a c, c < (b : Int) → ¬(a = k1 ∧ c = k2) → kget m' a c = kget m a c) ∧
      (∀ j, cg j m' ≤ cg j m + (if b ≤ j ∧ j < b + (Stps.cons k v x h t e r).sz then 1 else 0)) ∧ tot m' ≤ tot m + 8 * (Stps.cons k v x h t e r).sz := by
  have hz : (Stps.cons k v x h t e r).sz = 1 + t.sz + e.sz + r.sz := rfl
  have hnx := H.next
  rw [if_neg (by omega)] at hnx
  have e1 : goOnS C m2 h' b lv k1 k2 = passS C m2 h' ((b + 1 + t.sz + e.sz : Nat) : Int) lv k1 k2 := by
    unfold goOnS
    rw [hnx, if_pos ⟨by omega, by omega⟩]
  have hkp : Kp m2 (b + 1 + t.sz + e.sz) k1 k2 := by
    rcases hk with hk | ⟨y, y2, g1, g2, g3, g4, _⟩
    · exact .inl hk
    · rcases hm1 with hm1 | hm1
      · exact .inl hm1
      · exact .inr ⟨k2.toNat, by omega, by omega, y2, g2, g3, g4⟩
  obtain ⟨t', m', y0, y1, y2, y3, y4, y5, y6, y7, y8⟩ := hr (b + 1 + t.sz + e.sz) m2 h' lv k1 k2 h0 H.inR hp hI hL h2 hh hs hkp hn
  refine ⟨t', m', y0, by rw [e1, y1], y2, y3, hk.fin y4, fun a c hc' => y5 a c (by omega), fun a c h1 h2 => by rw [y6 a c (by omega) h2, hlo a c h1 h2], fun j => ?_, by omega⟩
  have z1 := y7 j
  have z2 := hc j
  split at z1 <;> split at z2 <;> (first | omega | (rw [if_pos (by omega)]; omega) | (split <;> omega))
theorem pass_run {C : Cx} (G : Pg C) (hbad : C.bad = 0) {I : Sm → Prop} (cl : Cl C I) : ∀ l : Stps, PassOk C I l
  | .nil => fun b m host L k1 k2 h0 => by simp [Stps.len] at h0
  | .cons k v x h t e r => by
    have ht := pass_run G hbad cl t
    have he := pass_run G hbad cl e
    have hr := pass_run G hbad cl r
    intro b m host L k1 k2 _ H hp hI hL h2 hh hs hk hn
    have hb := H.lt
    have hz : (Stps.cons k v x h t e r).sz = 1 + t.sz + e.sz + r.sz := rfl
    obtain ⟨d, hd, hd3⟩ := G.pk.dd b hb
    have h1 : withinG (SF C.ls ⟨k, v, x, h, t, e⟩) L = true := hs _ (by simp [Stps.list])
    have hsr : ∀ s ∈ r.list, withinG (SF C.ls s) L = true := fun s h => hs s (by simp [Stps.list, h])
    have hnx := H.next
    have hk2 : k2 < b := by rcases hk with ⟨_, h⟩ | ⟨j, h, h', _⟩ <;> omega
    have hm1 : k1 = -1 ∧ k2 = -1 ∨ 0 ≤ k2 := by
      rcases hk with h | ⟨j, h, h', _⟩
      · exact .inl h
      · exact .inr (by omega)
    by_cases hA : bothG L (C.by (nget C.ds b)) ≠ L ∧ 0 ≤ nget (nx C.ss 0) b
    · have h0 : 0 < r.len := by
        by_cases h0 : r.len = 0
        · rw [if_pos h0] at hnx; omega
        · omega
      have hkn := hn host b (Int.le_refl _)
      have hkm := kget_make m host b L k1 k2
      have e1 : passS C m host b L k1 k2 = goS (makeS m host b L k1 k2) (nget C.ds b) host b L host b := by
        unfold passS
        rw [if_pos hA, if_neg (by rw [key_no hkn]; simp)]
      have hne : host ≠ nget C.ds b := fun h => hA.1 (by rw [← h]; exact both_of hL h2)
      obtain ⟨t1, m2, y0, y1, y2, y3, y4, y5, y6, y7, y8, y9⟩ := head_run G hbad cl ht he b (makeS m host b L k1 k2) host L host b H hp (cl.quiet m _ rfl rfl rfl rfl rfl rfl hI) hL h1 h2 hh
        (.inr ⟨b, rfl, Nat.le_refl _, _, by rw [hkm _ _ hkn, if_pos ⟨rfl, rfl⟩], rfl, set0⟩) (fun a c hc => by rw [hkm _ _ hkn, if_neg (by omega)]; exact hn a c (by omega))
        (fun a ha => by rw [hkm _ _ hkn, if_neg (fun h => ha ⟨h.1, rfl⟩)]; exact hn a b (Int.le_refl _)) (fun _ => hne)
      rcases y5 with ⟨_, h⟩ | ⟨x0, x', g1, g2, g3, g4, g5, g6, g7, g8⟩
      · omega
      rw [hkm _ _ hkn, if_pos ⟨rfl, rfl⟩] at g1
      cases g1
      have e2 : goOnS C m2 (nget C.ds b) b (bothG (bothG L (C.by host)) (C.by (nget C.ds b))) host b = sendS m2 host ⟨2, nget C.ds b, 0, 0, host, b, 0⟩ := by
        unfold goOnS
        rw [if_neg (fun h => h.2 rfl), if_pos (by omega)]
      obtain ⟨m3, w1, w2, w3, w4, w5, w6, w7⟩ := take_back hbad cl (m := sendS m2 host ⟨2, nget C.ds b, 0, 0, host, b, 0⟩) (k1 := host) (k2 := b) (h := nget C.ds b) hb ⟨b, hb, rfl⟩ hh (by simp [sendS, y2]) (show kget m2 host b = some x' from g2) g3 g5 (cl.quiet m2 _ rfl rfl rfl rfl rfl rfl y3)
      rw [g6, g7, g8] at w1
      have w5' : ∀ a c, ¬(a = host ∧ c = (b : Int)) → kget m3 a c = kget m2 a c := w5
      have hkk : kget m3 k1 k2 = kget m k1 k2 := by rw [w5' _ _ (by omega), y7 _ _ hk2 (by omega), hkm _ _ hkn, if_neg (by omega)]
      obtain ⟨t3, m4, v0, v1, v2, v3, v4⟩ := rest_cons (m := m) hr H h0 w2 w4 hL h2 hh hsr hk2 hm1 (by
          rcases hk with hk | ⟨j, _, _, y, z1, z2, z3⟩
          · exact .inl hk
          · exact .inr ⟨y, y, z1, by rw [hkk, z1], z2, z3, rfl, rfl, rfl⟩) (fun a c hc => by rw [w5' _ _ (by omega)]; exact y6 a c hc)
        (fun a c hc hac => by rw [w5' _ _ (by omega), y7 _ _ hc (by omega), hkm _ _ hkn, if_neg (by omega)]) (fun j => Nat.le_trans (w6 j) (y8 j)) (by
          have z1 : tot (sendS m2 host ⟨2, nget C.ds b, 0, 0, host, b, 0⟩) = tot m2 := rfl
          have z2 : tot (makeS m host b L k1 k2) = tot m := rfl
          omega)
      refine ⟨t1 + (1 + t3), m4, by omega, ?_, v2, ?_, v4⟩
      · rw [e1, takeN_add, y1, e2, takeN_add, takeN, takeN, w1, v1]
      · rw [v3, w3, runS_cons]
        congr 1
    · have e1 : passS C m host b L k1 k2 = goS m (nget C.ds b) host b L k1 k2 := by
        unfold passS
        rw [if_neg hA]
      obtain ⟨t1, m2, y0, y1, y2, y3, y4, y5, y6, y7, y8, y9⟩ := head_run G hbad cl ht he b m host L k1 k2 H hp hI hL h1 h2 hh (by
          rcases hk with hk | ⟨j, z1, z2, z3⟩
          · exact .inl hk
          · exact .inr ⟨j, z1, by omega, z3⟩) (fun a c hc => hn a c (by omega)) (fun a ha => hn a b (Int.le_refl _)) (fun h => by omega)
      by_cases h0 : r.len = 0
      · have hr0 : r = .nil := by cases r <;> simp [Stps.len] at h0; rfl
        subst hr0
        rw [if_pos h0] at hnx
        have hz0 : (Stps.nil).sz = 0 := rfl
        have hcl : ∀ j, cg j m2 ≤ cg j m + (if b ≤ j ∧ j < b + (Stps.cons k v x h t e .nil).sz then 1 else 0) := fun j => by
          have := y8 j
          rw [show b + (Stps.cons k v x h t e .nil).sz = b + 1 + t.sz + e.sz by omega]
          exact this
        rcases hm1 with ⟨z1, z2⟩ | hk0
        · refine ⟨t1, { m2 with ended := true }, by omega, ?_, cl.quiet m2 _ rfl rfl rfl rfl rfl rfl y3, ?_, .inl ⟨z1, z2, y2, rfl⟩, fun a c hc => y6 a c (by omega), y7, hcl, by
          have z : tot { m2 with ended := true } = tot m2 := rfl
          have z2 : tot (sendS m2 k1 ⟨2, nget C.ds b, 0, 0, k1, k2, 0⟩) = tot m2 := rfl
          omega⟩
          · rw [e1, y1]
            unfold goOnS
            rw [hnx, if_neg (by omega), if_neg (by omega)]
          · rw [runS_cons, ← y4]; rfl
        · rcases y5 with ⟨_, z2⟩ | hkh
          · omega
          refine ⟨t1, sendS m2 k1 ⟨2, nget C.ds b, 0, 0, k1, k2, 0⟩, by omega, ?_, cl.quiet m2 _ rfl rfl rfl rfl rfl rfl y3, ?_, .inr ⟨nget C.ds b, hk0, by simp [sendS, y2], ⟨b, hb, rfl⟩, hkh.same rfl⟩, fun a c hc => y6 a c (by omega), y7, hcl, by
          have z : tot { m2 with ended := true } = tot m2 := rfl
          have z2 : tot (sendS m2 k1 ⟨2, nget C.ds b, 0, 0, k1, k2, 0⟩) = tot m2 := rfl
          omega⟩
          · rw [e1, y1]
            unfold goOnS
            rw [hnx, if_neg (by omega), if_pos hk0]
          · rw [runS_cons, ← y4]; rfl
      · have hnx0 : 0 ≤ nget (nx C.ss 0) b := by rw [hnx, if_neg h0]; omega
        have hbl : bothG L (C.by (nget C.ds b)) = L := Classical.byContradiction fun h => hA ⟨h, hnx0⟩
        have hld : withinG L (C.by (nget C.ds b)) = true := by rw [← hbl]; exact within_bothR
        have hks : Ks m m2 k1 k2 := by
          rcases y5 with h | ⟨x0, x', g1, g2, g3, g4, g5, g6, g7, g8⟩
          · exact .inl h
          · exact .inr ⟨x0, x', g1, g2, g3, g4, g6, g7, g8⟩
        obtain ⟨t3, m4, v0, v1, v2, v3, v4⟩ := rest_cons (m := m) hr H (by omega) y2 y3 (setB_both _ _) within_bothR (.inr ⟨b, hb, rfl⟩) (fun s hs => within_bothI (within_bothI (hsr s hs) (within_trans (hsr s hs) h2)) (within_trans (hsr s hs) hld)) hk2 hm1 hks y6 y7 y8 (by omega)
        refine ⟨t1 + t3, m4, by omega, ?_, v2, ?_, v4⟩
        · rw [e1, takeN_add, y1, v1]
        · rw [v3, y4, runS_cons]
theorem run_top {C : Cx} (G : Pg C) (hbad : C.bad = 0) {I : Sm → Prop} (cl : Cl C I) {nums : List Int} (hI : I (newS nums)) :
    ∃ m', restS C (startS C (newS nums)) 200 = m' ∧ I m' ∧ rn m' = run C.ss ⟨nums, [], []⟩ ∧ m'.ended = true ∧ (∀ j, cg j m' ≤ 1) ∧ tot m' ≤ 8 * C.ss.sz := by
  rw [rest_takeN]
  have h8 := G.pk.sz
  have hc0 : ∀ j, cg j (newS nums) = 0 := fun j => rfl
  by_cases h0 : C.ss.sz = 0
  · have e0 : startS C (newS nums) = { newS nums with ended := true } := by unfold startS; rw [if_pos h0]
    have hss : C.ss = .nil := by
      cases hs : C.ss with
      | nil => rfl
      | cons k v x h t e r => rw [hs] at h0; simp [Stps.sz] at h0
    refine ⟨{ newS nums with ended := true }, by rw [e0]; exact takeN_nil rfl 200, cl.quiet (newS nums) _ rfl rfl rfl rfl rfl rfl hI, by rw [hss]; rfl, rfl, fun j => by show cg j (newS nums) ≤ 1; rw [hc0]; omega, Nat.zero_le _⟩
  · have hl : 0 < C.ss.len := by
      cases hs : C.ss with
      | nil => rw [hs] at h0; exact absurd rfl h0
      | cons k v x h t e r => simp [Stps.len]
    have e0 : startS C (newS nums) = passS C (newS nums) (-1) ((0 : Nat) : Int) 7 (-1) (-1) := by unfold startS; rw [if_neg h0]; rfl
    obtain ⟨t, m', y0, y1, y2, y3, y4, y5, y6, y7, y8⟩ := pass_run G hbad cl C.ss 0 (newS nums) (-1) 7 (-1) (-1) hl (at_top C) rfl hI (by decide) (within_by0 7) (.inl rfl) (fun s hs => within7) (.inl ⟨rfl, rfl⟩) (fun a c _ => rfl)
    rcases y4 with ⟨_, _, g1, g2⟩ | ⟨d, h, _⟩
    · refine ⟨m', ?_, y2, y3, g2, fun j => ?_, by have : tot (newS nums) = 0 := rfl; omega⟩
      · rw [e0, show 200 = t + (200 - t) by omega, takeN_add, y1, takeN_nil g1]
      · have := y7 j
        rw [hc0] at this
        split at this <;> omega
    · omega
end Go.Proofs.X
end
section
namespace Go.Proofs.X
open Go Go.Proofs.XVai Go.Proofs Go.Proofs.XN
set_option linter.unusedVariables false
set_option linter.unusedSimpArgs false
set_option maxHeartbeats 4000000
set_option maxRecDepth 100000

def Sm.vw (m : Sm) : Nat → List Wd
  | 0 => m.v0
  | 1 => m.v1
  | _ => m.v2
theorem vw_see (m : Sm) (j : Nat) (w : Wd) (h : Nat) (hj : j < 3) (hh : h < 3) : (m.see j w).vw h = if h = j then m.vw h ++ [w] else m.vw h := by
  have h1 : j = 0 ∨ j = 1 ∨ j = 2 := by omega
  have h2 : h = 0 ∨ h = 1 ∨ h = 2 := by omega
  rcases h1 with rfl | rfl | rfl <;> rcases h2 with rfl | rfl | rfl <;> rfl
theorem vw_sees (m : Sm) (h : Int) (w : Wd) (i : Nat) (h2 : h ≤ 2) (hi : i < 3) : (seesS m h w).vw i = if h = i ∧ h ≠ w.frm then m.vw i ++ [w] else m.vw i := by
  unfold seesS
  by_cases hc : 0 ≤ h ∧ h ≠ w.frm
  · rw [if_pos hc, vw_see _ _ _ _ (by omega) hi]
    by_cases hq : h = i
    · rw [if_pos (by omega), if_pos ⟨hq, hc.2⟩]
    · rw [if_neg (by omega), if_neg (fun h => hq h.1)]
  · rw [if_neg hc, if_neg (fun h => hc ⟨by omega, h.2⟩)]
theorem vw_congr {m m' : Sm} (h0 : m'.v0 = m.v0) (h1 : m'.v1 = m.v1) (h2 : m'.v2 = m.v2) (h : Nat) : m'.vw h = m.vw h := by
  unfold Sm.vw
  split <;> assumption
def Each (V : Int → Wd → Prop) (m : Sm) : Prop := ∀ i : Nat, i < 3 → ∀ w ∈ m.vw i, V i w
theorem each_sees {V : Int → Wd → Prop} {m : Sm} {h : Int} {w : Wd} (h2 : h ≤ 2) (hm : Each V m) (hw : 0 ≤ h → h ≠ w.frm → V h w) : Each V (seesS m h w) := fun i hi x hx => by
  rw [vw_sees _ _ _ _ h2 hi] at hx
  split at hx
  · next hc =>
    rcases List.mem_append.1 hx with hx | hx
    · exact hm i hi x hx
    · rw [List.mem_singleton.1 hx, ← hc.1]
      exact hw (by omega) hc.2
  · exact hm i hi x hx
theorem each_congr {V : Int → Wd → Prop} {m m' : Sm} (h0 : m'.v0 = m.v0) (h1 : m'.v1 = m.v1) (h2 : m'.v2 = m.v2) (hm : Each V m) : Each V m' := fun i hi w hw => by
  rw [vw_congr h0 h1 h2] at hw
  exact hm i hi w hw
theorem Hd.le {C : Cx} (P : Pk C) {h : Int} (hh : Hd C h) : h ≤ 2 := (hh.in P).2
theorem Pk.ds {C : Cx} (P : Pk C) {n : Nat} (hn : n < C.ss.sz) : 0 ≤ nget C.ds n ∧ nget C.ds n ≤ 2 := by
  obtain ⟨d, hd, hd3⟩ := P.dd n hn
  omega
theorem each_cl {C : Cx} (P : Pk C) {V : Int → Wd → Prop}
    (go : ∀ (n : Nat) (host L k1 k2 : Int), n < C.ss.sz → Hd C host → setB L = true → withinG (SF C.ls (stpAt C n)) L = true → withinG L (C.by host) = true → nget C.ds n ≠ host → V (nget C.ds n) ⟨1, host, n, L, k1, k2, 0⟩)
    (back : ∀ (a : Int) (i j : Nat), i < C.ss.sz → j < C.ss.sz → Hd C a → 0 ≤ a → a ≠ nget C.ds i → V a ⟨2, nget C.ds i, 0, 0, a, j, 0⟩)
    (ask : ∀ (n : Nat) (v y : Int), n < C.ss.sz → v ∈ stepVars (stpAt C n).k (stpAt C n).v (stpAt C n).x → nget C.hs v ≠ nget C.ds n → (0 ≤ nget C.hs v → V (nget C.hs v) ⟨3, nget C.ds n, v, 0, 0, 0, 0⟩) ∧ V (nget C.ds n) ⟨4, nget C.hs v, v, 0, 0, 0, y⟩)
    (set : ∀ (n : Nat) (y : Int), n < C.ss.sz → (stpAt C n).k = 1 → 0 ≤ nget C.hs (stpAt C n).v → nget C.hs (stpAt C n).v ≠ nget C.ds n → V (nget C.hs (stpAt C n).v) ⟨5, nget C.ds n, (stpAt C n).v, 0, 0, 0, y⟩)
    (tell : ∀ (n : Nat) (y : Int), n < C.ss.sz → (stpAt C n).k = 3 → (stpAt C n).h ≠ nget C.ds n → V (stpAt C n).h ⟨6, nget C.ds n, 0, 0, 0, 0, y⟩) : Cl C (Each V) where
  quiet m m' _ _ _ h0 h1 h2 hm := each_congr h0 h1 h2 hm
  go m n host L k1 k2 hn hh hL h1 h2 hm := each_sees (P.ds hn).2 hm fun _ h => go n host L k1 k2 hn hh hL h1 h2 h
  back m a i j hi hj ha hm := each_sees (ha.le P) hm fun h0 h => back a i j hi hj ha h0 h
  ask m n v hn hv hm := by
    unfold askS
    refine each_sees (P.ds hn).2 (each_sees (P.home v) hm fun h0 h => (ask n v 0 hn hv h).1 h0) fun _ h => (ask n v _ hn hv (Ne.symm h)).2
  set m n y hn hk hm := each_congr (m := seesS m (nget C.hs (stpAt C n).v) ⟨5, nget C.ds n, (stpAt C n).v, 0, 0, 0, y⟩) rfl rfl rfl (each_sees (P.home _) hm fun h0 h => set n y hn hk h0 h)
  tell m n hn hk hm := each_congr (m := seesS m (stpAt C n).h ⟨6, nget C.ds n, 0, 0, 0, 0, nget m.nums (stpAt C n).v⟩) rfl rfl rfl (each_sees (by
      have := (P.stp hn).2.2 hk
      simp only [inB, decide_eq_true_eq] at this
      omega) hm fun _ h => tell n _ hn hk h)
def VK (C : Cx) (h : Int) (w : Wd) : Prop := (w.kind = 1 ∧ ∃ n : Nat, n < C.ss.sz ∧ w.n = n ∧ h = nget C.ds n ∧ setB w.level = true ∧ withinG (SF C.ls (stpAt C n)) w.level = true ∧ withinG (SF C.ls (stpAt C n)) (C.by w.frm) = true ∧ -1 ≤ w.frm ∧ w.frm ≤ 2) ∨
  (w.kind = 2 ∧ w.maker = h ∧ ∃ j : Nat, j < C.ss.sz ∧ w.after = j) ∨ (w.kind = 3 ∧ ∃ v : Nat, v < C.ls.length ∧ w.n = v ∧ nget C.hs v = h) ∨ (w.kind = 4 ∧ ∃ v : Nat, v < C.ls.length ∧ w.n = v ∧ hasG (labAt C.ls v).k h = true) ∨
  (w.kind = 5 ∧ ∃ v : Nat, v < C.ls.length ∧ w.n = v ∧ hasG (labAt C.ls v).k h = true) ∨ w.kind = 6
theorem vars_in {C : Cx} (G : Pg C) {n : Nat} (hn : n < C.ss.sz) {v : Int} (hv : v ∈ stepVars (stpAt C n).k (stpAt C n).v (stpAt C n).x) : hasG (labAt C.ls v).k (nget C.ds n) = true ∧ ∃ j : Nat, v = j ∧ j < C.ls.length := by
  obtain ⟨here, h1, h2⟩ := G.st n hn
  simp only [stepG, Bool.and_eq_true, List.all_eq_true] at h2
  refine ⟨?_, ?_⟩
  · have := h2.1.2 v hv
    simp only [varG, Bool.and_eq_true] at this
    exact this.1
  · exact vOk_nat (stepVars_ok (G.pk.stp hn) v hv)
theorem vk_cl {C : Cx} (G : Pg C) : Cl C (Each (VK C)) := each_cl G.pk
  (fun n host L k1 k2 hn hh hL h1 h2 _ => .inl ⟨rfl, n, hn, rfl, rfl, hL, h1, within_trans h1 h2, hh.in G.pk⟩)
  (fun a i j hi hj ha _ _ => .inr (.inl ⟨rfl, rfl, j, hj, rfl⟩))
  (fun n v y hn hv _ => by
    obtain ⟨h1, j, rfl, hj⟩ := vars_in G hn hv
    exact ⟨fun _ => .inr (.inr (.inl ⟨rfl, j, hj, rfl, rfl⟩)), .inr (.inr (.inr (.inl ⟨rfl, j, hj, rfl, h1⟩)))⟩)
  (fun n y hn hk _ _ => by
    obtain ⟨j, hj, hj2⟩ := vOk_nat (G.pk.stp hn).1
    have := G.hm j hj2
    simp only [homeG, Bool.and_eq_true] at this
    rw [hj]
    exact .inr (.inr (.inr (.inr (.inl ⟨rfl, j, hj2, rfl, this.1⟩)))))
  (fun n y hn hk _ => .inr (.inr (.inr (.inr (.inr rfl)))))
def kc (k : Int) (m : Sm) : Nat := (m.vw 0).countP (fun w => w.kind == k) + ((m.vw 1).countP (fun w => w.kind == k) + (m.vw 2).countP (fun w => w.kind == k))
theorem kc_sees (k : Int) (m : Sm) (h : Int) (w : Wd) (h2 : h ≤ 2) : kc k (seesS m h w) = kc k m + (if (0 ≤ h ∧ h ≠ w.frm) ∧ w.kind = k then 1 else 0) := by
  by_cases hc : 0 ≤ h ∧ h ≠ w.frm
  · have h3 : h = 0 ∨ h = 1 ∨ h = 2 := by omega
    have e0 := vw_sees m h w 0 h2 (by omega)
    have e1 := vw_sees m h w 1 h2 (by omega)
    have e2 := vw_sees m h w 2 h2 (by omega)
    unfold kc
    rw [e0, e1, e2]
    rcases h3 with rfl | rfl | rfl <;> by_cases hk : w.kind = k <;> simp [hc.2, hk, List.countP_append] <;> omega
  · have e : seesS m h w = m := by unfold seesS; rw [if_neg hc]
    rw [e, if_neg (fun h => hc h.1)]
    rfl
theorem kc_congr {m m' : Sm} (k : Int) (h0 : m'.v0 = m.v0) (h1 : m'.v1 = m.v1) (h2 : m'.v2 = m.v2) : kc k m' = kc k m := by
  unfold kc
  rw [vw_congr h0 h1 h2, vw_congr h0 h1 h2, vw_congr h0 h1 h2]
theorem kc_no (k : Int) (m : Sm) (h : Int) (w : Wd) (h2 : h ≤ 2) (hk : w.kind ≠ k) : kc k (seesS m h w) = kc k m := by
  rw [kc_sees _ _ _ _ h2, if_neg (fun h => hk h.2)]
  rfl
theorem tell_le {C : Cx} (P : Pk C) {n : Nat} (hn : n < C.ss.sz) (hk : (stpAt C n).k = 3) : 0 ≤ (stpAt C n).h ∧ (stpAt C n).h ≤ 2 := by
  have := (P.stp hn).2.2 hk
  simpa only [inB, decide_eq_true_eq] using this
theorem ask_cl {C : Cx} (G : Pg C) : Cl C (fun m => kc 3 m = kc 4 m) where
  quiet m m' _ _ _ h0 h1 h2 hm := by rw [kc_congr 3 h0 h1 h2, kc_congr 4 h0 h1 h2, hm]
  go m n host L k1 k2 hn _ _ _ _ hm := by
    have h2 := (G.pk.ds hn).2
    rw [kc_no 3 _ _ _ h2 (by simp), kc_no 4 _ _ _ h2 (by simp), hm]
  back m a i j hi hj ha hm := by
    have h2 := ha.le G.pk
    rw [kc_no 3 _ _ _ h2 (by simp), kc_no 4 _ _ _ h2 (by simp), hm]
  ask m n v hn hv hm := by
    have h2 := (G.pk.ds hn).2
    have h0 := (G.pk.ds hn).1
    have h3 := G.pk.home v
    obtain ⟨_, j, rfl, hj⟩ := vars_in G hn hv
    have h4 : 0 ≤ nget C.hs j := by
      obtain ⟨q, hq, _⟩ := nget_in G.pk.hh hj
      omega
    unfold askS
    rw [kc_no 3 _ _ ⟨4, _, _, _, _, _, _⟩ h2 (by simp), kc_sees 4 _ _ ⟨4, _, _, _, _, _, _⟩ h2, kc_no 4 _ _ ⟨3, _, _, _, _, _, _⟩ h3 (by simp), kc_sees 3 _ _ ⟨3, _, _, _, _, _, _⟩ h3, hm]
    simp only [and_true]
    by_cases he : nget C.hs j = nget C.ds n
    · rw [if_neg (fun h => h.2 he), if_neg (fun h => h.2 he.symm)]
    · rw [if_pos ⟨h4, he⟩, if_pos ⟨h0, fun h => he h.symm⟩]
  set m n y hn hk hm := by
    have h3 := G.pk.home (stpAt C n).v
    show kc 3 (seesS m (nget C.hs (stpAt C n).v) ⟨5, nget C.ds n, (stpAt C n).v, 0, 0, 0, y⟩) = kc 4 (seesS m (nget C.hs (stpAt C n).v) ⟨5, nget C.ds n, (stpAt C n).v, 0, 0, 0, y⟩)
    rw [kc_no 3 _ _ _ h3 (by simp), kc_no 4 _ _ _ h3 (by simp), hm]
  tell m n hn hk hm := by
    have h3 := (tell_le G.pk hn hk).2
    show kc 3 (seesS m (stpAt C n).h ⟨6, nget C.ds n, 0, 0, 0, 0, nget m.nums (stpAt C n).v⟩) = kc 4 (seesS m (stpAt C n).h ⟨6, nget C.ds n, 0, 0, 0, 0, nget m.nums (stpAt C n).v⟩)
    rw [kc_no 3 _ _ _ h3 (by simp), kc_no 4 _ _ _ h3 (by simp), hm]
end Go.Proofs.X
end
section
namespace Go.Proofs.X
open Go Go.Proofs.XVai Go.Proofs Go.Proofs.XN
set_option linter.unusedVariables false
set_option linter.unusedSimpArgs false
set_option maxHeartbeats 4000000
set_option maxRecDepth 100000

def tls (l : List Wd) : List Int := (l.filter fun w => w.kind == 6).map (·.num)
def sts (l : List Wd) : List (Int × Int) := (l.filter fun w => w.kind == 5).map fun w => (w.n, w.num)
theorem tls_app (l : List Wd) (w : Wd) : tls (l ++ [w]) = tls l ++ (if w.kind = 6 then [w.num] else []) := by
  by_cases h : w.kind = 6 <;> simp [tls, List.filter_append, h]
theorem sts_app (l : List Wd) (w : Wd) : sts (l ++ [w]) = sts l ++ (if w.kind = 5 then [(w.n, w.num)] else []) := by
  by_cases h : w.kind = 5 <;> simp [sts, List.filter_append, h]
def Tld (m : Sm) : Prop := ∀ i : Nat, i < 3 → List.Sublist (tls (m.vw i)) (runTo m.ss i)
def Sts (C : Cx) (m : Sm) : Prop := ∀ i : Nat, i < 3 → List.Sublist (sts (m.vw i)) (runSets m.ws (C.hs.map fun h => h == (i : Int)))
theorem tls_no {m : Sm} {h : Int} {w : Wd} (h2 : h ≤ 2) (hk : w.kind ≠ 6) {i : Nat} (hi : i < 3) : tls ((seesS m h w).vw i) = tls (m.vw i) := by
  rw [vw_sees _ _ _ _ h2 hi]
  split
  · rw [tls_app, if_neg hk]; simp
  · rfl
theorem sts_no {m : Sm} {h : Int} {w : Wd} (h2 : h ≤ 2) (hk : w.kind ≠ 5) {i : Nat} (hi : i < 3) : sts ((seesS m h w).vw i) = sts (m.vw i) := by
  rw [vw_sees _ _ _ _ h2 hi]
  split
  · rw [sts_app, if_neg hk]; simp
  · rfl
theorem tld_no {m : Sm} {h : Int} {w : Wd} (h2 : h ≤ 2) (hk : w.kind ≠ 6) (hm : Tld m) : Tld (seesS m h w) := fun i hi => by
  rw [tls_no h2 hk hi, (sees_all m h w).2.2.1]
  exact hm i hi
theorem sts_no' {C : Cx} {m : Sm} {h : Int} {w : Wd} (h2 : h ≤ 2) (hk : w.kind ≠ 5) (hm : Sts C m) : Sts C (seesS m h w) := fun i hi => by
  rw [sts_no h2 hk hi, (sees_all m h w).2.1]
  exact hm i hi
theorem runToA (ss : List (Int × Int)) (x : Int × Int) (i : Int) : runTo (ss ++ [x]) i = runTo ss i ++ (if x.1 = i then [x.2] else []) := by
  by_cases h : x.1 = i <;> simp [runTo, List.filter_append, h]
theorem tld_cl {C : Cx} (G : Pg C) : Cl C Tld where
  quiet m m' _ _ hs h0 h1 h2 hm := fun i hi => by
    rw [vw_congr h0 h1 h2, hs]
    exact hm i hi
  go m n host L k1 k2 hn _ _ _ _ hm := tld_no (G.pk.ds hn).2 (by simp) hm
  back m a i j hi hj ha hm := tld_no (ha.le G.pk) (by simp) hm
  ask m n v hn hv hm := tld_no (G.pk.ds hn).2 (by simp) (tld_no (G.pk.home v) (by simp) hm)
  set m n y hn hk hm := fun i hi => tld_no (w := ⟨5, nget C.ds n, (stpAt C n).v, 0, 0, 0, y⟩) (G.pk.home (stpAt C n).v) (by simp) hm i hi
  tell m n hn hk hm := fun i hi => by
    have h3 := tell_le G.pk hn hk
    show List.Sublist (tls ((seesS m (stpAt C n).h ⟨6, nget C.ds n, 0, 0, 0, 0, nget m.nums (stpAt C n).v⟩).vw i)) (runTo (m.ss ++ [((stpAt C n).h, nget m.nums (stpAt C n).v)]) i)
    rw [vw_sees _ _ _ _ h3.2 hi, runToA]
    split
    · next hc =>
      rw [tls_app, if_pos rfl, if_pos hc.1]
      exact (hm i hi).append (List.Sublist.refl _)
    · exact (hm i hi).trans (List.sublist_append_left _ _)
theorem runSetsA (ws : List (Int × Int)) (x : Int × Int) (vs : List Bool) : runSets (ws ++ [x]) vs = runSets ws vs ++ (if (inB x.1 0 (vs.length - 1) && vs.getD x.1.toNat false) = true then [x] else []) := by
  by_cases h : (inB x.1 0 (vs.length - 1) && vs.getD x.1.toNat false) = true
  · rw [if_pos h]; simp only [runSets, List.filter_append, List.filter_cons, List.filter_nil]; rw [if_pos h]
  · rw [if_neg h]; simp only [runSets, List.filter_append, List.filter_cons, List.filter_nil]; rw [if_neg h]
theorem sts_cl {C : Cx} (G : Pg C) : Cl C (Sts C) where
  quiet m m' _ hw _ h0 h1 h2 hm := fun i hi => by
    rw [vw_congr h0 h1 h2, hw]
    exact hm i hi
  go m n host L k1 k2 hn _ _ _ _ hm := sts_no' (G.pk.ds hn).2 (by simp) hm
  back m a i j hi hj ha hm := sts_no' (ha.le G.pk) (by simp) hm
  ask m n v hn hv hm := sts_no' (G.pk.ds hn).2 (by simp) (sts_no' (G.pk.home v) (by simp) hm)
  set m n y hn hk hm := fun i hi => by
    have h3 := G.pk.home (stpAt C n).v
    obtain ⟨j, hj, hj2⟩ := vOk_nat (G.pk.stp hn).1
    have e1 := (sees_all m (nget C.hs (stpAt C n).v) ⟨5, nget C.ds n, (stpAt C n).v, 0, 0, 0, y⟩).2.1
    show List.Sublist (sts ((seesS m (nget C.hs (stpAt C n).v) ⟨5, nget C.ds n, (stpAt C n).v, 0, 0, 0, y⟩).vw i)) (runSets ((seesS m (nget C.hs (stpAt C n).v) ⟨5, nget C.ds n, (stpAt C n).v, 0, 0, 0, y⟩).ws ++ [((stpAt C n).v, y)]) (C.hs.map fun h => h == (i : Int)))
    rw [e1, vw_sees _ _ _ _ h3 hi, runSetsA]
    split
    · next hc =>
      have hhl := G.pk.hl
      have hjl : j < C.hs.length := by omega
      have hc1 := hc.1
      rw [hj] at hc1
      have hg : C.hs[j] = (i : Int) := by simpa [nget, hjl] using hc1
      rw [sts_app, if_pos rfl, if_pos (by
        simp only [hj]
        simp [inB, hjl, hg]
        omega)]
      exact (hm i hi).append (List.Sublist.refl _)
    · exact (hm i hi).trans (List.sublist_append_left _ _)
  tell m n hn hk hm := fun i hi => sts_no' (w := ⟨6, nget C.ds n, 0, 0, 0, 0, nget m.nums (stpAt C n).v⟩) (tell_le G.pk hn hk).2 (by simp) hm i hi
theorem one_cl {C : Cx} (G : Pg C) (hd : ∀ n : Nat, n < C.ss.sz → nget C.ds n = 0) (hh : ∀ v : Nat, v < C.ls.length → nget C.hs v = 0) : Cl C (Each fun h w => (h = 0 ∧ w.kind = 1) ∨ w.kind = 6) := each_cl G.pk
  (fun n host L k1 k2 hn _ _ _ _ _ => .inl ⟨hd n hn, rfl⟩)
  (fun a i j hi hj ha h0 hne => by
    rw [hd i hi] at hne
    rcases ha with rfl | ⟨q, hq, rfl⟩
    · omega
    · exact absurd (hd q hq) hne)
  (fun n v y hn hv hne => by
    obtain ⟨_, j, rfl, hj⟩ := vars_in G hn hv
    rw [hh j hj, hd n hn] at hne
    exact absurd rfl hne)
  (fun n y hn hk _ hne => by
    obtain ⟨j, hj, hj2⟩ := vOk_nat (G.pk.stp hn).1
    rw [hj, hh j hj2, hd n hn] at hne
    exact absurd rfl hne)
  (fun n y hn hk _ => .inr rfl)
end Go.Proofs.X
end
section
namespace Go.Proofs.X
open Go Go.Proofs.XVai Go.Proofs Go.Proofs.XN
set_option linter.unusedVariables false
set_option linter.unusedSimpArgs false
set_option maxHeartbeats 4000000
set_option maxRecDepth 100000

def Pre (m m' : Sm) : Prop := (∃ l, m'.v0 = m.v0 ++ l) ∧ (∃ l, m'.v1 = m.v1 ++ l) ∧ ∃ l, m'.v2 = m.v2 ++ l
theorem Pre.same {m m' : Sm} (h0 : m'.v0 = m.v0) (h1 : m'.v1 = m.v1) (h2 : m'.v2 = m.v2) : Pre m m' := ⟨⟨[], by simp [h0]⟩, ⟨[], by simp [h1]⟩, ⟨[], by simp [h2]⟩⟩
theorem Pre.trans {a b c : Sm} (h : Pre a b) (k : Pre b c) : Pre a c := by
  obtain ⟨⟨x0, h0⟩, ⟨x1, h1⟩, ⟨x2, h2⟩⟩ := h
  obtain ⟨⟨y0, k0⟩, ⟨y1, k1⟩, ⟨y2, k2⟩⟩ := k
  exact ⟨⟨x0 ++ y0, by rw [k0, h0, List.append_assoc]⟩, ⟨x1 ++ y1, by rw [k1, h1, List.append_assoc]⟩, ⟨x2 ++ y2, by rw [k2, h2, List.append_assoc]⟩⟩
theorem Pre.vw {m m' : Sm} (h : Pre m m') (i : Nat) : ∃ l, m'.vw i = m.vw i ++ l := by
  unfold Sm.vw
  split
  · exact h.1
  · exact h.2.1
  · exact h.2.2
structure Came (C : Cx) (nums : List Int) (m : Sm) : Prop where
  run : rn m = X.run C.ss ⟨nums, [], []⟩
  ended : m.ended = true
  each : Each (VK C) m
  asks : kc 3 m = kc 4 m
  tld : Tld m
  sts : Sts C m
  once : ∀ j, cg j m ≤ 1
  tot : X.tot m ≤ 8 * C.ss.sz
theorem came {C : Cx} (G : Pg C) (hbad : C.bad = 0) (nums : List Int) : Came C nums (restS C (startS C (newS nums)) 200) := by
  have hv : ∀ i, (newS nums).vw i = [] := fun i => by unfold Sm.vw; split <;> rfl
  have e0 : ∀ V, Each V (newS nums) := fun V i hi w hw => by rw [hv] at hw; cases hw
  obtain ⟨m1, a1, a2, a3, a4, a5, a6⟩ := run_top G hbad (vk_cl G) (nums := nums) (e0 _)
  obtain ⟨m2, b1, b2, _⟩ := run_top G hbad (ask_cl G) (nums := nums) rfl
  obtain ⟨m3, c1, c2, _⟩ := run_top G hbad (tld_cl G) (nums := nums) (fun i hi => by rw [hv]; exact List.nil_sublist _)
  obtain ⟨m4, d1, d2, _⟩ := run_top G hbad (sts_cl G) (nums := nums) (fun i hi => by rw [hv]; exact List.nil_sublist _)
  rw [a1] at b1 c1 d1
  subst b1; subst c1; subst d1
  rw [a1]
  exact ⟨a3, a4, a2, b2, c2, d2, a5, a6⟩
theorem part_came {ls : List Lab} {ss : Stps} {ts hs ds nums : List Int} {m : Sm} (h : partRun ls ss ts hs ds nums = some m) : ∃ a b c, ts = [a, b, c] ∧ Pg ⟨ls, ss, a, b, c, hs, ds, 0⟩ ∧ planOk ls ss ts hs ds = true ∧ numsOk ls ss nums = true ∧
    Came ⟨ls, ss, a, b, c, hs, ds, 0⟩ nums m ∧ m = restS ⟨ls, ss, a, b, c, hs, ds, 0⟩ (startS ⟨ls, ss, a, b, c, hs, ds, 0⟩ (newS nums)) 200 := by
  unfold partRun at h
  split at h
  · next hc =>
    simp only [Bool.and_eq_true] at hc
    split at h
    · next a b c =>
      simp only [Option.some.injEq] at h
      have G := pg_of 0 hc.1
      exact ⟨a, b, c, rfl, G, hc.1, hc.2, by rw [← h]; exact came G rfl nums, h.symm⟩
    · cases h
  · cases h
end Go.Proofs.X
end
section
namespace Go.Proofs.X
open Go Go.Proofs.XVai Go.Proofs Go.Proofs.XN
set_option linter.unusedVariables false
set_option linter.unusedSimpArgs false
set_option maxHeartbeats 4000000
set_option maxRecDepth 100000

theorem nget_rep (k : Nat) (i : Int) : nget (List.replicate k 0) i = 0 := by
  unfold nget
  rw [List.getD_eq_getElem?_getD, List.getElem?_replicate]
  split <;> rfl
theorem one_facts {ls : List Lab} {ss : Stps} {nums : List Int} {n : Nat} {m : Sm} (h : partRun ls ss [7, 7, 7] (List.replicate ls.length 0) (List.replicate n 0) nums = some m) : (∀ w ∈ m.v1, w.kind = 6) ∧ (∀ w ∈ m.v2, w.kind = 6) ∧ rn m = runOf ls ss nums ∧ m.ended = true := by
  obtain ⟨a, b, c, e, G, h1, h2, hC, hm⟩ := part_came h
  cases e
  have hv : ∀ i, (newS nums).vw i = [] := fun i => by unfold Sm.vw; split <;> rfl
  obtain ⟨m', a1, a2, _⟩ := run_top G rfl (one_cl G (fun n _ => nget_rep _ _) (fun v _ => nget_rep _ _)) (nums := nums) (fun i hi w hw => by rw [hv] at hw; cases hw)
  rw [← hm] at a1
  subst a1
  refine ⟨fun w hw => ?_, fun w hw => ?_, ?_, hC.ended⟩
  · rcases a2 1 (by omega) w hw with ⟨h, _⟩ | h
    · exact absurd h (by decide)
    · exact h
  · rcases a2 2 (by omega) w hw with ⟨h, _⟩ | h
    · exact absurd h (by decide)
    · exact h
  · rw [hC.run]
    unfold runOf
    rw [if_pos h2]
end Go.Proofs.X
end
section
namespace Go.Proofs.X
open Go Go.Proofs.XVai Go.Proofs Go.Proofs.XN
set_option linter.unusedVariables false
set_option linter.unusedSimpArgs false
set_option maxHeartbeats 4000000
set_option maxRecDepth 100000

theorem k_DrawNumsOk (bs : List UInt8) (S : St) : EvR Y spec_DrawNumsOk [BY bs] S (fun v S' => S' = S ∧ ∃ ls ss ns, v = .tup [PR ls ss, L ns] ∧ ss.sz ≤ 100 ∧ ls.length ≤ 100 ∧ ns.length ≤ 101) := by
  refine E_startR (h := ?_)
  repeat' (first | refine c0 ?_ | refine c7 ?_ | refine d2 ?_ | refine d4 ?_ | refine b0 (hk := ?_) | refine b3 (hk := ?_) | refine a5 (hk := ?_))
  refine kX (he := k_spec_l6Open bs _) (hk := ?_)
  rintro v S2 ⟨J, k, hJ, rfl, hk1, hk2⟩
  have hk3 : S.length + 2 ≤ k := by simpa using hk1
  have f0 : S2[S.length + 0]? = some (.cells false [[.nils, .nils]]) := by
    rw [hJ]; exact get_old (get_own rfl)
  have hold : ∀ j, j < S.length → S2[j]? = S[j]? := fun j hj => by rw [hJ, List.getElem?_append_left (by simp; omega), List.getElem?_append_left hj]
  have hb : (bs.take 2000).length ≤ 2000 := by simp; omega
  have hkl : k < S2.length := (List.getElem?_eq_some_iff.1 hk2).1
  have hl2 : S.length ≤ S2.length := by omega
  generalize bs.take 2000 = by' at *
  clear hk1 hJ
  rw [← List.append_nil S2]
  repeat' (first | refine c0 ?_ | refine c7 ?_ | refine d2 ?_ | refine d4 ?_ | refine a5 (hk := ?_))
  refine kE (hd := d_l71Any) (h0 := hk2) (hl := hb) (hp := by omega) (hk := ?_)
  rintro v q hq1 hq2 ⟨ls, ss, rfl, hss, hl4⟩
  have f1 := setN (o := RD by' q) (show S.length + 0 ≠ k by omega) f0
  repeat' (first | refine c0 ?_ | refine c7 ?_ | refine d4 ?_ | refine d3' (h := ?_) | refine b0 (hk := ?_) | refine b7 (hk := ?_) | refine e5' (hk := ?_) | refine f5' (hk := ?_))
  refine kE' (hd := d_l71Nums ls ss (by omega)) (h0 := setE hk2) (hl := hb) (hp := by omega) (hn := by repeat' (first | exact nc0 | refine nc1 (by first | omega | (simp only [List.length_set]; omega)) ?_ | refine nc2 (by decide +kernel) ?_)) (hk := ?_)
  rintro v q2 hq3 hq4 ⟨ns, rfl, hn⟩
  repeat' (first | refine c0 ?_ | refine c9 ?_ | refine d4' ?_ | refine e5' (hk := ?_) | refine b7' (hk := ?_))
  refine ⟨_, _, rRunV (h3 := get_old (setE (setN (show S.length + 0 ≠ k by omega) f1))) (hz := fzPR ls ss) (hl := by simp; omega) (ho := fun j hj => ?_), rfl, ls, ss, ns, rfl, hss, hl4, by omega⟩
  rw [List.getElem?_append_left (by simp; omega), List.getElem?_set_ne (by omega), List.getElem?_set_ne (by omega), List.getElem?_set_ne (by omega), hold j hj]
theorem k_DrawRunOf (bs : List UInt8) (S : St) : EvR Y spec_DrawRunOf [BY bs] S (fun v S' => S' = S ∧ ∃ ls ss ns, v = .tup [PR ls ss, L ns] ∧ ss.sz ≤ 100 ∧ ls.length ≤ 100 ∧ ns.length ≤ 101) := by
  refine E_startR (h := ?_)
  repeat' (first | refine c0 ?_ | refine c7 ?_ | refine d2 ?_ | refine d4 ?_ | refine b0 (hk := ?_) | refine b3 (hk := ?_) | refine a5 (hk := ?_))
  refine kX (he := k_DrawNumsOk bs _) (hk := ?_)
  rintro v S2 ⟨rfl, ls, ss, ns, rfl, hss, hl, hn⟩
  repeat' (first | refine c0 ?_ | refine c9 ?_ | refine d4 ?_ | refine a5 (hk := ?_) | refine b7 (hk := ?_))
  exact ⟨_, _, rRunV (h3 := get_own rfl) (hz := fzPR ls ss) (hl := by simp) (ho := fun j hj => by rw [List.getElem?_append_left hj]), rfl, ls, ss, ns, rfl, hss, hl, hn⟩
theorem k_impl_ProgSize (ls : List Lab) (ss : Stps) (S : St) (hs : ss.sz ≤ 1048576) (hl : ls.length ≤ 1048576) : Ev Y impl_ProgSize [PR ls ss] S (I (progSize ls ss)) S := by
  refine E_start (h := ?_)
  repeat' (first | refine c0 ?_ | refine c1 ?_ | refine c7 ?_ | refine d2 ?_ | refine c9 ?_ | refine d0 ?_ | refine d4 ?_ | refine k0 (he := (by first | exact k_impl_ProgOk _ _ _ hs hl | exact k_impl_size' _ _ hs)) (hk := ?_) | refine b1 (hk := ?_) | refine a5 (hk := ?_) | refine b5 (hk := ?_) | (with_reducible intro hc) | refine d9 (ht := ?_) (hf := ?_))
  all_goals (refine rI (hv := ?_); simp_all [progSize])
theorem law_PartOne (bs : List UInt8) (S : St) : Ev Y laws_FnPartOne [BY bs] S (.bool true) S := by
  by_cases hlen : bs.length > 1048576
  · have hc0 : ((bs.map brow).length : Int) > 1048576 := by simp; omega
    refine E_start (h := ?_)
    repeat' (first | refine c0 ?_ | refine c1 ?_ | refine c7 ?_ | refine d2 ?_ | refine c9 ?_ | refine d4 ?_ | refine a5 (hk := ?_) | refine u7 (hk := ?_))
    exact rB (hv := rfl)
  · have hc0 : ¬ (((bs.map brow).length : Int) > 1048576) := by simp; omega
    refine E_start (h := ?_)
    repeat' (first | refine c0 ?_ | refine c7 ?_ | refine d2 ?_ | refine d0 ?_ | refine d4 ?_ | refine a5 (hk := ?_) | refine u8 (hk := ?_))
    refine kX (he := k_DrawRunOf bs _) (hk := ?_)
    rintro v S2 ⟨rfl, ls, ss, ns, rfl, hss, hl, hn⟩
    cases hok : numsOk ls ss ns with
    | false =>
      have hr : runOf ls ss ns = ⟨[], [], []⟩ := by simp [runOf, hok]
      have e1 : ∀ S, Ev Y spec_RunOf [PR ls ss, L ns] S (.tup [RN [] [] [], .bool false]) S := fun S => by
        have := k_spec_RunOf ls ss ns S (by omega) (by omega) (by omega)
        rw [RUNR, hok, hr] at this; exact this
      have e2 : ∀ S, Ev Y impl_RunOf [PR ls ss, L ns] S (.tup [RN [] [] [], .bool false]) S := fun S => by
        have := k_impl_RunOf ls ss ns S (by omega) (by omega) (by omega)
        rw [RUNR, hok, hr] at this; exact this
      repeat' (first | refine c0 ?_ | refine c1 ?_ | refine c7 ?_ | refine d2 ?_ | refine c9 ?_ | refine d4 ?_ | refine k0 (he := (by first | exact e1 _ | exact e2 _ | exact k_laws_lcRun [] [] [] _ (by simp) (by simp) (by simp))) (hk := ?_) | refine b0 (hk := ?_) | refine a1 (hk := ?_) | refine a2 (hk := ?_) | refine a5 (hk := ?_) | refine b5 (hk := ?_) | refine b7 (hk := ?_) | refine d6 (ht := ?_))
      exact rB (hv := rfl)
    | true =>
      obtain ⟨h1, h2, h3⟩ := numsOk_in hok
      obtain ⟨p1, p2, p3, p4⟩ := progOk_in h1
      have hri := runs_in ss 3 ⟨ns, [], []⟩ (by rw [h2]; exact p3) h3
      have hrun : runOf ls ss ns = run ss ⟨ns, [], []⟩ := by simp [runOf, hok]
      rw [← hrun] at hri
      obtain ⟨⟨xn, xw, xs⟩, hR⟩ : ∃ r, runOf ls ss ns = r := ⟨_, rfl⟩
      rw [hR] at hri
      simp only [List.length_nil, Nat.zero_add] at hri
      obtain ⟨r1, _, r2, r3⟩ := hri
      have e1 : ∀ S, Ev Y spec_RunOf [PR ls ss, L ns] S (.tup [RN xn xw xs, .bool true]) S := fun S => by
        have := k_spec_RunOf ls ss ns S (by omega) (by omega) (by omega)
        rw [RUNR, hok, hR] at this; exact this
      have e2 : ∀ S, Ev Y impl_RunOf [PR ls ss, L ns] S (.tup [RN xn xw xs, .bool true]) S := fun S => by
        have := k_impl_RunOf ls ss ns S (by omega) (by omega) (by omega)
        rw [RUNR, hok, hR] at this; exact this
      have e3 := fun S => k_laws_lcRun xn xw xs S (by omega) (by omega) (by omega)
      have e4 : ∀ S, Ev Y impl_ProgSize [PR ls ss] S (I ss.sz) S := fun S => by
        have := k_impl_ProgSize ls ss S (by omega) (by omega)
        rwa [show progSize ls ss = (ss.sz : Int) by unfold progSize; rw [if_pos h1]] at this
      repeat' (first | refine c0 ?_ | refine c7 ?_ | refine d2 ?_ | refine d0 ?_ | refine d4 ?_ | refine d3' (h := ?_) | refine k0 (he := (by first | exact e1 _ | exact e2 _ | exact e3 _ | exact e4 _)) (hk := ?_) | refine b0 (hk := ?_) | refine a1 (hk := ?_) | refine a2 (hk := ?_) | refine a5 (hk := ?_) | refine b5 (hk := ?_) | refine b7 (hk := ?_) | refine b4' (hk := ?_) | refine e5' (hk := ?_) | refine f5' (hk := ?_) | refine d7 (hf := ?_))
      refine g0D (c := ls.length) (hz := by simp) (hz' := by simp) (hc := by simp only [lim]; omega) (hk := ?_)
      repeat' (first | refine k0' (he := (by first | exact e4 _)) (hk := ?_) | refine f5' (hk := ?_))
      refine g0D (c := ss.sz) (hz := rfl) (hz' := rfl) (hc := by simp only [lim]; omega) (hk := ?_)
      repeat' (first | refine c0 ?_ | refine c7 ?_ | refine d2 ?_ | refine d4' ?_ | refine a5 (hk := ?_) | refine b5 (hk := ?_) | refine b0' (hk := ?_) | refine b7b (hk := ?_) | refine b7' (hk := ?_))
      have z1 : (List.replicate ls.length (0 : Int)).map irow = List.replicate ls.length [HV.int .i64 0] := by simp
      have z2 : (List.replicate ss.sz (0 : Int)).map irow = List.replicate ss.sz [HV.int .i64 0] := by simp
      obtain ⟨pv, hpv⟩ : ∃ pv, partRun ls ss [7, 7, 7] (List.replicate ls.length 0) (List.replicate ss.sz 0) ns = pv := ⟨_, rfl⟩
      have eP : ∀ S, Ev Y impl_PartRun [PR ls ss, .agg [L [7, 7, 7], .lst (List.replicate ls.length [HV.int .i64 0]), .lst (List.replicate ss.sz [HV.int .i64 0])], L ns] S (partV pv) S := fun S => by
        rw [← z1, ← z2, ← hpv]
        exact k_impl_PartRun ls ss [7, 7, 7] (List.replicate ls.length 0) (List.replicate ss.sz 0) ns S (by omega) (by omega) (by simp) (by simp; omega) (by simp; omega) (by omega)
      have l1 : (List.replicate ls.length [HV.int .i64 0]).length = ls.length := by simp
      have l2 : (List.replicate ss.sz [HV.int .i64 0]).length = ss.sz := by simp
      have l3 : (List.replicate ls.length [HV.int .i64 0]).all (fun r => r.all pureC) = true := by simp [pureC]
      have l4 : (List.replicate ss.sz [HV.int .i64 0]).all (fun r => r.all pureC) = true := by simp [pureC]
      refine kZ (ha := fm2 (fzPR ls ss) (fm2 (fzV_agg2 (cs := [L [7, 7, 7], .sl (S.length + _) ls.length, .sl (S.length + _) ss.sz]) rfl (fm2 (frzC_pure rfl) (fm2 (fz_sl rfl (Nat.zero_le _) (get_own rfl) l1 l3) (fm2 (fz_sl rfl (Nat.zero_le _) (get_own rfl) l2 l4) fm0)))) (fm2 rfl fm0))) (he := eP _) (hk := ?_)
      cases pv with
      | none =>
        have hpo : planOk ls ss [7, 7, 7] (List.replicate ls.length 0) (List.replicate ss.sz 0) = false := by
          cases hq : planOk ls ss [7, 7, 7] (List.replicate ls.length 0) (List.replicate ss.sz 0) with
          | false => rfl
          | true => simp [partRun, hq, hok] at hpv
        have eO : ∀ S, Ev Y impl_PlanOk [PR ls ss, .agg [L [7, 7, 7], .lst (List.replicate ls.length [HV.int .i64 0]), .lst (List.replicate ss.sz [HV.int .i64 0])]] S (.bool false) S := fun S => by
          rw [← z1, ← z2, ← hpo]
          exact k_impl_PlanOk ls ss [7, 7, 7] (List.replicate ls.length 0) (List.replicate ss.sz 0) S (by omega) (by omega) (by simp) (by simp; omega) (by simp; omega)
        repeat' (first | refine c0 ?_ | refine c7 ?_ | refine d2 ?_ | refine d4 ?_ | refine b0 (hk := ?_) | refine a2 (hk := ?_) | refine a5 (hk := ?_) | refine b5 (hk := ?_) | refine b7 (hk := ?_) | refine d6 (ht := ?_))
        refine kZ (ha := fm2 (fzPR ls ss) (fm2 (fzV_agg2 (cs := [L [7, 7, 7], .sl (S.length + _) ls.length, .sl (S.length + _) ss.sz]) rfl (fm2 (frzC_pure rfl) (fm2 (fz_sl rfl (Nat.zero_le _) (get_own rfl) l1 l3) (fm2 (fz_sl rfl (Nat.zero_le _) (get_own rfl) l2 l4) fm0)))) fm0)) (he := eO _) (hk := ?_)
        repeat' (first | refine c0 ?_ | refine c1 ?_ | refine c9 ?_ | refine d4 ?_ | refine a5 (hk := ?_))
        exact rB (hv := rfl)
      | some m =>
        obtain ⟨k1, k2, k3, k4⟩ := one_facts hpv
        obtain ⟨_, _, _, _, _, _, _, hC, _⟩ := part_came hpv
        have htot := hC.tot
        simp only [tot] at htot
        rw [hR] at k3
        have m1 : m.nums = xn := congrArg Rn.nums k3
        have m2 : m.ws = xw := congrArg Rn.ws k3
        have m3 : m.ss = xs := congrArg Rn.ss k3
        obtain ⟨mn, mw, ms, v0, v1, v2, mp, mk, me⟩ := m
        simp only at m1 m2 m3 k1 k2 k4 htot
        subst m1; subst m2; subst m3; subst k4
        repeat' (first | refine c0 ?_ | refine c7 ?_ | refine d2 ?_ | refine c8 ?_ | refine d0 ?_ | refine d4 ?_ | refine b0 (hk := ?_) | refine a1 (hk := ?_) | refine a5 (hk := ?_) | refine b7 (hk := ?_) | refine d7 (hf := ?_))
        refine C_loop (fun f T' S' => ∃ (T0 : Tm) (S1 : St) (i p7 p10 : Nat), i + f = 3 ∧ 1 ≤ i ∧ Ext S S1 ∧ S1[p7]? = some (.cells false [(RN mn mw ms).cells]) ∧ S1[p10]? = some (.cells false [(PT mn (mw.map wrow) (ms.map wrow) [v0, v1, v2] true).cells]) ∧
            T' = putL T0 [(7, .ptr p7 1 0 0), (10, .ptr p10 1 0 0), (12, I i)] ∧ S' = S1 ++ []) 2
          ⟨_, _, 1, _, _, rfl, Nat.le_refl _, ex0, get_own rfl, get_own rfl, at_mk ⟨rfl, rfl, rfl, trivial⟩, (List.append_nil _).symm⟩ ?_
        rintro f T' S' ⟨T0, S1, i, p7, p10, hi, hi1, hE, f7, f10, rfl, rfl⟩
        cases f with
        | zero =>
          have hi3 : i = 3 := by omega
          subst hi3
          have hc3 : ¬ (((3 : Nat) : Int) < 3) := by decide
          repeat' (first | refine c0 ?_ | refine c2 ?_ | refine c5 ?_ | refine c7 ?_ | refine d2 ?_ | refine c9 ?_ | refine d1 ?_ | refine d4 ?_ | refine k0 (he := (by first | exact e3 _)) (hk := ?_) | refine a1 (hk := ?_) | refine a5 (hk := ?_) | refine b5 (hk := ?_) | refine d7 (hf := ?_))
          exact rBx hE (hv := rfl)
        | succ f =>
          have hc3 : (i : Int) < 3 := by omega
          obtain ⟨vs, hg, hk6, hvl⟩ : ∃ vs : List Wd, ([v0, v1, v2].map vwrow)[i]? = some (vwrow vs) ∧ (∀ w ∈ vs, w.kind = 6) ∧ vs.length ≤ 1000000 := by
            have : i = 1 ∨ i = 2 := by omega
            rcases this with rfl | rfl
            · exact ⟨v1, rfl, k1, by omega⟩
            · exact ⟨v2, rfl, k2, by omega⟩
          repeat' (first | refine c0 ?_ | refine c7 ?_ | refine d2 ?_ | refine c8 ?_ | refine d0 ?_ | refine d4 ?_ | refine a5 (hk := ?_) | refine u7 (hk := ?_))
          refine C_list vs (fun pre r T' S' => ∃ (T0 : Tm) (S2 : St), Ext S S2 ∧ S2[p7]? = some (.cells false [(RN mn mw ms).cells]) ∧ S2[p10]? = some (.cells false [(PT mn (mw.map wrow) (ms.map wrow) [v0, v1, v2] true).cells]) ∧
              T' = putL T0 [(7, .ptr p7 1 0 0), (10, .ptr p10 1 0 0), (12, I i), (13, I pre.length)] ∧ S' = S2 ++ [])
            ⟨_, _, hE, f7, f10, at_mk ⟨rfl, rfl, rfl, rfl, trivial⟩, rfl⟩ ?_ ?_
          · rintro pre w r T' S' hx ⟨T0, S2, hE2, f7', f10', rfl, rfl⟩
            have hgw := map_get (f := wdrow) (mid hx)
            have hlt := mid_lt hx
            have hc0' : (pre.length : Int) < ((vs.map wdrow).length : Int) := by simp; omega
            have hk : (w.kind != 6) = false := by rw [hk6 w (by rw [hx]; simp)]; rfl
            repeat' (first | refine c0 ?_ | refine c3 ?_ | refine c7 ?_ | refine d2 ?_ | refine c8 ?_ | refine d0 ?_ | refine d4 ?_ | refine a5 (hk := ?_) | refine b5 (hk := ?_) | refine b6 (hk := ?_) | refine b8 (hk := ?_) | refine u6 (hk := ?_) | refine u7 (hk := ?_))
            exact ⟨_, _, ex1 hE2, get_old f7', get_old f10', at_mk ⟨rfl, rfl, rfl, inc (by omega), trivial⟩, (List.append_nil _).symm⟩
          · rintro T' S' ⟨T0, S2, hE2, f7', f10', rfl, rfl⟩
            have hc0' : ¬ ((vs.length : Int) < ((vs.map wdrow).length : Int)) := by simp
            repeat' (first | refine c0 ?_ | refine c2 ?_ | refine c3 ?_ | refine c5 ?_ | refine c7 ?_ | refine d2 ?_ | refine d1 ?_ | refine d4 ?_ | refine a5 (hk := ?_) | refine b5 (hk := ?_) | refine b6 (hk := ?_) | refine b8 (hk := ?_) | refine u8 (hk := ?_))
            exact ⟨f, by omega, _, _, i + 1, p7, p10, by omega, by omega, ex1 hE2, get_old f7', get_old f10', at_mk ⟨rfl, rfl, inc3 (by omega), trivial⟩, (List.append_nil _).symm⟩
end Go.Proofs.X
end
section
namespace Go.Proofs.XVai
open Go
open Go.ChangeShapes Go.RowKit
set_option linter.unusedVariables false
set_option linter.unusedSimpArgs false

theorem memEnv_relG {Y : Sys} (w : World) (hg : ∀ g row, Y.glob g = some row → (∀ c ∈ row, pureC c = true) ∧ ∃ f : Nat → Value, ∀ (j : Nat) (c : HV), row[j]? = some c → w.cell? ⟨g, j, none⟩ = some (f j) ∧ VRel (memEnv w) c (f j)) : Rel Y (memEnv w) (fun _ => none) w where
  hdC k n h hh := by cases hh
  mpC k r hh := by cases hh
  cells k fr rows h := by cases h
  maps k es h := by cases h
  inj k n sz B cap k' n' sz' cap' h := by cases h
  injm k k' r h := by cases h
  hdm k n sz B cap k' h := by cases h
  bound k n sz B cap h := by cases h
  mem b o v h := h
  glob g row h := hg g row h
  nodummy k h := by cases h

theorem closeG {P : Program} {Y : Sys} (hY : SysOk Y P) (hF : ∀ f fn, Y.fn f = some fn → FnOk P f fn) {f : Nat} {args : List HV} {v : HV} {S' : St} (hev : Ev Y f args [] v S') {w : World} {cargs : Array Value}
    (hg : ∀ g row, Y.glob g = some row → (∀ c ∈ row, pureC c = true) ∧ ∃ f : Nat → Value, ∀ (j : Nat) (c : HV), row[j]? = some c → w.cell? ⟨g, j, none⟩ = some (f j) ∧ VRel (memEnv w) c (f j))
    (hl : args.length = cargs.size) (ha : ∀ (i : Nat) (c : HV) (u : Value), args[i]? = some c → cargs[i]? = some u → VRel (memEnv w) c u) :
    Calls P f cargs w (fun e w' => (∃ cv E', e = .returned cv ∧ VRel E' v cv) ∧ Below w.heap.size w w') := by
  obtain ⟨m, hm⟩ := hev
  refine Calls.mono ((ccall_ok hY hF m).sim f args [] v S' (memEnv w) (fun _ => none) w cargs hm (memEnv_relG w hg) (fun k o h => by cases h) (fun k _ => rfl) hl ha) fun e w' h => ?_
  obtain ⟨cv, E', C', rfl, h1, h2, h3, h4⟩ := h
  refine ⟨⟨cv, E', rfl, h1⟩, ⟨h4.os, h4.tape, h4.output, h4.size, fun k hk => h4.frame k hk ?_⟩⟩
  rintro (⟨k', n, sz, cap, h⟩ | ⟨k', h⟩) <;> cases h
end Go.Proofs.XVai
end
