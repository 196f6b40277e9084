/- The canonical machine on which the functions are run, and contracts of functions, part 4 of 6. Conditions: none. -/
import Derived.Test.YtbmeikhhfjefoaaA3
set_option linter.all false
section
namespace Go.Proofs.X
open Go Go.Proofs.XVai Go.Proofs Go.Proofs.XN
set_option linter.unusedVariables false
set_option linter.unusedSimpArgs false

theorem run_consQ (k v : Int) (x : Vl) (h : Int) (t e rest : Stps) (r : Rn) : run (.cons k v x h t e rest) r = run rest (if k = 1 then ⟨r.nums.set v.toNat (valNum x r.nums), r.ws ++ [(v, valNum x r.nums)], r.ss⟩
      else if k = 3 then ⟨r.nums, r.ws, r.ss ++ [(h, nget r.nums v)]⟩ else if nget r.nums v ≠ 0 then run t r else run e r) := rfl
theorem runTo_app (a b : List (Int × Int)) (h : Int) : runTo (a ++ b) h = runTo a h ++ runTo b h := by simp [runTo]
theorem runSets_app (a b : List (Int × Int)) (vs : List Bool) : runSets (a ++ b) vs = runSets a vs ++ runSets b vs := by simp [runSets]
/-- To whom nothing is told, nothing is said. -/
theorem run_tells : ∀ (l : Stps) (h : Int) (r : Rn), tells l h = false → runTo (run l r).ss h = runTo r.ss h
  | .nil, _, _, _ => rfl
  | .cons k v x hh t e rest, h, r, ht => by
    simp only [tells, Bool.or_eq_false_iff] at ht
    obtain ⟨⟨h1, h2, h3⟩, h4⟩ := ht
    rw [run_consQ, run_tells rest h _ h4]
    split
    · rfl
    · split
      · rename_i k3
        have : hh ≠ h := by
          intro e
          simp [k3, e] at h1
        simp [runTo, this]
      · split
        · exact run_tells t h r h2
        · exact run_tells e h r h3
theorem leak_found {ls : List Lab} {ss : Stps} {h : Int} {k i : Nat} (hp : leakOf ls ss h = some (k, i)) : progOk ls ss = true ∧ inB h 0 2 = true ∧ k < i ∧ i < 2 ^ ls.length ∧ sameOn (row2 k ls.length) (row2 i ls.length) (knowsOf ls h) = true ∧
    (runTo (runOf ls ss (row2 k ls.length)).ss h == runTo (runOf ls ss (row2 i ls.length)).ss h) = false := by
  simp only [leakOf] at hp
  split at hp
  · rename_i h0
    rw [Bool.and_eq_true] at h0
    have h1 := List.find?_some hp
    have h2 := List.mem_of_find?_eq_some hp
    rw [pairs_mem] at h2
    simp only [leakAt, Bool.and_eq_true, Bool.not_eq_true'] at h1
    exact ⟨h0.1, h0.2, h2.1, h2.2, h1.1, h1.2⟩
  · cases hp
theorem sway_found {ls : List Lab} {ss : Stps} {h : Int} {k i : Nat} (hp : swayOf ls ss h = some (k, i)) : progOk ls ss = true ∧ inB h 0 2 = true ∧ k < i ∧ i < 2 ^ ls.length ∧ sameOn (row2 k ls.length) (row2 i ls.length) (trustsOf ls h) = true ∧
    (runSets (runOf ls ss (row2 k ls.length)).ws (trustsOf ls h) == runSets (runOf ls ss (row2 i ls.length)).ws (trustsOf ls h)) = false := by
  simp only [swayOf] at hp
  split at hp
  · rename_i h0
    rw [Bool.and_eq_true] at h0
    have h1 := List.find?_some hp
    have h2 := List.mem_of_find?_eq_some hp
    rw [pairs_mem] at h2
    simp only [swayAt, Bool.and_eq_true, Bool.not_eq_true'] at h1
    exact ⟨h0.1, h0.2, h2.1, h2.2, h1.1, h1.2⟩
  · cases hp
theorem runOf_tells {ls : List Lab} {ss : Stps} {h : Int} (ht : tells ss h = false) (a : List Int) : runTo (runOf ls ss a).ss h = [] := by
  unfold runOf
  split
  · rw [run_tells _ _ _ ht]; rfl
  · rfl
/-- Who is told nothing learns nothing. -/
theorem leak_told {ls : List Lab} {ss : Stps} {h : Int} {p : Nat × Nat} (hp : leakOf ls ss h = some p) : tells ss h = true ∧ inB h 0 2 = true := by
  obtain ⟨k, i⟩ := p
  obtain ⟨_, h1, _, _, _, h2⟩ := leak_found hp
  refine ⟨?_, h1⟩
  cases ht : tells ss h with
  | true => rfl
  | false =>
    rw [runOf_tells ht, runOf_tells ht] at h2
    simp at h2
theorem row2_bits (m n : Nat) : ((row2 m n).all fun x => x == 0 || x == 1) = true := by
  rw [List.all_eq_true]
  intro x hx
  simp only [row2, List.mem_map, List.mem_range] at hx
  obtain ⟨i, _, rfl⟩ := hx
  have : m / 2 ^ i % 2 = 0 ∨ m / 2 ^ i % 2 = 1 := by omega
  rcases this with h | h <;> simp [h]
/-- Each row of bits is the row of a number. -/
theorem row2_of : ∀ a : List Int, (∀ x ∈ a, x = 0 ∨ x = 1) → ∃ m, m < 2 ^ a.length ∧ row2 m a.length = a
  | [], _ => ⟨0, by simp, rfl⟩
  | x :: a, h => by
    obtain ⟨m, h1, h2⟩ := row2_of a fun y hy => h y (by simp [hy])
    obtain ⟨b, hb, rfl⟩ : ∃ b : Nat, b < 2 ∧ x = (b : Int) := by
      rcases h x (by simp) with rfl | rfl
      · exact ⟨0, by omega, rfl⟩
      · exact ⟨1, by omega, rfl⟩
    refine ⟨b + 2 * m, by rw [List.length_cons, Nat.pow_succ]; omega, ?_⟩
    rw [List.length_cons, row2, List.range_succ_eq_map, List.map_cons, List.map_map]
    have e0 : ((b + 2 * m) / 2 ^ 0 % 2 : Nat) = b := by simp; omega
    rw [e0]
    have key : (List.range a.length).map (fun i => (((b + 2 * m) / 2 ^ (i + 1) % 2 : Nat) : Int)) = a := by
      refine Eq.trans ?_ h2
      rw [row2]
      refine List.map_congr_left fun i _ => ?_
      congr 2
      rw [Nat.pow_succ, Nat.mul_comm (2 ^ i) 2, ← Nat.div_div_eq_div_mul]
      congr 1; omega
    congr 1
theorem sameOn_symm {a b : List Int} {vs : List Bool} (h : sameOn a b vs = true) : sameOn b a vs = true :=
  (sameOn_get _ _ _).2 fun i hi hv => ((sameOn_get _ _ _).1 h i hi hv).symm
/-- If no rows are told there are none. -/
theorem sway_all {ls : List Lab} {ss : Stps} {h : Int} (hok : progOk ls ss = true) (hh : inB h 0 2 = true) (hn : swayOf ls ss h = none) {a b : List Int} (ha : a.length = ls.length) (hb : b.length = ls.length) (ba : ∀ x ∈ a, x = 0 ∨ x = 1) (bb : ∀ x ∈ b, x = 0 ∨ x = 1)
    (hs : sameOn a b (trustsOf ls h) = true) : runSets (runOf ls ss a).ws (trustsOf ls h) = runSets (runOf ls ss b).ws (trustsOf ls h) := by
  obtain ⟨m1, h1, e1⟩ := row2_of a ba
  obtain ⟨m2, h2, e2⟩ := row2_of b bb
  rw [ha] at h1 e1
  rw [hb] at h2 e2
  simp only [swayOf, hok, hh, Bool.and_self, if_true, List.find?_eq_none] at hn
  rcases Nat.lt_trichotomy m1 m2 with hlt | rfl | hlt
  · have := hn (m1, m2) (pairs_mem.2 ⟨hlt, h2⟩)
    simp only [swayAt, e1, e2, hs, Bool.true_and, Bool.not_eq_true', Bool.not_eq_false, beq_iff_eq] at this
    exact this
  · rw [← e1, ← e2]
  · have := hn (m2, m1) (pairs_mem.2 ⟨hlt, h1⟩)
    simp only [swayAt, e1, e2, sameOn_symm hs, Bool.true_and, Bool.not_eq_true', Bool.not_eq_false, beq_iff_eq] at this
    exact this.symm
end Go.Proofs.X
end
section
namespace Go.Proofs.X
open Go Go.Proofs.XVai Go.Proofs Go.Proofs.XN
set_option linter.unusedVariables false
set_option linter.unusedSimpArgs false
set_option maxHeartbeats 4000000

/-- Numbers are small. -/
def small (nums : List Int) : Prop := ∀ n ∈ nums, 0 ≤ n ∧ n ≤ 9
theorem nget_at {nums : List Int} {j : Nat} (h : j < nums.length) : nums[j]? = some (nget nums (j : Int)) := by
  simp [nget, h]
theorem small_nget {nums : List Int} (hs : small nums) (v : Int) : 0 ≤ nget nums v ∧ nget nums v ≤ 9 := by
  unfold nget
  rw [List.getD_eq_getElem?_getD]
  cases h : nums[v.toNat]? with
  | none => simp
  | some x => exact hs x (List.mem_of_getElem? h)
theorem vOk_nat {n : Nat} {v : Int} (h : vOk n v = true) : ∃ j : Nat, v = j ∧ j < n := by
  simp only [vOk, inB, decide_eq_true_eq] at h
  obtain ⟨j, rfl⟩ := Int.eq_ofNat_of_zero_le h.1
  exact ⟨j, rfl, by omega⟩
theorem k_spec_l3Num (x : Vl) (nums : List Int) (q : Nat) (fr : Bool) (S : St) (hx : valOk nums.length x = true) (hs : small nums) (hq : S[q]? = some (.cells fr (nums.map irow))) : Ev Y spec_l3Num [.agg (vrow x), .sl q nums.length] S (I (valNum x nums)) S := by
  obtain ⟨k, a, b⟩ := x
  have hn : (nums.map irow).length = nums.length := by simp
  simp only [valOk] at hx
  by_cases k1 : k = 1
  · subst k1
    refine E_start (h := ?_)
    repeat' (first | refine c0 ?_ | refine c1 ?_ | refine c4 ?_ | refine c7 ?_ | refine d2 ?_ | refine c8 ?_ | refine c9 ?_ | refine d4 ?_ | refine b1 (hk := ?_) | refine a5 (hk := ?_) | refine b5 (hk := ?_) | refine d6 (ht := ?_))
    exact rI (hv := by simp [valNum])
  by_cases k2 : k = 2
  · subst k2
    simp at hx
    obtain ⟨j, rfl, hj⟩ := vOk_nat hx.1
    have hg := nget_at hj
    have hg' := map_get (f := irow) hg
    refine E_start (h := ?_)
    repeat' (first | refine c0 ?_ | refine c1 ?_ | refine c4 ?_ | refine c7 ?_ | refine d2 ?_ | refine c8 ?_ | refine c9 ?_ | refine d4 ?_ | refine b1 (hk := ?_) | refine a5 (hk := ?_) | refine b5 (hk := ?_) | refine b9 (hk := ?_) | refine d6 (ht := ?_) | refine d7 (hf := ?_))
    exact rI (hv := by simp [valNum])
  have h34 : k = 3 ∨ k = 4 := by
    by_cases h : k = 3 ∨ k = 4
    · exact h
    · simp [k1, k2, h] at hx
  have hx2 : vOk nums.length a = true ∧ vOk nums.length b = true := by
    rcases h34 with rfl | rfl <;> simpa using hx
  obtain ⟨j, rfl, hj⟩ := vOk_nat hx2.1
  obtain ⟨i, rfl, hi⟩ := vOk_nat hx2.2
  have hg := nget_at hj
  have hg2 := nget_at hi
  have hg' := map_get (f := irow) hg
  have hg2' := map_get (f := irow) hg2
  have bu := small_nget hs (j : Int)
  have bw := small_nget hs (i : Int)
  rcases h34 with rfl | rfl
  · have e : valNum ⟨3, j, i⟩ nums = (nget nums j + nget nums i).tmod 10 := by simp [valNum]
    rw [e]
    generalize nget nums (j : Int) = u at *
    generalize nget nums (i : Int) = w at *
    refine E_start (h := ?_)
    repeat' (first | refine c0 ?_ | refine c1 ?_ | refine c4 ?_ | refine c7 ?_ | refine d2 ?_ | refine c8 ?_ | refine c9 ?_ | refine d4 ?_ | refine d3' (h := ?_) | refine d4' ?_ | refine b1 (hk := ?_) | refine a5 (hk := ?_) | refine b5 (hk := ?_) | refine e5' (hk := ?_) | refine f5' (hk := ?_) | refine f9' (hk := ?_) | refine d6 (ht := ?_) | refine d7 (hf := ?_))
    exact rI (hv := by rw [i64_id (by omega) (by omega)])
  · have e : valNum ⟨4, j, i⟩ nums = if nget nums j = nget nums i then 1 else 0 := by simp [valNum]
    rw [e]
    generalize nget nums (j : Int) = u at *
    generalize nget nums (i : Int) = w at *
    refine E_start (h := ?_)
    repeat' (first | refine c0 ?_ | refine c1 ?_ | refine c3 ?_ | refine c7 ?_ | refine d2 ?_ | refine c8 ?_ | refine c9 ?_ | refine d0 ?_ | refine d4 ?_ | refine d3' (h := ?_) | refine d4' ?_ | refine b1 (hk := ?_) | refine a5 (hk := ?_) | refine b5 (hk := ?_) | refine e5' (hk := ?_) | refine f5' (hk := ?_) | refine f9' (hk := ?_) | (with_reducible intro hc) | refine d7 (hf := ?_) | refine d9 (ht := ?_) (hf := ?_))
    · exact rI (hv := by simp at hc; simp [hc])
    · exact rI (hv := by simp at hc; simp [hc])
/-- The variables of a value. -/
def varsV (x : Vl) : List Int := if x.kind = 2 then [x.a] else if x.kind = 3 ∨ x.kind = 4 then [x.a, x.b] else []
theorem k_impl_Val_vars (x : Vl) (S : St) : Ev Y impl_Val_vars [.agg (vrow x)] S (L (varsV x)) S := by
  obtain ⟨k, a, b⟩ := x
  by_cases k2 : k = 2
  · subst k2
    refine E_start (h := ?_)
    repeat' (first | refine c0 ?_ | refine c1 ?_ | refine c4 ?_ | refine c7 ?_ | refine d2 ?_ | refine c8 ?_ | refine c9 ?_ | refine d4 ?_ | refine b1 (hk := ?_) | refine b3 (hk := ?_) | refine a5 (hk := ?_) | refine b5 (hk := ?_) | refine d6 (ht := ?_))
    exact rV
  by_cases k3 : k = 3
  · subst k3
    refine E_start (h := ?_)
    repeat' (first | refine c0 ?_ | refine c1 ?_ | refine c4 ?_ | refine c7 ?_ | refine d2 ?_ | refine c8 ?_ | refine c9 ?_ | refine d0 ?_ | refine d4 ?_ | refine b1 (hk := ?_) | refine b3 (hk := ?_) | refine a5 (hk := ?_) | refine b5 (hk := ?_) | refine d6 (ht := ?_) | refine d7 (hf := ?_))
    exact rV
  by_cases k4 : k = 4
  · subst k4
    refine E_start (h := ?_)
    repeat' (first | refine c0 ?_ | refine c1 ?_ | refine c4 ?_ | refine c7 ?_ | refine d2 ?_ | refine c8 ?_ | refine c9 ?_ | refine d4 ?_ | refine b1 (hk := ?_) | refine b3 (hk := ?_) | refine a5 (hk := ?_) | refine b5 (hk := ?_) | refine d6 (ht := ?_) | refine d7 (hf := ?_))
    exact rV
  have q2 : (k == 2) = false := by simpa using k2
  have q3 : (k == 3) = false := by simpa using k3
  have q4 : (k == 4) = false := by simpa using k4
  rw [show varsV ⟨k, a, b⟩ = [] by simp [varsV, k2, k3, k4]]
  refine E_start (h := ?_)
  repeat' (first | refine c0 ?_ | refine c3 ?_ | refine c7 ?_ | refine d2 ?_ | refine c8 ?_ | refine c9 ?_ | refine d0 ?_ | refine d4 ?_ | refine b1 (hk := ?_) | refine b3 (hk := ?_) | refine a5 (hk := ?_) | refine b5 (hk := ?_) | refine u6 (hk := ?_))
  exact rL (hp := rfl) (hv := rfl)
theorem k_impl_Val_of (x : Vl) (nums : List Int) (S : St) (hx : valOk nums.length x = true) (hs : small nums) : Ev Y impl_Val_of [.agg (vrow x), L ((varsV x).map (nget nums))] S (I (valNum x nums)) S := by
  obtain ⟨k, a, b⟩ := x
  simp only [valOk] at hx
  have bu := small_nget hs a
  have bw := small_nget hs b
  by_cases k1 : k = 1
  · subst k1
    refine E_start (h := ?_)
    repeat' (first | refine c0 ?_ | refine c1 ?_ | refine c4 ?_ | refine c7 ?_ | refine d2 ?_ | refine c8 ?_ | refine c9 ?_ | refine d4 ?_ | refine b1 (hk := ?_) | refine a5 (hk := ?_) | refine b5 (hk := ?_) | refine d6 (ht := ?_))
    exact rI (hv := by simp [valNum])
  by_cases k2 : k = 2
  · subst k2
    refine E_start (h := ?_)
    repeat' (first | refine c0 ?_ | refine c1 ?_ | refine c4 ?_ | refine c7 ?_ | refine d2 ?_ | refine c8 ?_ | refine c9 ?_ | refine d4 ?_ | refine b1 (hk := ?_) | refine a5 (hk := ?_) | refine b5 (hk := ?_) | refine d6 (ht := ?_) | refine d7 (hf := ?_))
    exact rI (hv := by simp [valNum])
  have h34 : k = 3 ∨ k = 4 := by
    by_cases h : k = 3 ∨ k = 4
    · exact h
    · simp [k1, k2, h] at hx
  rcases h34 with rfl | rfl
  · refine E_start (h := ?_)
    repeat' (first | refine c0 ?_ | refine c1 ?_ | refine c4 ?_ | refine c7 ?_ | refine d2 ?_ | refine c8 ?_ | refine c9 ?_ | refine d4 ?_ | refine d3' (h := ?_) | refine d4' ?_ | refine b1 (hk := ?_) | refine a5 (hk := ?_) | refine b5 (hk := ?_) | refine e5' (hk := ?_) | refine d6 (ht := ?_) | refine d7 (hf := ?_))
    exact rI (hv := by
      show (IntKind.i64.wrap (nget nums a + nget nums b)).tmod 10 = _
      rw [i64_id (by omega) (by omega)]; simp [valNum])
  · refine E_start (h := ?_)
    repeat' (first | refine c0 ?_ | refine c1 ?_ | refine c3 ?_ | refine c7 ?_ | refine d2 ?_ | refine c8 ?_ | refine c9 ?_ | refine d0 ?_ | refine d4 ?_ | refine d3' (h := ?_) | refine d4' ?_ | refine b1 (hk := ?_) | refine a5 (hk := ?_) | refine b5 (hk := ?_) | refine e5' (hk := ?_) | (with_reducible intro hc) | refine d7 (hf := ?_) | refine d9 (ht := ?_) (hf := ?_))
    · exact rI (hv := by simp at hc; simp [valNum, hc])
    · exact rI (hv := by simp at hc; simp [valNum, hc])
end Go.Proofs.X
end
section
namespace Go.Proofs.X
open Go Go.Proofs.XVai Go.Proofs Go.Proofs.XN
set_option linter.unusedVariables false
set_option linter.unusedSimpArgs false

theorem hasG_lt {a h : Int} (hh : hasG a h = true) : h = 0 ∨ h = 1 ∨ h = 2 := by
  simp only [hasG, Bool.and_eq_true, decide_eq_true_eq] at hh
  omega
theorem hasG_bits : ∀ p q r : Bool, hasG ((if p then 1 else 0) + (if q then 2 else 0) + (if r then 4 else 0)) 0 = p ∧ hasG ((if p then 1 else 0) + (if q then 2 else 0) + (if r then 4 else 0)) 1 = q ∧ hasG ((if p then 1 else 0) + (if q then 2 else 0) + (if r then 4 else 0)) 2 = r ∧
    setB ((if p then 1 else 0) + (if q then 2 else 0) + (if r then 4 else 0)) = true := by decide
theorem hasG_both (a b h : Int) : hasG (bothG a b) h = (hasG a h && hasG b h) := by
  obtain ⟨h0, h1, h2, _⟩ := hasG_bits (hasG a 0 && hasG b 0) (hasG a 1 && hasG b 1) (hasG a 2 && hasG b 2)
  by_cases hh : h = 0 ∨ h = 1 ∨ h = 2
  · rcases hh with rfl | rfl | rfl
    · exact h0
    · exact h1
    · exact h2
  · have n : ∀ c, hasG c h = false := fun c => by
      cases hc : hasG c h with
      | false => rfl
      | true => exact absurd (hasG_lt hc) hh
    rw [n, n, n]; rfl
theorem setB_both (a b : Int) : setB (bothG a b) = true := (hasG_bits _ _ _).2.2.2
theorem labOk_both (a b : Lab) : labOk (lboth a b) = true := by
  unfold lboth
  split
  · simp [labOk, setB_both]
  · decide
theorem labOk_any : labOk lany = true := by decide
theorem labAt_ok {ls : List Lab} (h : ls.all labOk = true) (v : Int) : labOk (labAt ls v) = true := by
  unfold labAt
  rw [List.getD_eq_getElem?_getD]
  cases hg : ls[v.toNat]? with
  | none => decide
  | some x => exact List.all_eq_true.1 h x (List.mem_of_getElem? hg)
theorem valLab_ok {ls : List Lab} (x : Vl) : labOk (valLab ls x) = true := by
  unfold valLab
  simp only
  split
  · exact labOk_both _ _
  · split
    · exact labOk_any
    · exact labOk_both _ _
theorem within_has {a b h : Int} (hw : withinG a b = true) (ha : hasG a h = true) : hasG b h = true := by
  simp only [withinG, Bool.and_eq_true, Bool.not_eq_true', Bool.and_eq_false_iff, Bool.not_eq_false'] at hw
  obtain ⟨w0, w1, w2⟩ := hw
  rcases hasG_lt ha with rfl | rfl | rfl
  · rcases w0 with w | w
    · rw [w] at ha; cases ha
    · exact w
  · rcases w1 with w | w
    · rw [w] at ha; cases ha
    · exact w
  · rcases w2 with w | w
    · rw [w] at ha; cases ha
    · exact w
def fineS (ls : List Lab) : Stps → Lab → Bool
  | .nil, _ => true
  | .cons k v x h t e r, here => fineG ls k v x h here && (fineS ls t (lboth here (labAt ls v)) && (fineS ls e (lboth here (labAt ls v)) && fineS ls r here))
theorem why_fine (ls : List Lab) : ∀ (l m : Stps) (here : Lab) (hs : List Lab) (i : Nat), whyL ls (l.all.app m) (ats ls l here ++ hs) i = none → fineS ls l here = true ∧ ∃ j, whyL ls m hs j = none
  | .nil, m, here, hs, i, h => ⟨rfl, i, h⟩
  | .cons k v x hh t e r, m, here, hs, i, h => by
    simp only [Stps.all, Stps.app, ats, List.cons_append, whyL] at h
    split at h
    · rename_i hf
      rw [Stps.app_assoc, Stps.app_assoc, List.append_assoc, List.append_assoc] at h
      obtain ⟨f1, j1, h1⟩ := why_fine ls t _ _ _ _ h
      obtain ⟨f2, j2, h2⟩ := why_fine ls e _ _ _ _ h1
      obtain ⟨f3, j3, h3⟩ := why_fine ls r _ _ _ _ h2
      exact ⟨by simp [fineS, hf, f1, f2, f3], j3, h3⟩
    · cases h
theorem whyP_fine {ls : List Lab} {ss : Stps} (hok : progOk ls ss = true) (h : whyP ls ss = none) : fineS ls ss lany = true := by
  simp only [whyP, hok, if_true] at h
  refine (why_fine ls ss .nil lany [] 0 ?_).1
  rw [Stps.app_nil, List.append_nil]; exact h
/-- What one looks at: who may know, or who trusts. -/
structure Side (ls : List Lab) (h : Int) (π : Lab → Int) {α : Type} (O : Rn → α) : Prop where
  both : ∀ a b, labOk a = true → labOk b = true → hasG (π (lboth a b)) h = (hasG (π a) h && hasG (π b) h)
  flows : ∀ a b, flowsG a b = true → hasG (π b) h = true → hasG (π a) h = true
  setHi : ∀ (r : Rn) (n : List Int) (v y : Int), vOk ls.length v = true → hasG (π (labAt ls v)) h = false → O ⟨n, r.ws ++ [(v, y)], r.ss⟩ = O r
  setEq : ∀ (ra rb : Rn) (na nb : List Int) (v y : Int), O ra = O rb → O ⟨na, ra.ws ++ [(v, y)], ra.ss⟩ = O ⟨nb, rb.ws ++ [(v, y)], rb.ss⟩
  tellHi : ∀ (r : Rn) (here : Lab) (v : Int) (x : Vl) (hh : Int), fineG ls 3 v x hh here = true → hasG (π here) h = false → O ⟨r.nums, r.ws, r.ss ++ [(hh, nget r.nums v)]⟩ = O r
  tellEq : ∀ (ra rb : Rn) (here : Lab) (v : Int) (x : Vl) (hh : Int), fineG ls 3 v x hh here = true → (hasG (π (labAt ls v)) h = true → nget ra.nums v = nget rb.nums v) → O ra = O rb →
    O ⟨ra.nums, ra.ws, ra.ss ++ [(hh, nget ra.nums v)]⟩ = O ⟨rb.nums, rb.ws, rb.ss ++ [(hh, nget rb.nums v)]⟩
def LE (ls : List Lab) (h : Int) (π : Lab → Int) (a b : List Int) : Prop := a.length = b.length ∧ ∀ j : Nat, hasG (π (labAt ls (j : Int))) h = true → a[j]? = b[j]?
section
variable {ls : List Lab} {h : Int} {π : Lab → Int} {α : Type} {O : Rn → α}
theorem LE.refl (a : List Int) : LE ls h π a a := ⟨rfl, fun _ _ => rfl⟩
theorem LE.symm {a b : List Int} (e : LE ls h π a b) : LE ls h π b a := ⟨e.1.symm, fun j hj => (e.2 j hj).symm⟩
theorem LE.trans {a b c : List Int} (e : LE ls h π a b) (f : LE ls h π b c) : LE ls h π a c := ⟨e.1.trans f.1, fun j hj => (e.2 j hj).trans (f.2 j hj)⟩
theorem LE.num {a b : List Int} (e : LE ls h π a b) {v : Int} (hv : vOk ls.length v = true) (hl : hasG (π (labAt ls v)) h = true) : nget a v = nget b v := by
  obtain ⟨j, rfl, _⟩ := vOk_nat hv
  have := e.2 j hl
  simp only [nget, List.getD_eq_getElem?_getD, Int.toNat_natCast]
  rw [this]
theorem LE.hi {a : List Int} {v y : Int} (hv : vOk ls.length v = true) (hl : hasG (π (labAt ls v)) h = false) : LE ls h π a (a.set v.toNat y) := by
  obtain ⟨j, rfl, _⟩ := vOk_nat hv
  refine ⟨by simp, fun i hi => ?_⟩
  rw [Int.toNat_natCast, List.getElem?_set_ne]
  rintro rfl
  rw [hl] at hi; cases hi
theorem LE.lo {a b : List Int} (e : LE ls h π a b) (i : Nat) (y : Int) : LE ls h π (a.set i y) (b.set i y) := by
  refine ⟨by simp [e.1], fun j hj => ?_⟩
  rw [List.getElem?_set, List.getElem?_set, e.1, e.2 j hj]
theorem Side.val (s : Side ls h π O) (hls : ls.all labOk = true) {x : Vl} {a b : List Int} (hx : valOk ls.length x = true) (hl : hasG (π (valLab ls x)) h = true) (e : LE ls h π a b) : valNum x a = valNum x b := by
  obtain ⟨k, p, q⟩ := x
  simp only [valOk] at hx
  by_cases k1 : k = 1
  · subst k1; simp [valNum]
  by_cases k2 : k = 2
  · subst k2
    simp at hx
    rw [show valLab ls ⟨2, p, q⟩ = lboth lany (labAt ls p) by simp [valLab], s.both _ _ labOk_any (labAt_ok hls _), Bool.and_eq_true] at hl
    have := e.num hx.1 hl.2
    simp [valNum, this]
  have h34 : k = 3 ∨ k = 4 := by
    by_cases h : k = 3 ∨ k = 4
    · exact h
    · simp [k1, k2, h] at hx
  have hx2 : vOk ls.length p = true ∧ vOk ls.length q = true := by
    rcases h34 with rfl | rfl <;> simpa using hx
  rw [show valLab ls ⟨k, p, q⟩ = lboth (lboth lany (labAt ls p)) (labAt ls q) by simp [valLab, k1, h34], s.both _ _ (labOk_both _ _) (labAt_ok hls _), s.both _ _ labOk_any (labAt_ok hls _), Bool.and_eq_true, Bool.and_eq_true] at hl
  have e1 := e.num hx2.1 hl.1.2
  have e2 := e.num hx2.2 hl.2
  simp only [valNum, e1, e2]
theorem run_hi (s : Side ls h π O) (hls : ls.all labOk = true) : ∀ (l : Stps) (here : Lab) (d : Int) (r : Rn), labOk here = true → stepsOk ls.length l d = true → fineS ls l here = true → hasG (π here) h = false → LE ls h π r.nums (run l r).nums ∧ O (run l r) = O r
  | .nil, _, _, r, _, _, _, _ => ⟨LE.refl _, rfl⟩
  | .cons k v x hh t e rest, here, d, r, hok, ho, hf, hn => by
    rw [stepsOk_cons, Bool.and_eq_true] at ho
    obtain ⟨hv1, hv2, _, ⟨ht, he⟩, _⟩ := stepOk_in ho.1
    simp only [fineS, Bool.and_eq_true] at hf
    obtain ⟨f0, f1, f2, f3⟩ := hf
    have hin : hasG (π (lboth here (labAt ls v))) h = false := by rw [s.both _ _ hok (labAt_ok hls _), hn]; rfl
    rw [run_consQ]
    split
    · rename_i k1
      subst k1
      have hlv : hasG (π (labAt ls v)) h = false := by
        cases hc : hasG (π (labAt ls v)) h with
        | false => rfl
        | true =>
          have := s.flows _ _ (by simpa [fineG] using f0) hc
          rw [s.both _ _ hok (valLab_ok x), hn] at this
          cases this
      obtain ⟨a, b⟩ := run_hi s hls rest here d ⟨r.nums.set v.toNat (valNum x r.nums), r.ws ++ [(v, valNum x r.nums)], r.ss⟩ hok ho.2 f3 hn
      exact ⟨(LE.hi hv1 hlv).trans a, b.trans (s.setHi _ _ _ _ hv1 hlv)⟩
    · split
      · rename_i k3
        subst k3
        obtain ⟨a, b⟩ := run_hi s hls rest here d ⟨r.nums, r.ws, r.ss ++ [(hh, nget r.nums v)]⟩ hok ho.2 f3 hn
        exact ⟨a, b.trans (s.tellHi _ here _ x _ f0 hn)⟩
      · split
        · obtain ⟨a1, b1⟩ := run_hi s hls t _ (d - 1) r (labOk_both _ _) ht f1 hin
          obtain ⟨a, b⟩ := run_hi s hls rest here d (run t r) hok ho.2 f3 hn
          exact ⟨a1.trans a, b.trans b1⟩
        · obtain ⟨a1, b1⟩ := run_hi s hls e _ (d - 1) r (labOk_both _ _) he f2 hin
          obtain ⟨a, b⟩ := run_hi s hls rest here d (run e r) hok ho.2 f3 hn
          exact ⟨a1.trans a, b.trans b1⟩
theorem run_lo (s : Side ls h π O) (hls : ls.all labOk = true) : ∀ (l : Stps) (here : Lab) (d : Int) (ra rb : Rn), labOk here = true → stepsOk ls.length l d = true → fineS ls l here = true → LE ls h π ra.nums rb.nums → O ra = O rb → LE ls h π (run l ra).nums (run l rb).nums ∧ O (run l ra) = O (run l rb)
  | .nil, _, _, _, _, _, _, _, e, q => ⟨e, q⟩
  | .cons k v x hh t e rest, here, d, ra, rb, hok, ho, hf, hE, hq => by
    by_cases hn : hasG (π here) h = false
    · obtain ⟨a1, b1⟩ := run_hi s hls (.cons k v x hh t e rest) here d ra hok ho hf hn
      obtain ⟨a2, b2⟩ := run_hi s hls (.cons k v x hh t e rest) here d rb hok ho hf hn
      exact ⟨a1.symm.trans (hE.trans a2), b1.trans (hq.trans b2.symm)⟩
    rw [stepsOk_cons, Bool.and_eq_true] at ho
    obtain ⟨hv1, hv2, _, ⟨ht, he⟩, _⟩ := stepOk_in ho.1
    simp only [fineS, Bool.and_eq_true] at hf
    obtain ⟨f0, f1, f2, f3⟩ := hf
    rw [run_consQ, run_consQ]
    by_cases k1 : k = 1
    · rw [if_pos k1, if_pos k1]
      subst k1
      by_cases hlv : hasG (π (labAt ls v)) h = false
      · exact run_lo s hls rest here d _ _ hok ho.2 f3 ((LE.hi hv1 hlv).symm.trans (hE.trans (LE.hi hv1 hlv))) ((s.setHi _ _ _ _ hv1 hlv).trans (hq.trans (s.setHi _ _ _ _ hv1 hlv).symm))
      · have hfl := s.flows _ _ (by simpa [fineG] using f0) (by simpa using hlv)
        rw [s.both _ _ hok (valLab_ok x), Bool.and_eq_true] at hfl
        rw [s.val hls (hv2 rfl) hfl.2 hE]
        exact run_lo s hls rest here d _ _ hok ho.2 f3 (hE.lo _ _) (s.setEq _ _ _ _ _ _ hq)
    · rw [if_neg k1, if_neg k1]
      by_cases k3 : k = 3
      · rw [if_pos k3, if_pos k3]
        subst k3
        exact run_lo s hls rest here d _ _ hok ho.2 f3 hE (s.tellEq _ _ here v x hh f0 (fun hl => hE.num hv1 hl) hq)
      · rw [if_neg k3, if_neg k3]
        by_cases hlv : hasG (π (labAt ls v)) h = false
        · have hin : hasG (π (lboth here (labAt ls v))) h = false := by rw [s.both _ _ hok (labAt_ok hls _), hlv, Bool.and_false]
          have one : ∀ r : Rn, LE ls h π r.nums (if nget r.nums v ≠ 0 then run t r else run e r).nums ∧ O (if nget r.nums v ≠ 0 then run t r else run e r) = O r := fun r => by
            split
            · exact run_hi s hls t _ (d - 1) r (labOk_both _ _) ht f1 hin
            · exact run_hi s hls e _ (d - 1) r (labOk_both _ _) he f2 hin
          exact run_lo s hls rest here d _ _ hok ho.2 f3 ((one ra).1.symm.trans (hE.trans (one rb).1)) ((one ra).2.trans (hq.trans (one rb).2.symm))
        · rw [hE.num hv1 (by simpa using hlv)]
          split
          · obtain ⟨a, b⟩ := run_lo s hls t _ (d - 1) ra rb (labOk_both _ _) ht f1 hE hq
            exact run_lo s hls rest here d _ _ hok ho.2 f3 a b
          · obtain ⟨a, b⟩ := run_lo s hls e _ (d - 1) ra rb (labOk_both _ _) he f2 hE hq
            exact run_lo s hls rest here d _ _ hok ho.2 f3 a b
end
theorem sideK (ls : List Lab) (h : Int) : Side ls h (·.k) (fun r => runTo r.ss h) where
  both a b ha hb := by simp [lboth, ha, hb, hasG_both]
  flows a b hf hb := by
    simp only [flowsG, Bool.and_eq_true] at hf
    exact within_has hf.1.2 hb
  setHi _ _ _ _ _ _ := rfl
  setEq _ _ _ _ _ _ hq := hq
  tellHi r here v x hh hf hn := by
    have hne : hh ≠ h := by
      rintro rfl
      simp [fineG, hasG_both, hn] at hf
    simp [runTo, hne]
  tellEq ra rb here v x hh hf hv hq := by
    simp only [fineG, hasG_both] at hf
    simp at hf
    rw [runTo_app, runTo_app, hq]
    by_cases hne : hh = h
    · subst hne
      rw [hv hf.2]
    · simp [runTo, hne]
theorem sideT (ls : List Lab) (h : Int) : Side ls h (·.t) (fun r => runSets r.ws (trustsOf ls h)) where
  both a b ha hb := by simp [lboth, ha, hb, hasG_both]
  flows a b hf hb := by
    simp only [flowsG, Bool.and_eq_true] at hf
    exact within_has hf.2 hb
  setHi r n v y hv hl := by
    obtain ⟨j, rfl, hj⟩ := vOk_nat hv
    have : (trustsOf ls h).getD j false = false := by
      rw [List.getD_eq_getElem?_getD, trustsOf, List.getElem?_map, List.getElem?_eq_getElem hj]
      simpa [labAt, hj] using hl
    rw [runSets_app]
    rw [List.getD_eq_getElem?_getD] at this
    simp [runSets]
    intro _
    exact this
  setEq ra rb na nb v y hq := by rw [runSets_app, runSets_app, hq]
  tellHi _ _ _ _ _ _ _ := rfl
  tellEq _ _ _ _ _ _ _ _ hq := hq
theorem LE_rows {ls : List Lab} {h : Int} {π : Lab → Int} {m n : Nat} (hs : sameOn (row2 m ls.length) (row2 n ls.length) (ls.map fun l => hasG (π l) h) = true) : LE ls h π (row2 m ls.length) (row2 n ls.length) := by
  refine ⟨by simp [row2_len], fun j hj => ?_⟩
  by_cases hl : j < ls.length
  · have := (sameOn_get _ _ _).1 hs j (by simpa using hl) (by
      rw [List.getD_eq_getElem?_getD, List.getElem?_map, List.getElem?_eq_getElem hl]
      simpa [labAt, hl] using hj)
    rw [row2_num hl, row2_num hl]
    rw [List.getD_eq_getElem?_getD, List.getD_eq_getElem?_getD, row2_num hl, row2_num hl] at this
    simpa using this
  · rw [List.getElem?_eq_none (by simp [row2_len]; omega), List.getElem?_eq_none (by simp [row2_len]; omega)]
theorem row2_ok {ls : List Lab} {ss : Stps} (hok : progOk ls ss = true) (m : Nat) : numsOk ls ss (row2 m ls.length) = true := by
  simp only [numsOk, hok, row2_len, beq_self_eq_true, Bool.and_self, Bool.true_and, List.all_eq_true]
  intro x hx
  have := List.all_eq_true.1 (row2_bits m ls.length) x hx
  simp at this
  rcases this with rfl | rfl <;> decide
/-- A fine program tells nobody too much. -/
theorem leak_none {ls : List Lab} {ss : Stps} {h : Int} (hw : whyP ls ss = none) : leakOf ls ss h = none := by
  cases hp : leakOf ls ss h with
  | none => rfl
  | some p =>
    exfalso
    obtain ⟨k, i⟩ := p
    obtain ⟨h1, h2, h3, h4, h5, h6⟩ := leak_found hp
    obtain ⟨a1, a2, a3, a4⟩ := progOk_in h1
    have := (run_lo (sideK ls h) a2 ss lany 3 ⟨row2 k ls.length, [], []⟩ ⟨row2 i ls.length, [], []⟩ labOk_any a3 (whyP_fine h1 hw) (LE_rows h5) rfl).2
    simp only [runOf, row2_ok h1, if_true] at h6
    rw [this] at h6
    simp at h6
/-- A fine program deceives nobody. -/
theorem sway_none {ls : List Lab} {ss : Stps} {h : Int} (hw : whyP ls ss = none) : swayOf ls ss h = none := by
  cases hp : swayOf ls ss h with
  | none => rfl
  | some p =>
    exfalso
    obtain ⟨k, i⟩ := p
    obtain ⟨h1, h2, h3, h4, h5, h6⟩ := sway_found hp
    obtain ⟨a1, a2, a3, a4⟩ := progOk_in h1
    have := (run_lo (sideT ls h) a2 ss lany 3 ⟨row2 k ls.length, [], []⟩ ⟨row2 i ls.length, [], []⟩ labOk_any a3 (whyP_fine h1 hw) (LE_rows h5) rfl).2
    simp only [runOf, row2_ok h1, if_true] at h6
    rw [this] at h6
    simp at h6
end Go.Proofs.X
end
section
namespace Go.Proofs.X
open Go Go.Proofs.XVai Go.Proofs Go.Proofs.XN
set_option linter.unusedVariables false
set_option linter.unusedSimpArgs false
set_option maxHeartbeats 4000000

/-! ### bytes that are read -/
abbrev brow (b : UInt8) : List HV := [.int .u8 (b.toNat : Int)]
abbrev BY (bs : List UInt8) : HV := .lst (bs.map brow)
abbrev RD (bs : List UInt8) (p : Nat) : Ob := .cells false [[BY bs, I p]]
theorem xor_pos {a b : Int} (ha : 0 ≤ a) (ha' : a < 4611686018427387904) (hb : 0 ≤ b) (hb' : b < 4611686018427387904) : 0 ≤ IntKind.i64.wrap (BitVec.ofInt 64 a ^^^ BitVec.ofInt 64 b).toNat := by
  obtain ⟨n, rfl⟩ := Int.eq_ofNat_of_zero_le ha
  obtain ⟨m, rfl⟩ := Int.eq_ofNat_of_zero_le hb
  have : (BitVec.ofInt 64 (n : Int) ^^^ BitVec.ofInt 64 (m : Int)).toNat < 2 ^ 62 := by
    rw [BitVec.toNat_xor]
    refine Nat.xor_lt_two_pow ?_ ?_ <;> simp <;> omega
  rw [i64_id (by omega) (by omega)]
  omega
theorem RD_ok {n0 : Nat} (bs : List UInt8) (p : Nat) : idO n0 (RD bs p) = true := by simp [idO, idC]
/-- A value, and an old object that is another one. -/
theorem rKV {Y : XVai.Sys} {f : Nat} {fn : Func} {T' : Tm} {S0 S1 L : St} {k : Nat} {o o' o0 : Ob} {vs : List HV} {v v' : HV} (h0 : S0[k]? = some o0) (hE : ExtK S0 k o S1) (hio : idO S0.length o = true)
    (hkp : Y.keep f = false := by rfl) (hr : resVs Y T' (S1 ++ L) fn.results.toList = some vs := by rfl) (hz : ∀ S, frzR S0.length (resTup vs) S = some (v, S) := by exact fun _ => rfl) (hi : idR S0.length v = true := by rfl) (hv : v = v' := by rfl) (ho : o = o' := by rfl) : RT Y f fn S0 v' (S0.set k o') .ret T' (S1 ++ L) := by
  subst hv; subst ho
  obtain ⟨J, rfl⟩ := hE
  rw [List.append_assoc] at hr ⊢
  exact rS hkp hr (hz _) hi rfl (by simp) (rS1 (o := o) h0 hio)
/-- The same, of a row of one's own. -/
theorem rKL {Y : XVai.Sys} {f : Nat} {fn : Func} {T' : Tm} {S0 S1 L : St} {k q n : Nat} {o o' o0 : Ob} {rows rows' : List (List HV)} (h0 : S0[k]? = some o0) (hE : ExtK S0 k o S1) (hio : idO S0.length o = true)
    (hkp : Y.keep f = false := by rfl) (hr : resVs Y T' (S1 ++ L) fn.results.toList = some [.sl q n] := by rfl) (hq : S0.length ≤ q := by exact Nat.le_add_right _ _) (hL : (S1 ++ L)[q]? = some (.cells true rows)) (hn : rows.length = n := by rfl) (hp : rows.all (fun r => r.all pureC) = true) (hv : rows = rows') (ho : o = o' := by rfl) : RT Y f fn S0 (.lst rows') (S0.set k o') .ret T' (S1 ++ L) := by
  subst hv; subst ho
  obtain ⟨J, rfl⟩ := hE
  rw [List.append_assoc] at hr hL ⊢
  exact rS hkp hr (fz_sl rfl hq hL hn hp |> fun h => by simp only [resTup, frzR, frzV]; exact h) rfl rfl (by simp) (rS1 (o := o) h0 hio)
theorem xkS {S L : St} {k : Nat} {o : Ob} : ExtK S k o (S.set k o ++ L) := ⟨L, rfl⟩
theorem xkZ {S : St} {k : Nat} {o : Ob} : ExtK S k o (S.set k o) := ⟨[], by simp⟩
theorem big (a b c p : Nat) (ha : a < 256) (hb : b < 256) (hc : c ≤ 100000000) (hp : p ≤ 100000000) :
    0 ≤ IntKind.i64.wrap (IntKind.i64.wrap (IntKind.i64.wrap (IntKind.i64.wrap (IntKind.i64.wrap (a : Int) * 131) + IntKind.i64.wrap (IntKind.i64.wrap (b : Int) * 1117)) + IntKind.i64.wrap ((p : Int) * 29)) + IntKind.i64.wrap (IntKind.i64.wrap (c : Int) * 53)) ∧
    IntKind.i64.wrap (IntKind.i64.wrap (IntKind.i64.wrap (IntKind.i64.wrap (IntKind.i64.wrap (a : Int) * 131) + IntKind.i64.wrap (IntKind.i64.wrap (b : Int) * 1117)) + IntKind.i64.wrap ((p : Int) * 29)) + IntKind.i64.wrap (IntKind.i64.wrap (c : Int) * 53)) < 4611686018427387904 := by
  rw [i64_id (n := (a : Int)) (by omega) (by omega), i64_id (n := (b : Int)) (by omega) (by omega), i64_id (n := (c : Int)) (by omega) (by omega), i64_id (n := (a : Int) * 131) (by omega) (by omega), i64_id (n := (b : Int) * 1117) (by omega) (by omega), i64_id (n := (p : Int) * 29) (by omega) (by omega), i64_id (n := (c : Int) * 53) (by omega) (by omega),
    i64_id (n := (a : Int) * 131 + (b : Int) * 1117) (by omega) (by omega), i64_id (n := (a : Int) * 131 + (b : Int) * 1117 + (p : Int) * 29) (by omega) (by omega), i64_id (by omega) (by omega)]
  omega
theorem pick_ex (bs : List UInt8) (p : Nat) (n : Int) (hb : bs.length ≤ 2000) (hp : p ≤ 100000000) : ∃ v : Int, (0 ≤ v ∧ (1 ≤ n → v < n) ∧ (n < 1 → v = 0)) ∧ ∀ (k : Nat) (S : St), S[k]? = some (RD bs p) → Ev Y spec_l6Rd_pick [.ptr k 1 0 0, I n] S (I v) (S.set k (RD bs (p + 1))) := by
  have e1 : IntKind.i64.wrap ((p : Int) + 1) = ((p + 1 : Nat) : Int) := by rw [i64_id (by omega) (by omega)]; simp
  have e2 : IntKind.i64.wrap (((p + 1 : Nat) : Int) - 1) = (p : Int) := by rw [i64_id (by omega) (by omega)]; simp
  by_cases h1 : n < 1
  · refine ⟨0, ⟨by omega, by omega, fun _ => rfl⟩, fun k S hk => ?_⟩
    refine E_start (h := ?_)
    repeat' (first | refine c0 ?_ | refine c1 ?_ | refine c7 ?_ | refine d2 ?_ | refine c9 ?_ | refine d4 ?_ | refine a0 (hk := ?_) | refine u3 (hk := ?_) | refine a5 (hk := ?_) | refine b5 (hk := ?_) | refine b7 (hk := ?_) | refine d6 (ht := ?_))
    rw [e1]
    exact rKV (o := RD _ (p + 1)) hk xkZ (RD_ok _ _)
  cases bs with
  | nil =>
    refine ⟨0, ⟨by omega, by omega, fun _ => rfl⟩, fun k S hk => ?_⟩
    refine E_start (h := ?_)
    repeat' (first | refine c0 ?_ | refine c1 ?_ | refine c7 ?_ | refine d2 ?_ | refine c9 ?_ | refine d4 ?_ | refine u4 (hk := ?_) | refine a5 (hk := ?_) | refine b5 (hk := ?_) | refine b7 (hk := ?_) | refine d6 (ht := ?_))
    rw [e1]
    exact rKV (o := RD _ (p + 1)) hk xkZ (RD_ok _ _)
  | cons b0 bt =>
    generalize hbs : b0 :: bt = bs at *
    have hlen : 0 < bs.length := by rw [← hbs]; simp
    have hne : ((bs.map brow).length : Int) ≠ 0 := by rw [List.length_map]; omega
    by_cases h2 : p < bs.length
    · have hget : bs[p]? = some bs[p] := by simp [h2]
      have hlt : bs[p].toNat < 256 := bs[p].toNat_lt
      refine ⟨((bs[p].toNat : Int)).tmod n, ⟨Int.tmod_nonneg _ (Int.natCast_nonneg _), fun h => Int.tmod_lt_of_pos _ (by omega), fun h => absurd h h1⟩, fun k S hk => ?_⟩
      have h3 : (p : Int) < ((bs.map brow).length : Int) := by simp; omega
      have e3 : IntKind.i64.wrap (bs[p].toNat : Int) = (bs[p].toNat : Int) := i64_id (by omega) (by omega)
      have h4 : n ≠ 0 := by omega
      have h5 : (((bs.map brow).length : Int) == 0) = false := by simpa using hne
      have h6 : ∀ q : Int, q = (p : Int) → (decide (q < ((bs.map brow).length : Int)) = true) := fun q hq => by rw [hq]; simpa using h2
      refine E_start (h := ?_)
      repeat' (first | refine c0 ?_ | refine c7 ?_ | refine d2 ?_ | refine d0 ?_ | refine d4 ?_ | refine d3' (h := ?_) | refine u4 (hk := ?_) | refine a5 (hk := ?_) | refine b5 (hk := ?_) | refine b7 (hk := ?_) | refine e5' (hk := ?_) | refine f5' (hk := ?_) | refine h4'' (hw := ?_) | (with_reducible intro hc) | refine u6 (hk := ?_) | refine d8 (ht := ?_) (hf := ?_))
      all_goals rw [e1, e2] at *
      · repeat' (first | refine c0 ?_ | refine c1 ?_ | refine c9 ?_ | refine d4 ?_ | refine a5 (hk := ?_) | refine b6 (hk := ?_) | refine b8 (hk := ?_) | refine g4 (hw := ?_))
        rw [e3]
        skip
        exact rKV (o := RD _ (p + 1)) hk xkZ (RD_ok _ _)
      · contradiction
    · have h3 : ¬ ((p : Int) < ((bs.map brow).length : Int)) := by simp; omega
      have h5 : (((bs.map brow).length : Int) == 0) = false := by simpa using hne
      have hm : ∀ q : Nat, ((q : Int).tmod ((bs.map brow).length : Int)) = ((q % bs.length : Nat) : Int) := fun q => by rw [List.length_map]; rfl
      have hq : ∀ q : Nat, bs[q % bs.length]? = some (bs[q % bs.length]'(Nat.mod_lt _ hlen)) := fun q => by simp [Nat.mod_lt _ hlen]
      have e7 : IntKind.i64.wrap ((p : Int) * 7) = ((p * 7 : Nat) : Int) := by rw [i64_id (by omega) (by omega)]; simp
      have e8 : IntKind.i64.wrap (((p * 7 : Nat) : Int) + 3) = ((p * 7 + 3 : Nat) : Int) := by rw [i64_id (by omega) (by omega)]; simp
      have hq1 := hq p
      have hq2 := hq (p * 7 + 3)
      have h4 : n ≠ 0 := by omega
      let w := IntKind.i64.wrap
      let x : Int := w (w (w (w (w ((bs[p % bs.length]'(Nat.mod_lt _ hlen)).toNat : Int) * 131) + w (w ((bs[(p * 7 + 3) % bs.length]'(Nat.mod_lt _ hlen)).toNat : Int) * 1117)) + w ((p : Int) * 29)) + w (w ((p : Int).tdiv ((bs.map brow).length : Int)) * 53))
      have hx : 0 ≤ x ∧ x < 4611686018427387904 := by
        have l1 : (bs[p % bs.length]'(Nat.mod_lt _ hlen)).toNat < 256 := UInt8.toNat_lt _
        have l2 : (bs[(p * 7 + 3) % bs.length]'(Nat.mod_lt _ hlen)).toNat < 256 := UInt8.toNat_lt _
        have l3 : (p : Int).tdiv ((bs.map brow).length : Int) = ((p / bs.length : Nat) : Int) := by rw [List.length_map]; rfl
        have l4 : p / bs.length ≤ p := Nat.div_le_self _ _
        simp only [x, w, l3]
        exact big _ _ _ _ l1 l2 (Nat.le_trans l4 hp) hp
      refine ⟨(w (BitVec.ofInt 64 x ^^^ BitVec.ofInt 64 (w (x.tdiv 64))).toNat).tmod n, ⟨?_, fun _ => Int.tmod_lt_of_pos _ (by omega), fun h => absurd h h1⟩, ?_⟩
      · have hd : x.tdiv 64 = x / 64 := Int.tdiv_eq_ediv_of_nonneg hx.1
        have hw : w (x.tdiv 64) = x / 64 := by rw [hd]; exact i64_id (by omega) (by omega)
        refine Int.tmod_nonneg _ ?_
        rw [hw]
        exact xor_pos hx.1 hx.2 (by omega) (by omega)
      · intro k S hk
        refine E_start (h := ?_)
        repeat' (first | refine c0 ?_ | refine c7 ?_ | refine d2 ?_ | refine d0 ?_ | refine d4 ?_ | refine d3' (h := ?_) | refine u4 (hk := ?_) | refine a5 (hk := ?_) | refine b5 (hk := ?_) | refine b7 (hk := ?_) | refine e5' (hk := ?_) | refine f5' (hk := ?_) | refine h4'' (hw := ?_) | (with_reducible intro hc) | refine u6 (hk := ?_) | refine d8 (ht := ?_) (hf := ?_))
        all_goals rw [e1, e2] at *
        · contradiction
        · skip
          refine f8' (h5 := hm p) (h6 := map_get hq1) (hk := ?_)
          repeat' (first | refine e5' (hk := ?_) | refine f5' (hk := ?_) | refine f6' (hk := ?_) | refine h4'' (hw := ?_))
          rw [e7, e8]
          skip
          refine f8' (h5 := hm (p * 7 + 3)) (h6 := map_get hq2) (hk := ?_)
          repeat' (first | refine c0 ?_ | refine c7 ?_ | refine d2 ?_ | refine c9 ?_ | refine d4 ?_ | refine d4' ?_ | refine a5 (hk := ?_) | refine g4 (hw := ?_) | refine e5' (hk := ?_) | refine f5' (hk := ?_) | refine f6' (hk := ?_) | refine h3'' (hw := ?_))
          exact rKV (o := RD _ (p + 1)) hk xkZ (RD_ok _ _)
/-- The number that is drawn. -/
noncomputable def pickv (bs : List UInt8) (p : Nat) (n : Int) : Int := if h : bs.length ≤ 2000 ∧ p ≤ 100000000 then Classical.choose (pick_ex bs p n h.1 h.2) else 0
theorem k_pick {bs : List UInt8} {p : Nat} {n : Int} {k : Nat} {S : St} (hb : bs.length ≤ 2000) (hp : p ≤ 100000000) (hk : S[k]? = some (RD bs p)) : Ev Y spec_l6Rd_pick [.ptr k 1 0 0, I n] S (I (pickv bs p n)) (S.set k (RD bs (p + 1))) := by
  have h : bs.length ≤ 2000 ∧ p ≤ 100000000 := ⟨hb, hp⟩
  simp only [pickv, h, dif_pos, and_self]
  exact (Classical.choose_spec (pick_ex bs p n h.1 h.2)).2 k S hk
theorem pickv_bd (bs : List UInt8) (p : Nat) (n : Int) : 0 ≤ pickv bs p n ∧ (1 ≤ n → pickv bs p n < n) ∧ (n < 1 → pickv bs p n = 0) := by
  unfold pickv
  split
  · rename_i h; exact (Classical.choose_spec (pick_ex bs p n h.1 h.2)).1
  · exact ⟨by omega, by omega, fun _ => rfl⟩
end Go.Proofs.X
end
section
namespace Go.Proofs.X
open Go Go.Proofs.XVai Go.Proofs Go.Proofs.XN
set_option linter.unusedVariables false
set_option linter.unusedSimpArgs false
set_option maxHeartbeats 4000000

/-- What is drawn: at most so many bytes on, a value of which something holds. -/
def Dr (g : Nat) (args : List HV) (c : Nat) (R : HV → Prop) : Prop := ∀ (bs : List UInt8) (p k : Nat) (S : St), bs.length ≤ 2000 → p + c ≤ 100000000 → S[k]? = some (RD bs p) →
  ∃ v p', p ≤ p' ∧ p' ≤ p + c ∧ R v ∧ Ev Y g (.ptr k 1 0 0 :: args) S v (S.set k (RD bs p'))
section
variable {fid : Nat} {T : Tm} {S : St} {K : Tm → St → Prop} {ops : Array Oper} {l : List Oper} {dst : Option Tmp} {ty : TypeId} {pos : String} {after : Array Edge} {g0 : Option (Nat × Bool)} {bs ix : Nat} {es : List (Nat × (Nat → Prop))} {ns : List (Nat × Nat)}
theorem kD {f : Operand} {args : Array Operand} {ats : Array TypeId} {g c k p : Nat} {S0 L : St} {args' : List HV} {R : HV → Prop} {by' : List UInt8} {o : Ob} (hg : wantG ops g0 T = true := by rfl) (hf : ev T f = .fn g [] := by rfl) (hb : Y.byref g = false := by rfl)
    (ha : mapMS (frzV 0) (args.toList.map (ev T)) (S0.set k o ++ L) = some (.ptr k 1 0 0 :: args', S0.set k o ++ L) := by rfl) (hd : Dr g args' c R) (h0 : ∃ o1, S0[k]? = some o1) (ho : o = RD by' p := by rfl) (hl : by'.length ≤ 2000) (hp : p + c ≤ 100000000)
    (hk : ∀ v p', p ≤ p' → p' ≤ p + c → R v → OW Y fid ops none l (put T dst v) (S0.set k (RD by' p') ++ L) K) : OW Y fid ops none (⟨dst, .call ⟨.value f, args, ats⟩, ty, pos, after, g0⟩ :: l) T (S0.set k o ++ L) K := by
  subst ho
  obtain ⟨o1, h0⟩ := h0
  obtain ⟨v, p', h1, h2, h3, h4⟩ := hd by' p k _ hl hp (get_set h0)
  rw [set_set h0] at h4
  exact k0 hg hf hb ha (by rw [List.append_nil]; exact h4) rfl (by rw [fv_eq]; exact hk v p' h1 h2 h3)
theorem kD' {f : Operand} {args : Array Operand} {ats : Array TypeId} {g c k p : Nat} {S0 L : St} {args' : List HV} {R : HV → Prop} {by' : List UInt8} {o : Ob} (hg : wantG ops g0 T = true := by rfl) (hf : ev T f = .fn g [] := by rfl) (hb : Y.byref g = false := by rfl)
    (ha : mapMS (frzV 0) (args.toList.map (ev T)) (S0.set k o ++ L) = some (.ptr k 1 0 0 :: args', S0.set k o ++ L) := by rfl) (hd : Dr g args' c R) (h0 : ∃ o1, S0[k]? = some o1) (ho : o = RD by' p := by rfl) (hl : by'.length ≤ 2000) (hp : p + c ≤ 100000000) (hn : Nc ops ns ix (fun j => j = k) := by first | exact nc0 | ((repeat' (first | exact nc0 | refine nc1 (by first | assumption | omega) ?_ | refine nc2 (by decide +kernel) ?_)) <;> fail))
    (hk : ∀ v p', p ≤ p' → p' ≤ p + c → R v → DW Y fid ops bs (ix + 1) ((ix, fun j => j = k) :: es) ns l (put T dst v) (S0.set k (RD by' p') ++ L) K) : DW Y fid ops bs ix es ns (⟨dst, .call ⟨.value f, args, ats⟩, ty, pos, after, g0⟩ :: l) T (S0.set k o ++ L) K := by
  subst ho
  obtain ⟨o1, h0⟩ := h0
  obtain ⟨v, p', h1, h2, h3, h4⟩ := hd by' p k _ hl hp (get_set h0)
  exact k2' hg hf hb ha (by rw [List.append_nil]; exact h4) (set_set h0) hn (by rw [fv_eq]; exact hk v p' h1 h2 h3)
end
theorem k_pick' {bs : List UInt8} {p : Nat} {n : Int} {k : Nat} {S : St} (hk : S[k]? = some (RD bs p)) (hb : bs.length ≤ 2000) (hp : p ≤ 100000000) : Ev Y spec_l6Rd_pick [.ptr k 1 0 0, I n] S (I (pickv bs p n)) (S.set k (RD bs (p + 1))) := k_pick hb hp hk
theorem pick_nat (bs : List UInt8) (p : Nat) {n : Nat} (h : 1 ≤ n) : ∃ j : Nat, pickv bs p n = j ∧ j < n := by
  obtain ⟨h1, h2, _⟩ := pickv_bd bs p n
  have := h2 (by omega)
  exact ⟨(pickv bs p n).toNat, by omega, by omega⟩
theorem lit_get (xs : List Int) {j : Nat} (h : j < xs.length) : xs[j]? = some (xs.getD j 0) := by simp [h]
/-- A value out of a cell of one's own, and an old object that is another one. -/
theorem rKC {Y : XVai.Sys} {f : Nat} {fn : Func} {T' : Tm} {S0 S1 L : St} {k : Nat} {o o' o0 : Ob} {v v' : HV} (h0 : S0[k]? = some o0) (hE : ExtK S0 k o S1) (hio : idO S0.length o = true) (hkp : Y.keep f = false := by rfl) {a : Tmp} {t : TypeId} (hres : fn.results.toList = [.cell a t] := by rfl) {ti : TI} (h1 : Y.tab t = some ti := by rfl) {q n i of' : Nat} {fr : Bool} {rows : List (List HV)} {row : List HV}
    (h2 : T' a = .ptr q n i of' := by rfl) (h3 : (S1 ++ L)[q]? = some (.cells fr rows)) (h4 : rows.length = n := by rfl) (h5 : rows[i]? = some row := by rfl) (h6 : XVai.part ti.agg ti.size row of' = some v := by rfl) (hz : ∀ S, frzR S0.length v S = some (v', S) := by exact fun _ => rfl) (hi : idR S0.length v' = true := by rfl) (ho : o = o' := by rfl) : RT Y f fn S0 v' (S0.set k o') .ret T' (S1 ++ L) := by
  refine rKV (vs := [v]) h0 hE hio hkp ?_ hz hi rfl ho
  rw [hres]
  simp only [resVs, resV, cload, h1, getRow, h2, h3, h4, if_true, h5, Option.map_some, h6]

theorem d_l71Label : Dr spec_l71Label [] 2 (fun v => ∃ l, v = .agg (lrow l) ∧ labOk l = true) := by
  intro bs p k S hb hp hk
  obtain ⟨j1, e1, hj1⟩ := pick_nat bs p (n := 9) (by omega)
  obtain ⟨j2, e2, hj2⟩ := pick_nat bs (p + 1) (n := 9) (by omega)
  have g1 := lit_get [7, 7, 3, 5, 6, 1, 2, 4, 0] (j := j1) hj1
  have g2 := lit_get [0, 0, 1, 2, 4, 3, 7, 5, 6] (j := j2) hj2
  refine ⟨_, p + 2, by omega, by omega, ⟨⟨[7, 7, 3, 5, 6, 1, 2, 4, 0].getD j1 0, [0, 0, 1, 2, 4, 3, 7, 5, 6].getD j2 0⟩, rfl, ?_⟩, ?_⟩
  · have a1 : ∀ j ∈ List.range 9, setB ([7, 7, 3, 5, 6, 1, 2, 4, 0].getD j 0) = true := by decide
    have a2 : ∀ j ∈ List.range 9, setB ([0, 0, 1, 2, 4, 3, 7, 5, 6].getD j 0) = true := by decide
    simp only [labOk, a1 j1 (by simpa using hj1), a2 j2 (by simpa using hj2), Bool.and_self]
  · refine E_start (h := ?_)
    repeat' (first | refine c0 ?_ | refine c7 ?_ | refine d2 ?_ | refine d4 ?_ | refine d3' (h := ?_) | refine k2' (he := (by first | exact k_pick' (by first | assumption | exact get_old (by assumption) | exact get_set (by assumption)) hb (by omega))) (hk := ?_) | refine b0 (hk := ?_) | refine b4' (hk := ?_) | refine e5' (hk := ?_))
    refine f8' (h5 := e1) (h6 := map_get (f := irow) g1) (hk := ?_)
    repeat' (first | refine k2' (he := (by first | exact k_pick' (by first | assumption | exact get_old (by assumption) | exact get_set (by assumption)) hb (by omega))) (hk := ?_) | refine b4' (hk := ?_) | refine e5' (hk := ?_) | refine f6' (hk := ?_))
    refine f8' (h5 := e2) (h6 := map_get (f := irow) g2) (hk := ?_)
    repeat' (first | refine c0 ?_ | refine c7 ?_ | refine d2 ?_ | refine c9 ?_ | refine d4 ?_ | refine d4' ?_ | refine b5 (hk := ?_) | refine b7 (hk := ?_) | refine b0' (hk := ?_) | refine b7b (hk := ?_) | refine f6' (hk := ?_) | refine b7' (hk := ?_))
    exact rKC hk xkZ (RD_ok _ _) (h3 := get_setO rfl)

theorem d_l71Val (n : Int) : Dr spec_l71Val [I n] 3 (fun v => ∃ x : Vl, v = .agg (vrow x)) := by
  intro bs p k S hb hp hk
  obtain ⟨j1, e1, hj1⟩ := pick_nat bs p (n := 5) (by omega)
  have e1 : pickv bs p 5 = j1 := e1
  by_cases w0 : j1 = 0
  · subst w0
    refine ⟨_, p + 2, by omega, by omega, ⟨⟨1, pickv bs (p + 1) 10, 0⟩, rfl⟩, ?_⟩
    have q0 : (pickv bs p 5 == 0) = true := by simpa using e1
    refine E_start (h := ?_)
    repeat' (first | refine c0 ?_ | refine c1 ?_ | refine c4 ?_ | refine c7 ?_ | refine d2 ?_ | refine c8 ?_ | refine c9 ?_ | refine d4 ?_ | refine k0 (he := (by first | exact k_pick' (by first | assumption | exact get_old (by assumption) | exact get_set (by assumption)) hb (by omega))) (hk := ?_) | refine b0 (hk := ?_) | refine a5 (hk := ?_) | refine b7 (hk := ?_) | refine u5 (hk := ?_))
    exact rKC hk (by first | exact xkS | exact xkZ) (RD_ok _ _) (h3 := by first | exact get_setO rfl | exact get_own rfl)
  by_cases w1 : j1 = 1 ∨ j1 = 2
  · refine ⟨_, p + 2, by omega, by omega, ⟨⟨2, pickv bs (p + 1) n, 0⟩, rfl⟩, ?_⟩
    have q0 : (pickv bs p 5 == 0) = false := by simp; omega
    refine E_start (h := ?_)
    repeat' (first | refine c0 ?_ | refine c1 ?_ | refine c3 ?_ | refine c4 ?_ | refine c7 ?_ | refine d2 ?_ | refine c8 ?_ | refine c9 ?_ | refine d0 ?_ | refine d4 ?_ | refine k0 (he := (by first | exact k_pick' (by first | assumption | exact get_old (by assumption) | exact get_set (by assumption)) hb (by omega))) (hk := ?_) | refine b0 (hk := ?_) | refine a5 (hk := ?_) | refine b7 (hk := ?_) | (with_reducible intro hc) | refine u5 (hk := ?_) | refine u6 (hk := ?_) | refine d9 (ht := ?_) (hf := ?_))
    · exact rKC hk (by first | exact xkS | exact xkZ) (RD_ok _ _) (h3 := by first | exact get_setO rfl | exact get_own rfl)
    · exact rKC hk (by first | exact xkS | exact xkZ) (RD_ok _ _) (h3 := by first | exact get_setO rfl | exact get_own rfl)
    all_goals (exfalso; simp at *; omega)
  by_cases w3 : j1 = 3
  · refine ⟨_, p + 3, by omega, by omega, ⟨⟨3, pickv bs (p + 1) n, pickv bs (p + 1 + 1) n⟩, rfl⟩, ?_⟩
    have q0 : (pickv bs p 5 == 0) = false := by simp; omega
    have q1 : (pickv bs p 5 == 1) = false := by simp; omega
    have q2 : (pickv bs p 5 == 2) = false := by simp; omega
    have q3 : (pickv bs p 5 == 3) = true := by simp; omega
    refine E_start (h := ?_)
    repeat' (first | refine c0 ?_ | refine c1 ?_ | refine c4 ?_ | refine c7 ?_ | refine d2 ?_ | refine c8 ?_ | refine c9 ?_ | refine d4 ?_ | refine k0 (he := (by first | exact k_pick' (by first | assumption | exact get_old (by assumption) | exact get_set (by assumption)) hb (by omega))) (hk := ?_) | refine b0 (hk := ?_) | refine a5 (hk := ?_) | refine b7 (hk := ?_) | refine u5 (hk := ?_) | refine u6 (hk := ?_))
    exact rKC hk (by first | exact xkS | exact xkZ) (RD_ok _ _) (h3 := by first | exact get_setO rfl | exact get_own rfl)
  · refine ⟨_, p + 3, by omega, by omega, ⟨⟨4, pickv bs (p + 1) n, pickv bs (p + 1 + 1) n⟩, rfl⟩, ?_⟩
    have q0 : (pickv bs p 5 == 0) = false := by simp; omega
    have q1 : (pickv bs p 5 == 1) = false := by simp; omega
    have q2 : (pickv bs p 5 == 2) = false := by simp; omega
    have q3 : (pickv bs p 5 == 3) = false := by simp; omega
    refine E_start (h := ?_)
    repeat' (first | refine c0 ?_ | refine c3 ?_ | refine c7 ?_ | refine d2 ?_ | refine c8 ?_ | refine c9 ?_ | refine d0 ?_ | refine d4 ?_ | refine k0 (he := (by first | exact k_pick' (by first | assumption | exact get_old (by assumption) | exact get_set (by assumption)) hb (by omega))) (hk := ?_) | refine b0 (hk := ?_) | refine a5 (hk := ?_) | refine b7 (hk := ?_) | refine u6 (hk := ?_))
    exact rKC hk (by first | exact xkS | exact xkZ) (RD_ok _ _) (h3 := by first | exact get_setO rfl | exact get_own rfl)
end Go.Proofs.X
end
section
namespace Go.Proofs.X
open Go Go.Proofs.XVai Go.Proofs Go.Proofs.XN
set_option linter.unusedVariables false
set_option linter.unusedSimpArgs false
set_option maxHeartbeats 4000000

/-- A return of which only something is told. -/
structure RTX (Y : XVai.Sys) (f : Nat) (fn : Func) (S : St) (R : HV → St → Prop) (ex : Ex) (T' : Tm) (S1 : St) : Prop where
  of : ∃ v S', RT Y f fn S v S' ex T' S1 ∧ R v S'
theorem E_startR {Y : XVai.Sys} {S : St} {R : HV → St → Prop} {f : Nat} {fn : Func} {c : Code} {args : List HV} (hf : Y.fn f = some fn := by rfl) (hb : fn.body = some c := by rfl) (hl : args.length ≤ fn.ntmps := by exact Nat.le_of_ble_eq_true rfl)
    (h : CW Y f c (tm0 args) (S ++ []) (RTX Y f fn S R)) : EvR Y f args S R := by
  obtain ⟨m, ex, T', S1, h1, h2⟩ := h.of
  obtain ⟨v, S', h3, h4⟩ := h2.of
  exact ⟨v, S', E_start hf hb hl ⟨⟨m, ex, T', S1, h1, h3⟩⟩, h4⟩
theorem Dr_of {g : Nat} {args : List HV} {c : Nat} {R : HV → Prop} (h : ∀ (bs : List UInt8) (p k : Nat) (S : St), bs.length ≤ 2000 → p + c ≤ 100000000 → S[k]? = some (RD bs p) → EvR Y g (.ptr k 1 0 0 :: args) S (fun v S' => ∃ p', p ≤ p' ∧ p' ≤ p + c ∧ R v ∧ S' = S.set k (RD bs p'))) : Dr g args c R := by
  intro bs p k S h1 h2 h3
  obtain ⟨v, S', h4, p', h5, h6, h7, rfl⟩ := h bs p k S h1 h2 h3
  exact ⟨v, p', h5, h6, h7, h4⟩
theorem Stps.app_sz : ∀ a b : Stps, (a.app b).sz = a.sz + b.sz
  | .nil, _ => by simp [Stps.app, Stps.sz]
  | .cons _ _ _ _ _ _ r, b => by simp [Stps.app, Stps.sz, Stps.app_sz r b]; omega
theorem xk3 {S S1 L : St} {k j : Nat} {o o' o2 o0 : Ob} (h0 : S[k]? = some o0) (hE : ExtK S k o S1) (hj : S.length ≤ j) : ExtK S k o' ((S1.set k o').set j o2 ++ L) := by
  obtain ⟨J, rfl⟩ := hE
  have hk : k < S.length := (List.getElem?_eq_some_iff.1 h0).1
  refine ⟨J.set (j - S.length) o2 ++ L, ?_⟩
  rw [List.set_append_left _ _ (by simpa using hk), List.set_set, List.set_append_right _ _ (by simpa using hj), List.append_assoc]
  simp
set_option maxHeartbeats 2000000 in
theorem d_l71Steps (deep c B : Nat) (vars : Int) (ih : deep > 1 → Dr spec_l71Steps [I 2, .int .i64 (IntKind.i64.wrap ((deep : Int) - 1)), I vars] c (fun v => ∃ l : Stps, v = .lst l.rows ∧ l.sz ≤ B)) (most : Nat) (hm : most ≤ 4) (hd : deep ≤ 3) (hc : c ≤ 1000) (hB : B ≤ 1000) :
    Dr spec_l71Steps [I most, I deep, I vars] (1 + most * (6 + 2 * c)) (fun v => ∃ l : Stps, v = .lst l.rows ∧ l.sz ≤ most * (1 + 2 * B)) := by
  refine Dr_of fun bs p k S hb hp hk => ?_
  have hkl : k < S.length := (List.getElem?_eq_some_iff.1 hk).1
  have e0 : IntKind.i64.wrap ((most : Int) + 1) = ((most + 1 : Nat) : Int) := by rw [i64_id (by omega) (by omega)]; simp
  refine E_startR (h := ?_)
  repeat' (first | refine c0 ?_ | refine c7 ?_ | refine d2 ?_ | refine c8 ?_ | refine d4 ?_ | refine k0 (he := (by first | exact k_pick' (by first | assumption | exact get_old (by assumption) | exact get_set (by assumption)) hb (by omega))) (hk := ?_) | refine b3 (hk := ?_) | refine b4 (hk := ?_) | refine a5 (hk := ?_))
  rw [e0]
  obtain ⟨n0, hn0, hn1⟩ := pick_nat bs p (n := most + 1) (by omega)
  rw [hn0]
  refine C_loop (fun n T' S' => ∃ (T0 : Tm) (S1 : St) (l : Stps) (q : Nat), n ≤ most ∧ p ≤ q ∧ q + n * (6 + 2 * c) ≤ p + 1 + most * (6 + 2 * c) ∧ l.sz + n * (1 + 2 * B) ≤ most * (1 + 2 * B) ∧ ExtK S k (RD bs q) S1 ∧ S1[S.length + 1]? = some (.cells true l.rows) ∧
      T' = putL T0 [(0, .ptr k 1 0 0), (2, I deep), (3, I vars), (9, .sl (S.length + 1) l.rows.length), (10, I n)] ∧ S' = S1 ++ []) n0
    ⟨_, _, .nil, p + 1, by omega, by omega, ?_, ?_, xkS, get_setO rfl, at_mk ⟨rfl, rfl, rfl, rfl, rfl, trivial⟩, (List.append_nil _).symm⟩ ?_
  · have := Nat.mul_le_mul_right (6 + 2 * c) (show n0 ≤ most by omega); omega
  · have := Nat.mul_le_mul_right (1 + 2 * B) (show n0 ≤ most by omega); simp [Stps.sz]; omega
  rintro n T' S' ⟨T0, S1, l, q, hnm, hpq, hq, hsz, hE, h0, rfl, rfl⟩
  have hcur := xk_get hk hE
  cases n with
  | zero =>
    have h00 : ¬ ((0 : Nat) : Int) > 0 := by omega
    repeat' (first | refine c0 ?_ | refine c2 ?_ | refine c5 ?_ | refine c7 ?_ | refine d2 ?_ | refine c9 ?_ | refine d1 ?_ | refine d4 ?_ | refine a5 (hk := ?_) | refine d7 (hf := ?_))
    exact ⟨_, _, rKL hk hE (RD_ok _ _) (hL := get_old h0) (hp := l.rows_pure) (hv := rfl), q, hpq, by omega, ⟨l, rfl, by omega⟩, rfl⟩
  | succ n =>
    rw [Nat.succ_mul] at hq hsz
    have h00 : ((n + 1 : Nat) : Int) > 0 := by omega
    have hnk : S.length + 1 ≠ k := by omega
    have h8 := l.rows_eight
    have hll := l.rows_len
    have hls := l.len_sz
    have hbig : most * (1 + 2 * B) ≤ 4 * 2001 := Nat.mul_le_mul hm (by omega)
    have hbig2 : most * (6 + 2 * c) ≤ 4 * 2006 := Nat.mul_le_mul hm (by omega)
    have dec : HV.int .i64 (IntKind.i64.wrap (((n + 1 : Nat) : Int) - 1)) = I n := by rw [i64_id (by omega) (by omega)]; simp
    obtain ⟨j, hj, hj5⟩ := pick_nat bs (q + 1) (n := 5) (by omega)
    have hj : pickv bs (q + 1) 5 = j := hj
    have h8' : ∀ row : List HV, row.length = 8 → (l.rows ++ [row]).all (fun r => r.length == 8) = true := fun row h => all8 h8 (by simp [h])
    by_cases w0 : j = 0
    · have q0 : (pickv bs (q + 1) 5 == 0) = true := by simp; omega
      repeat' (first | refine c0 ?_ | refine c3 ?_ | refine c7 ?_ | refine d2 ?_ | refine c8 ?_ | refine d0 ?_ | refine d4 ?_ | refine k0 (he := (by first | exact k_pick' (by first | assumption | exact get_old (by assumption) | exact get_set (by assumption)) hb (by omega))) (hk := ?_) | refine b0 (hk := ?_) | refine a5 (hk := ?_) | refine b5 (hk := ?_) | refine b7 (hk := ?_) | refine p0 (hk := ?_) | refine d7 (hf := ?_) | refine u5 (hk := ?_) | refine u7 (hk := ?_))
      refine ⟨n, by omega, _, _, l.app (.cons 3 (pickv bs q vars) ⟨0, 0, 0⟩ (pickv bs (q + 1 + 1) 3) .nil .nil .nil), q + 3, by omega, by omega, by omega, ?_, ?_, ?_, at_mk ⟨rfl, rfl, rfl, ?_, dec, trivial⟩, (List.append_nil _).symm⟩
      · simp [Stps.app_sz, Stps.sz]; omega
      · exact xk3 hk hE (Nat.le_add_right _ _)
      · rw [get_set2 h0, Stps.app_rows]; rfl
      · show HV.sl _ _ = _; simp [Stps.app_rows, Stps.rows]
    have q0 : (pickv bs (q + 1) 5 == 0) = false := by simp; omega
    by_cases w1 : (j = 1 ∨ j = 2) ∧ deep > 1
    · obtain ⟨w1, wd⟩ := w1
      have hd1 : (deep : Int) > 1 := by omega
      rcases w1 with rfl | rfl
      · have q1 : (pickv bs (q + 1) 5 == 1) = true := by simp; omega
        repeat' (first | refine c0 ?_ | refine c7 ?_ | refine d2 ?_ | refine c8 ?_ | refine d0 ?_ | refine d4 ?_ | refine k0 (he := (by first | exact k_pick' (by first | assumption | exact get_old (by assumption) | exact get_set (by assumption)) hb (by omega))) (hk := ?_) | refine b0 (hk := ?_) | refine a5 (hk := ?_) | refine b7 (hk := ?_) | refine u5 (hk := ?_) | refine u6 (hk := ?_) | refine u7 (hk := ?_))
        refine kD (hd := ih wd) (h0 := ⟨_, hcur⟩) (hl := hb) (hp := by omega) (hk := ?_)
        rintro v p1 hp1 hp1' ⟨l1, rfl, hl1⟩
        repeat' (first | refine c0 ?_ | refine d2 ?_ | refine d4 ?_ | refine a5 (hk := ?_) | refine b7 (hk := ?_))
        refine kD (hd := ih wd) (h0 := ⟨_, hcur⟩) (hl := hb) (hp := by omega) (hk := ?_)
        rintro v p2 hp2 hp2' ⟨l2, rfl, hl2⟩
        repeat' (first | refine c0 ?_ | refine c3 ?_ | refine c7 ?_ | refine d2 ?_ | refine d0 ?_ | refine d4 ?_ | refine a5 (hk := ?_) | refine b5 (hk := ?_) | refine b7 (hk := ?_) | refine p0 (hk := ?_) | refine d7 (hf := ?_))
        refine ⟨n, by omega, _, _, l.app (.cons 2 (pickv bs q vars) ⟨0, 0, 0⟩ 0 l1 l2 .nil), p2, by omega, by omega, by omega, ?_, ?_, ?_, at_mk ⟨rfl, rfl, rfl, ?_, dec, trivial⟩, (List.append_nil _).symm⟩
        · simp [Stps.app_sz, Stps.sz]; omega
        · exact xk3 hk hE (Nat.le_add_right _ _)
        · rw [get_set2 h0, Stps.app_rows]; rfl
        · show HV.sl _ _ = _; simp [Stps.app_rows, Stps.rows]
      · have q1 : (pickv bs (q + 1) 5 == 1) = false := by simp; omega
        have q2 : (pickv bs (q + 1) 5 == 2) = true := by simp; omega
        repeat' (first | refine c0 ?_ | refine c7 ?_ | refine d2 ?_ | refine c8 ?_ | refine d0 ?_ | refine d4 ?_ | refine k0 (he := (by first | exact k_pick' (by first | assumption | exact get_old (by assumption) | exact get_set (by assumption)) hb (by omega))) (hk := ?_) | refine b0 (hk := ?_) | refine a5 (hk := ?_) | refine b7 (hk := ?_) | refine u5 (hk := ?_) | refine u6 (hk := ?_) | refine u7 (hk := ?_))
        refine kD (hd := ih wd) (h0 := ⟨_, hcur⟩) (hl := hb) (hp := by omega) (hk := ?_)
        rintro v p1 hp1 hp1' ⟨l1, rfl, hl1⟩
        repeat' (first | refine c0 ?_ | refine d2 ?_ | refine d4 ?_ | refine a5 (hk := ?_) | refine b7 (hk := ?_))
        refine kD (hd := ih wd) (h0 := ⟨_, hcur⟩) (hl := hb) (hp := by omega) (hk := ?_)
        rintro v p2 hp2 hp2' ⟨l2, rfl, hl2⟩
        repeat' (first | refine c0 ?_ | refine c3 ?_ | refine c7 ?_ | refine d2 ?_ | refine d0 ?_ | refine d4 ?_ | refine a5 (hk := ?_) | refine b5 (hk := ?_) | refine b7 (hk := ?_) | refine p0 (hk := ?_) | refine d7 (hf := ?_))
        refine ⟨n, by omega, _, _, l.app (.cons 2 (pickv bs q vars) ⟨0, 0, 0⟩ 0 l1 l2 .nil), p2, by omega, by omega, by omega, ?_, ?_, ?_, at_mk ⟨rfl, rfl, rfl, ?_, dec, trivial⟩, (List.append_nil _).symm⟩
        · simp [Stps.app_sz, Stps.sz]; omega
        · exact xk3 hk hE (Nat.le_add_right _ _)
        · rw [get_set2 h0, Stps.app_rows]; rfl
        · show HV.sl _ _ = _; simp [Stps.app_rows, Stps.rows]
    have w2 : (j = 1 ∨ j = 2) → ¬ (deep : Int) > 1 := fun h hd => w1 ⟨h, by omega⟩
    by_cases w3 : j = 1
    · have q1 : (pickv bs (q + 1) 5 == 1) = true := by simp; omega
      have hd1 := w2 (.inl w3)
      repeat' (first | refine c0 ?_ | refine c3 ?_ | refine c7 ?_ | refine d2 ?_ | refine c8 ?_ | refine d0 ?_ | refine d4 ?_ | refine k0 (he := (by first | exact k_pick' (by first | assumption | exact get_old (by assumption) | exact get_set (by assumption)) hb (by omega))) (hk := ?_) | refine b0 (hk := ?_) | refine a5 (hk := ?_) | refine b5 (hk := ?_) | refine b7 (hk := ?_) | refine d6 (ht := ?_) | refine u5 (hk := ?_) | refine u6 (hk := ?_) | refine u7 (hk := ?_) | refine u8 (hk := ?_))
      refine kD (hd := d_l71Val vars) (h0 := ⟨_, hcur⟩) (hl := hb) (hp := by omega) (hk := ?_)
      rintro v p1 hp1 hp1' ⟨x, rfl⟩
      repeat' (first | refine c0 ?_ | refine c3 ?_ | refine d2 ?_ | refine d4 ?_ | refine a5 (hk := ?_) | refine b5 (hk := ?_) | refine b7 (hk := ?_) | refine p0 (hk := ?_))
      refine ⟨n, by omega, _, _, l.app (.cons 1 (pickv bs q vars) x 0 .nil .nil .nil), p1, by omega, by omega, by omega, ?_, ?_, ?_, at_mk ⟨rfl, rfl, rfl, ?_, dec, trivial⟩, (List.append_nil _).symm⟩
      · simp [Stps.app_sz, Stps.sz]; omega
      · exact xk3 hk hE (Nat.le_add_right _ _)
      · rw [get_set2 h0, Stps.app_rows]; rfl
      · show HV.sl _ _ = _; simp [Stps.app_rows, Stps.rows]
    have q1 : (pickv bs (q + 1) 5 == 1) = false := by simp; omega
    by_cases w4 : j = 2
    · have q2 : (pickv bs (q + 1) 5 == 2) = true := by simp; omega
      have hd1 := w2 (.inr w4)
      repeat' (first | refine c0 ?_ | refine c3 ?_ | refine c7 ?_ | refine d2 ?_ | refine c8 ?_ | refine d0 ?_ | refine d4 ?_ | refine k0 (he := (by first | exact k_pick' (by first | assumption | exact get_old (by assumption) | exact get_set (by assumption)) hb (by omega))) (hk := ?_) | refine b0 (hk := ?_) | refine a5 (hk := ?_) | refine b5 (hk := ?_) | refine b7 (hk := ?_) | refine d6 (ht := ?_) | refine u5 (hk := ?_) | refine u6 (hk := ?_) | refine u7 (hk := ?_) | refine u8 (hk := ?_))
      refine kD (hd := d_l71Val vars) (h0 := ⟨_, hcur⟩) (hl := hb) (hp := by omega) (hk := ?_)
      rintro v p1 hp1 hp1' ⟨x, rfl⟩
      repeat' (first | refine c0 ?_ | refine c3 ?_ | refine d2 ?_ | refine d4 ?_ | refine a5 (hk := ?_) | refine b5 (hk := ?_) | refine b7 (hk := ?_) | refine p0 (hk := ?_))
      refine ⟨n, by omega, _, _, l.app (.cons 1 (pickv bs q vars) x 0 .nil .nil .nil), p1, by omega, by omega, by omega, ?_, ?_, ?_, at_mk ⟨rfl, rfl, rfl, ?_, dec, trivial⟩, (List.append_nil _).symm⟩
      · simp [Stps.app_sz, Stps.sz]; omega
      · exact xk3 hk hE (Nat.le_add_right _ _)
      · rw [get_set2 h0, Stps.app_rows]; rfl
      · show HV.sl _ _ = _; simp [Stps.app_rows, Stps.rows]
    have q2 : (pickv bs (q + 1) 5 == 2) = false := by simp; omega
    repeat' (first | refine c0 ?_ | refine c3 ?_ | refine c7 ?_ | refine d2 ?_ | refine c8 ?_ | refine d0 ?_ | refine d4 ?_ | refine k0 (he := (by first | exact k_pick' (by first | assumption | exact get_old (by assumption) | exact get_set (by assumption)) hb (by omega))) (hk := ?_) | refine b0 (hk := ?_) | refine a5 (hk := ?_) | refine b5 (hk := ?_) | refine b7 (hk := ?_) | refine d6 (ht := ?_) | refine u6 (hk := ?_) | refine u7 (hk := ?_))
    refine kD (hd := d_l71Val vars) (h0 := ⟨_, hcur⟩) (hl := hb) (hp := by omega) (hk := ?_)
    rintro v p1 hp1 hp1' ⟨x, rfl⟩
    repeat' (first | refine c0 ?_ | refine c3 ?_ | refine d2 ?_ | refine d4 ?_ | refine a5 (hk := ?_) | refine b5 (hk := ?_) | refine b7 (hk := ?_) | refine p0 (hk := ?_))
    refine ⟨n, by omega, _, _, l.app (.cons 1 (pickv bs q vars) x 0 .nil .nil .nil), p1, by omega, by omega, by omega, ?_, ?_, ?_, at_mk ⟨rfl, rfl, rfl, ?_, dec, trivial⟩, (List.append_nil _).symm⟩
    · simp [Stps.app_sz, Stps.sz]; omega
    · exact xk3 hk hE (Nat.le_add_right _ _)
    · rw [get_set2 h0, Stps.app_rows]; rfl
    · show HV.sl _ _ = _; simp [Stps.app_rows, Stps.rows]
end Go.Proofs.X
end
section
namespace Go.Proofs.X
open Go Go.Proofs.XVai Go.Proofs Go.Proofs.XN
set_option linter.unusedVariables false
set_option linter.unusedSimpArgs false
set_option maxHeartbeats 4000000
set_option maxRecDepth 10000

section
variable {fid : Nat} {T : Tm} {S : St} {K : Tm → St → Prop} {ops : Array Oper} {l : List Oper} {dst : Option Tmp} {ty : TypeId} {pos : String} {after : Array Edge} {g0 : Option (Nat × Bool)} {bs ix : Nat} {es : List (Nat × (Nat → Prop))} {ns : List (Nat × Nat)}
theorem kE {f : Operand} {args : Array Operand} {ats : Array TypeId} {g c k p : Nat} {S0 L : St} {args' : List HV} {R : HV → Prop} {by' : List UInt8} (hg : wantG ops g0 T = true := by rfl) (hf : ev T f = .fn g [] := by rfl) (hb : Y.byref g = false := by rfl)
    (ha : mapMS (frzV 0) (args.toList.map (ev T)) (S0 ++ L) = some (.ptr k 1 0 0 :: args', S0 ++ L) := by rfl) (hd : Dr g args' c R) (h0 : S0[k]? = some (RD by' p)) (hl : by'.length ≤ 2000) (hp : p + c ≤ 100000000)
    (hk : ∀ v p', p ≤ p' → p' ≤ p + c → R v → OW Y fid ops none l (put T dst v) (S0.set k (RD by' p') ++ L) K) : OW Y fid ops none (⟨dst, .call ⟨.value f, args, ats⟩, ty, pos, after, g0⟩ :: l) T (S0 ++ L) K := by
  obtain ⟨v, p', h1, h2, h3, h4⟩ := hd by' p k _ hl hp (get_old h0)
  rw [set_old h0] at h4
  exact k0 hg hf hb ha (by rw [List.append_nil]; exact h4) rfl (by rw [fv_eq]; exact hk v p' h1 h2 h3)
theorem kE' {f : Operand} {args : Array Operand} {ats : Array TypeId} {g c k p : Nat} {S0 L : St} {args' : List HV} {R : HV → Prop} {by' : List UInt8} (hg : wantG ops g0 T = true := by rfl) (hf : ev T f = .fn g [] := by rfl) (hb : Y.byref g = false := by rfl)
    (ha : mapMS (frzV 0) (args.toList.map (ev T)) (S0 ++ L) = some (.ptr k 1 0 0 :: args', S0 ++ L) := by rfl) (hd : Dr g args' c R) (h0 : S0[k]? = some (RD by' p)) (hl : by'.length ≤ 2000) (hp : p + c ≤ 100000000) (hn : Nc ops ns ix (fun j => j = k) := by first | exact nc0 | ((repeat' (first | exact nc0 | refine nc1 (by first | assumption | omega) ?_ | refine nc2 (by decide +kernel) ?_)) <;> fail))
    (hk : ∀ v p', p ≤ p' → p' ≤ p + c → R v → DW Y fid ops bs (ix + 1) ((ix, fun j => j = k) :: es) ns l (put T dst v) (S0.set k (RD by' p') ++ L) K) : DW Y fid ops bs ix es ns (⟨dst, .call ⟨.value f, args, ats⟩, ty, pos, after, g0⟩ :: l) T (S0 ++ L) K := by
  obtain ⟨v, p', h1, h2, h3, h4⟩ := hd by' p k _ hl hp (get_old h0)
  exact k2' hg hf hb ha (by rw [List.append_nil]; exact h4) (set_old h0) hn (by rw [fv_eq]; exact hk v p' h1 h2 h3)
end
theorem setN {S : St} {k j : Nat} {o o' : Ob} (hj : j ≠ k) (h : S[j]? = some o') : (S.set k o)[j]? = some o' := by rw [List.getElem?_set_ne (Ne.symm hj)]; exact h
theorem setE {S : St} {k : Nat} {o o' : Ob} (h : S[k]? = some o') : (S.set k o)[k]? = some o := by
  have := get_set (L := []) (o := o) h
  simpa using this
theorem xk4 {S S1 : St} {k j : Nat} {o o2 o0 : Ob} (h0 : S[k]? = some o0) (hE : ExtK S k o S1) (hj : S.length ≤ j) : ExtK S k o (S1.set j o2) := by
  obtain ⟨J, rfl⟩ := hE
  refine ⟨J.set (j - S.length) o2, ?_⟩
  rw [List.set_append_right _ _ (by simpa using hj)]
  simp
theorem xk5 {S S1 : St} {k : Nat} {o o' o0 : Ob} (h0 : S[k]? = some o0) (hE : ExtK S k o S1) : ExtK S k o' (S1.set k o') := by
  have := xk1 (o' := o') (L := []) h0 hE
  simpa using this
theorem frzR_agg {n0 : Nat} {S : St} {cs cs' : List HV} (h : mapMS (frzC n0 6) cs S = some (cs', S)) : frzR n0 (.agg cs) S = some (.agg cs', S) := by
  simp only [frzR, frzV, h]
/-- The same as rKC, with what the state holds. -/
theorem rKC2 {Y : XVai.Sys} {f : Nat} {fn : Func} {T' : Tm} {S0 S1 L : St} {k : Nat} {o o' o0 : Ob} {v v' : HV} (h0 : S0[k]? = some o0) (hE : ExtK S0 k o S1) (hio : idO S0.length o = true) (hkp : Y.keep f = false := by rfl) {a : Tmp} {t : TypeId} (hres : fn.results.toList = [.cell a t] := by rfl) {ti : TI} (h1 : Y.tab t = some ti := by rfl) {q n i of' : Nat} {fr : Bool} {rows : List (List HV)} {row : List HV}
    (h2 : T' a = .ptr q n i of' := by rfl) (h3 : (S1 ++ L)[q]? = some (.cells fr rows)) (h4 : rows.length = n := by rfl) (h5 : rows[i]? = some row := by rfl) (h6 : XVai.part ti.agg ti.size row of' = some v := by rfl) (hz : frzR S0.length v (S1 ++ L) = some (v', S1 ++ L)) (hi : idR S0.length v' = true := by rfl) (ho : o = o' := by rfl) : RT Y f fn S0 v' (S0.set k o') .ret T' (S1 ++ L) := by
  subst ho
  obtain ⟨J, rfl⟩ := hE
  have hr : resVs Y T' (S0.set k o ++ J ++ L) fn.results.toList = some [v] := by
    rw [hres]
    simp only [resVs, resV, cload, h1, getRow, h2, h3, h4, if_true, h5, Option.map_some, h6]
  rw [List.append_assoc] at hr hz ⊢
  exact rS hkp hr hz hi rfl (by simp) (rS1 (o := o) h0 hio)
theorem d_steps1 (vars : Int) : Dr spec_l71Steps [I 2, I 1, I vars] 13 (fun v => ∃ l : Stps, v = .lst l.rows ∧ l.sz ≤ 2) :=
  d_l71Steps 1 0 0 vars (fun h => absurd h (by omega)) 2 (by omega) (by omega) (by omega) (by omega)
theorem d_steps2 (vars : Int) : Dr spec_l71Steps [I 2, I 2, I vars] 65 (fun v => ∃ l : Stps, v = .lst l.rows ∧ l.sz ≤ 10) :=
  d_l71Steps 2 13 2 vars (fun _ => d_steps1 vars) 2 (by omega) (by omega) (by omega) (by omega)
theorem d_steps3 (vars : Int) : Dr spec_l71Steps [I 4, I 3, I vars] 545 (fun v => ∃ l : Stps, v = .lst l.rows ∧ l.sz ≤ 84) :=
  d_l71Steps 3 65 10 vars (fun _ => d_steps2 vars) 4 (by omega) (by omega) (by omega) (by omega)
set_option maxHeartbeats 2000000 in
theorem d_l71Prog : Dr spec_l71Prog [] 12000 (fun v => ∃ ls ss, v = PR ls ss ∧ progOk ls ss = true ∧ 1 ≤ ls.length) := by
  refine Dr_of fun bs p k S hb hp hk => ?_
  have hkl : k < S.length := (List.getElem?_eq_some_iff.1 hk).1
  refine E_startR (h := ?_)
  repeat' (first | refine c0 ?_ | refine c7 ?_ | refine d2 ?_ | refine c8 ?_ | refine d4 ?_ | refine b0 (hk := ?_) | refine a5 (hk := ?_))
  refine C_loop (fun m T' S' => ∃ (T0 : Tm) (S1 : St) (i q : Nat), i + m = 20 ∧ p ≤ q ∧ q + m * 600 ≤ p + 12000 ∧ ExtK S k (RD bs q) S1 ∧ (∃ z y, S1[S.length + 0]? = some (.cells false [[z, y]])) ∧
      T' = putL T0 [(0, .ptr k 1 0 0), (2, .ptr (S.length + 0) 1 0 0), (3, I i)] ∧ S' = S1 ++ []) 20
    ⟨_, _, 0, p, by omega, by omega, by omega, xk0 hk, ⟨_, _, get_own rfl⟩, at_mk ⟨rfl, rfl, rfl, trivial⟩, (List.append_nil _).symm⟩ ?_
  rintro m T' S' ⟨T0, S1, i, q, hi, hpq, hq, hE, ⟨z, y, h0⟩, rfl, rfl⟩
  have hcur := xk_get hk hE
  have hkl1 : k < S1.length := (List.getElem?_eq_some_iff.1 hcur).1
  have hS1 : S.length ≤ S1.length := by obtain ⟨J, rfl⟩ := hE; simp
  have hS0 : S.length + 0 < S1.length := (List.getElem?_eq_some_iff.1 h0).1
  cases m with
  | zero =>
    have hc0 : ¬ ((i : Int) < 20) := by omega
    repeat' (first | refine c0 ?_ | refine c2 ?_ | refine c5 ?_ | refine c7 ?_ | refine d2 ?_ | refine c9 ?_ | refine d1 ?_ | refine d4 ?_ | refine a5 (hk := ?_) | refine b7 (hk := ?_) | refine u8 (hk := ?_))
    exact ⟨_, _, rKC hk (xk4 hk hE (Nat.le_add_right _ _)) (RD_ok _ _) (h3 := get_set h0), q, hpq, by omega, ⟨[⟨7, 0⟩], .nil, rfl, by decide, by simp⟩, rfl⟩
  | succ m =>
    have hc0 : (i : Int) < 20 := by omega
    rw [Nat.succ_mul] at hq
    repeat' (first | refine c0 ?_ | refine c7 ?_ | refine d2 ?_ | refine c8 ?_ | refine d0 ?_ | refine d4 ?_ | refine k0 (he := (by first | exact k_pick' (by first | assumption | exact get_old (by assumption) | exact get_set (by assumption)) hb (by omega))) (hk := ?_) | refine b0 (hk := ?_) | refine b4 (hk := ?_) | refine a5 (hk := ?_) | refine b7 (hk := ?_) | refine u7 (hk := ?_))
    obtain ⟨n0, hn0, hn1⟩ := pick_nat bs q (n := 4) (by omega)
    have hn0 : pickv bs q 4 = n0 := hn0
    rw [hn0, show IntKind.i64.wrap (1 + (n0 : Int)) = ((n0 + 1 : Nat) : Int) by rw [i64_id (by omega) (by omega)]; omega]
    have hbk : S1.length + 1 ≠ k := by omega
    have hak : S1.length + 0 ≠ k := by omega
    have hab : S1.length + 0 ≠ S1.length + 1 := by omega
    have hba : S1.length + 1 ≠ S1.length + 0 := by omega
    have h0k : S.length + 0 ≠ k := by omega
    have h0a : S.length + 0 ≠ S1.length + 0 := by omega
    have h0b : S.length + 0 ≠ S1.length + 1 := by omega
    refine C_loop (fun n T' S' => ∃ (T0 : Tm) (S2 : St) (ls : List Lab) (q2 : Nat), q ≤ q2 ∧ q2 + n * 2 ≤ q + 9 ∧ ls.length + n = n0 + 1 ∧ ExtK S k (RD bs q2) S2 ∧ (∃ z y, S2[S.length + 0]? = some (.cells false [[z, y]])) ∧
        S2[S1.length + 0]? = some (.cells true (ls.map lrow)) ∧ S2[S1.length + 1]? = some (.cells false [[.sl (S1.length + 0) ls.length, .nils]]) ∧
        T' = putL T0 [(0, .ptr k 1 0 0), (2, .ptr (S.length + 0) 1 0 0), (3, I i), (4, .ptr (S1.length + 1) 1 0 0), (5, I n)] ∧ S' = S2 ++ []) (n0 + 1)
      ⟨_, _, [], q + 1, by omega, by omega, by simp, xk1 hk hE, ⟨z, y, get_setN h0k h0⟩, get_setO rfl, get_setO rfl, at_mk ⟨rfl, rfl, rfl, rfl, rfl, trivial⟩, (List.append_nil _).symm⟩ ?_
    rintro n T' S' ⟨T0, S2, ls, q2, hq2, hq2', hls, hE2, ⟨z', y', f0⟩, fa, fb, rfl, rfl⟩
    have hcur2 := xk_get hk hE2
    have ha2 := lrow2 ls
    have han : (ls.map lrow).length = ls.length := by simp
    cases n with
    | zero =>
      have h00 : ¬ ((0 : Nat) : Int) > 0 := by omega
      repeat' (first | refine c0 ?_ | refine c2 ?_ | refine c5 ?_ | refine c7 ?_ | refine d2 ?_ | refine d1 ?_ | refine d4 ?_ | refine a5 (hk := ?_) | refine b5 (hk := ?_) | refine d7 (hf := ?_))
      refine kE (hd := d_steps3 _) (h0 := hcur2) (hl := hb) (hp := by omega) (hk := ?_)
      rintro v p' hp1 hp2 ⟨ss, rfl, hss⟩
      have f0' := setN (o := RD bs p') h0k f0
      have fa' := setN (o := RD bs p') hak fa
      have fb' := setN (o := RD bs p') hbk fb
      have hpu := lrow_pure ls
      repeat' (first | refine c0 ?_ | refine c7 ?_ | refine d2 ?_ | refine d4 ?_ | refine a5 (hk := ?_) | refine b5 (hk := ?_) | refine b7 (hk := ?_))
      refine k0 (ha := fm1 (fzV_agg rfl (fm1 (fz_sl rfl (Nat.zero_le _) (get_setN hab fa') han hpu) (fm1 rfl fm0))) fm0) (he := k_spec_ProgOk ls ss _ (by omega) (by omega)) (hk := ?_)
      repeat' (first | refine c0 ?_ | refine c1 ?_ | refine c3 ?_ | refine c4 ?_ | refine c7 ?_ | refine d2 ?_ | refine c9 ?_ | refine d0 ?_ | refine d4 ?_ | refine a5 (hk := ?_) | refine b5 (hk := ?_) | refine b7 (hk := ?_) | (with_reducible intro hc) | refine d9 (ht := ?_) (hf := ?_))
      · refine ⟨_, _, rKC2 hk (xk4 hk (xk4 hk (xk5 hk hE2) (by omega)) (Nat.le_add_right _ _)) (RD_ok _ _) (h3 := get_set (setN h0b f0')) (hz := frzR_agg (fm1 (fz_sl rfl (by omega) (get_setN (Ne.symm h0a) (setN hab fa')) han hpu) (fm1 rfl fm0))) (hi := rfl), p', by omega, by omega, ⟨ls, ss, rfl, hc, by omega⟩, rfl⟩
      · refine ⟨m, by omega, _, _, i + 1, p', by omega, by omega, by omega, xk2 (xk4 hk (xk5 hk hE2) (by omega)), ⟨z', y', get_setN h0b f0'⟩, at_mk ⟨rfl, rfl, ?_, trivial⟩, (List.append_nil _).symm⟩
        show HV.int _ _ = _
        rw [i64_id (by omega) (by omega)]; simp
    | succ n =>
      have h00 : ((n + 1 : Nat) : Int) > 0 := by omega
      have dec : HV.int .i64 (IntKind.i64.wrap (((n + 1 : Nat) : Int) - 1)) = I n := by rw [i64_id (by omega) (by omega)]; simp
      repeat' (first | refine c0 ?_ | refine c7 ?_ | refine d2 ?_ | refine c8 ?_ | refine d0 ?_ | refine d4 ?_ | refine d3' (h := ?_) | refine a5 (hk := ?_) | refine e5' (hk := ?_) | refine f5' (hk := ?_) | refine u7 (hk := ?_))
      refine kE' (hd := d_l71Label) (h0 := hcur2) (hl := hb) (hp := by omega) (hk := ?_)
      rintro v p' hp1 hp2 ⟨lab, rfl, hlab⟩
      have f0' := setN (o := RD bs p') h0k f0
      have fa' := setN (o := RD bs p') hak fa
      have fb' := setN (o := RD bs p') hbk fb
      repeat' (first | refine c0 ?_ | refine c3 ?_ | refine d2 ?_ | refine d4 ?_ | refine d4' ?_ | refine a5 (hk := ?_) | refine b4' (hk := ?_) | refine e5' (hk := ?_) | refine b7' (hk := ?_) | refine p0' (hk := ?_))
      refine ⟨n, by omega, _, _, ls ++ [lab], p', by omega, by omega, by simp; omega, xk2 (xk4 hk (xk4 hk (xk5 hk hE2) (by omega)) (by omega)), ⟨z', y', get_setN h0b (setN h0a f0')⟩, ?_, ?_, at_mk ⟨rfl, rfl, rfl, rfl, dec, trivial⟩, (List.append_nil _).symm⟩
      · rw [get_setN hab (setE fa'), List.map_append]; rfl
      · rw [get_set (setN hba fb')]; simp; rfl
end Go.Proofs.X
end
section
namespace Go.Proofs.X
open Go Go.Proofs.XVai Go.Proofs Go.Proofs.XN
set_option linter.unusedVariables false
set_option linter.unusedSimpArgs false
set_option maxHeartbeats 4000000

def without : Stps → Int → Stps
  | .nil, _ => .nil
  | .cons k v x h t e r, n => if n = 0 then without r (-1) else
      if 0 < n ∧ n < 1 + t.sz + e.sz then (if n - 1 < t.sz then .cons k v x h (without t (n - 1)) e (without r (-1)) else .cons k v x h t (without e (n - 1 - t.sz)) (without r (-1)))
      else if n ≥ 1 + t.sz + e.sz then .cons k v x h t e (without r (n - (1 + t.sz + e.sz))) else .cons k v x h t e (without r n)
theorem without_sz : ∀ (l : Stps) (n : Int), (without l n).sz ≤ l.sz
  | .nil, _ => Nat.le_refl _
  | .cons k v x h t e r, n => by
    have := without_sz t (n - 1)
    have := without_sz e (n - 1 - t.sz)
    have := without_sz r (-1)
    have := without_sz r n
    have := without_sz r (n - (1 + t.sz + e.sz))
    simp only [without]
    repeat' split
    all_goals simp only [Stps.sz]; omega
theorem k_spec_l71Without (N : Nat) : ∀ (l : Stps) (n : Int) (S : St), l.sz ≤ N → l.sz ≤ 1048576 → -1 ≤ n → n ≤ 1048576 → Ev Y spec_l71Without [.lst l.rows, I n] S (.lst (without l n).rows) S := by
  induction N with
  | zero =>
    intro l n S h _ _ _
    cases l with
    | cons => simp [Stps.sz] at h
    | nil =>
      refine E_start (h := ?_)
      repeat' (first | refine c0 ?_ | refine c7 ?_ | refine d2 ?_ | refine c8 ?_ | refine d4 ?_ | refine b3 (hk := ?_) | refine b4 (hk := ?_) | refine a5 (hk := ?_))
      refine d5 ?_
      repeat' (first | refine c0 ?_ | refine c2 ?_ | refine c5 ?_ | refine c7 ?_ | refine d2 ?_ | refine c9 ?_ | refine d1 ?_ | refine d4 ?_ | refine a5 (hk := ?_) | refine d7 (hf := ?_))
      exact rL (hp := rfl) (hv := rfl)
  | succ N ih =>
    intro l n S h hb hn0 hn1
    refine E_start (h := ?_)
    repeat' (first | refine c0 ?_ | refine c7 ?_ | refine d2 ?_ | refine c8 ?_ | refine d4 ?_ | refine b3 (hk := ?_) | refine b4 (hk := ?_) | refine a5 (hk := ?_))
    refine C_stps l (fun pre r T' S' => ∃ (T0 : Tm) (S1 : St) (d : Stps) (n' : Int), without l n = d.app (without r n') ∧ -1 ≤ n' ∧ n' ≤ 1048576 ∧ d.len ≤ pre.length ∧ Ext S S1 ∧ S1[S.length + 1]? = some (.cells true d.rows) ∧
        T' = putL T0 [(0, .lst l.rows), (1, I n'), (5, .sl (S.length + 1) d.rows.length), (6, I pre.length)] ∧ S' = S1 ++ [])
      ⟨_, _, .nil, n, rfl, hn0, hn1, by simp [Stps.len], ex0, get_own rfl, at_mk ⟨rfl, rfl, rfl, rfl, trivial⟩, (List.append_nil _).symm⟩ ?_ ?_
    · rintro pre k v x hh t e r T' S' hl hz ⟨T0, S1, d, n', hq, hn0, hn1, hdl, hE, h0, rfl, rfl⟩
      have hg := mid hl
      have hp := mid_lt hl
      have hll := l.rows_len
      have hls := l.len_sz
      have h8 := d.rows_eight
      have hdr := d.rows_len
      simp only [without] at hq
      by_cases w0 : n' = 0
      · subst w0
        rw [if_pos rfl] at hq
        have hlt : (pre.length : Int) < (l.rows.length : Int) := by omega
        repeat' (first | refine c0 ?_ | refine c2 ?_ | refine c5 ?_ | refine c7 ?_ | refine d2 ?_ | refine c8 ?_ | refine d0 ?_ | refine d1 ?_ | refine d4 ?_ | refine b0 (hk := ?_) | refine a5 (hk := ?_) | refine b6 (hk := ?_) | refine b8 (hk := ?_) | refine b7 (hk := ?_) | refine d6 (ht := ?_) | refine u7 (hk := ?_))
        exact ⟨_, _, d, -1, hq, by omega, by omega, by simp; omega, ex1 hE, get_old h0, at_mk ⟨rfl, rfl, rfl, inc (by omega), trivial⟩, (List.append_nil _).symm⟩
      rw [if_neg w0] at hq
      have q0 : (n' == 0) = false := by simpa using w0
      have hlt : (pre.length : Int) < (l.rows.length : Int) := by omega
      have s1 : IntKind.i64.wrap (1 + (t.sz : Int)) = 1 + t.sz := i64_id (by omega) (by omega)
      have s2 : IntKind.i64.wrap (1 + (t.sz : Int) + e.sz) = 1 + t.sz + e.sz := i64_id (by omega) (by omega)
      have s3 : IntKind.i64.wrap (n' - 1) = n' - 1 := i64_id (by omega) (by omega)
      by_cases wA : 0 < n' ∧ n' < 1 + t.sz + e.sz
      · rw [if_pos wA] at hq
        have hA1 : n' > 0 := wA.1
        have hA2 : n' < IntKind.i64.wrap (IntKind.i64.wrap (1 + (t.sz : Int)) + e.sz) := by rw [s1, s2]; exact wA.2
        by_cases wB : n' - 1 < t.sz
        · rw [if_pos wB] at hq
          have hA3 : IntKind.i64.wrap (n' - 1) < (t.sz : Int) := by rw [s3]; exact wB
          have ihT : ∀ S, Ev Y spec_l71Without [.lst t.rows, .int .i64 (IntKind.i64.wrap (n' - 1))] S (.lst (without t (n' - 1)).rows) S := fun S => by rw [s3]; exact ih t _ S (by omega) (by omega) (by omega) (by omega)
          repeat' (first | refine c0 ?_ | refine c3 ?_ | refine c7 ?_ | refine d2 ?_ | refine c8 ?_ | refine d0 ?_ | refine d4 ?_ | refine d3' (h := ?_) | refine d4' ?_ | refine k0 (he := (by first | exact k_spec_l2Count' _ _ (by omega) | exact ihT _)) (hk := ?_) | refine k0' (he := (by first | exact k_spec_l2Count' _ _ (by omega) | exact ihT _)) (hk := ?_) | refine b0 (hk := ?_) | refine u3 (hk := ?_) | refine a5 (hk := ?_) | refine b5 (hk := ?_) | refine b6 (hk := ?_) | refine b8 (hk := ?_) | refine b7 (hk := ?_) | refine p0 (hk := ?_) | refine e5' (hk := ?_) | refine f5' (hk := ?_) | refine u6 (hk := ?_) | refine u7 (hk := ?_))
          refine ⟨_, _, d.app (.cons k v x hh (without t (n' - 1)) e .nil), -1, by rw [hq, Stps.app_assoc]; rfl, by omega, by omega, by simp [Stps.app_len, Stps.len]; omega, ex1 (ex2 hE (Nat.le_add_right _ _)), ?_, at_mk ⟨rfl, rfl, ?_, inc (by omega), trivial⟩, (List.append_nil _).symm⟩
          · rw [get_set h0, Stps.app_rows]; rfl
          · show HV.sl _ _ = _; simp [Stps.app_rows, Stps.rows]
        · rw [if_neg wB] at hq
          have hA3 : ¬ IntKind.i64.wrap (n' - 1) < (t.sz : Int) := by rw [s3]; exact wB
          have ihE : ∀ S, Ev Y spec_l71Without [.lst e.rows, .int .i64 (IntKind.i64.wrap (IntKind.i64.wrap (n' - 1) - t.sz))] S (.lst (without e (n' - 1 - t.sz)).rows) S := fun S => by
            rw [s3, i64_id (n := n' - 1 - t.sz) (by omega) (by omega)]; exact ih e _ S (by omega) (by omega) (by omega) (by omega)
          repeat' (first | refine c0 ?_ | refine c3 ?_ | refine c7 ?_ | refine d2 ?_ | refine c8 ?_ | refine d0 ?_ | refine d4 ?_ | refine d3' (h := ?_) | refine d4' ?_ | refine k0 (he := (by first | exact k_spec_l2Count' _ _ (by omega) | exact ihE _)) (hk := ?_) | refine k0' (he := (by first | exact k_spec_l2Count' _ _ (by omega) | exact ihE _)) (hk := ?_) | refine b0 (hk := ?_) | refine u3 (hk := ?_) | refine a5 (hk := ?_) | refine b5 (hk := ?_) | refine b6 (hk := ?_) | refine b8 (hk := ?_) | refine b7 (hk := ?_) | refine p0 (hk := ?_) | refine e5' (hk := ?_) | refine f5' (hk := ?_) | refine u6 (hk := ?_) | refine u7 (hk := ?_) | refine u8 (hk := ?_))
          refine ⟨_, _, d.app (.cons k v x hh t (without e (n' - 1 - t.sz)) .nil), -1, by rw [hq, Stps.app_assoc]; rfl, by omega, by omega, by simp [Stps.app_len, Stps.len]; omega, ex1 (ex2 hE (Nat.le_add_right _ _)), ?_, at_mk ⟨rfl, rfl, ?_, inc (by omega), trivial⟩, (List.append_nil _).symm⟩
          · rw [get_set h0, Stps.app_rows]; rfl
          · show HV.sl _ _ = _; simp [Stps.app_rows, Stps.rows]
      · rw [if_neg wA] at hq
        by_cases wB : n' ≥ 1 + t.sz + e.sz
        · rw [if_pos wB] at hq
          have hA1 : n' > 0 := by omega
          have hA2 : ¬ n' < IntKind.i64.wrap (IntKind.i64.wrap (1 + (t.sz : Int)) + e.sz) := by rw [s1, s2]; omega
          have hA3 : n' ≥ IntKind.i64.wrap (IntKind.i64.wrap (1 + (t.sz : Int)) + e.sz) := by rw [s1, s2]; omega
          have s4 : IntKind.i64.wrap (n' - IntKind.i64.wrap (IntKind.i64.wrap (1 + (t.sz : Int)) + e.sz)) = n' - (1 + t.sz + e.sz) := by rw [s1, s2]; exact i64_id (by omega) (by omega)
          repeat' (first | refine c0 ?_ | refine c3 ?_ | refine c7 ?_ | refine d2 ?_ | refine c8 ?_ | refine d0 ?_ | refine d4 ?_ | refine d3' (h := ?_) | refine d4' ?_ | refine k0' (he := (by first | exact k_spec_l2Count' _ _ (by omega))) (hk := ?_) | refine b0 (hk := ?_) | refine u3 (hk := ?_) | refine a5 (hk := ?_) | refine b5 (hk := ?_) | refine b6 (hk := ?_) | refine b8 (hk := ?_) | refine b7 (hk := ?_) | refine p0 (hk := ?_) | refine e5' (hk := ?_) | refine f5' (hk := ?_) | refine u6 (hk := ?_) | refine u7 (hk := ?_) | refine u8 (hk := ?_))
          refine ⟨_, _, d.app (.cons k v x hh t e .nil), n' - (1 + t.sz + e.sz), by rw [hq, Stps.app_assoc]; rfl, by omega, by omega, by simp [Stps.app_len, Stps.len]; omega, ex1 (ex2 hE (Nat.le_add_right _ _)), ?_, at_mk ⟨rfl, ?_, ?_, inc (by omega), trivial⟩, (List.append_nil _).symm⟩
          · rw [get_set h0, Stps.app_rows]; rfl
          · rw [← s4]; rfl
          · show HV.sl _ _ = _; simp [Stps.app_rows, Stps.rows]
        · rw [if_neg wB] at hq
          have hA1 : ¬ n' > 0 := by omega
          have hA3 : ¬ n' ≥ IntKind.i64.wrap (IntKind.i64.wrap (1 + (t.sz : Int)) + e.sz) := by rw [s1, s2]; omega
          repeat' (first | refine c0 ?_ | refine c3 ?_ | refine c7 ?_ | refine d2 ?_ | refine c8 ?_ | refine d0 ?_ | refine d4 ?_ | refine d3' (h := ?_) | refine d4' ?_ | refine a0 (hk := ?_) | refine k0' (he := (by first | exact k_spec_l2Count' _ _ (by omega))) (hk := ?_) | refine b0 (hk := ?_) | refine u4 (hk := ?_) | refine a5 (hk := ?_) | refine b5 (hk := ?_) | refine b6 (hk := ?_) | refine b8 (hk := ?_) | refine b7 (hk := ?_) | refine p0 (hk := ?_) | refine e5' (hk := ?_) | refine f5' (hk := ?_) | refine d7 (hf := ?_) | refine u6 (hk := ?_) | refine u7 (hk := ?_) | refine u8 (hk := ?_))
          refine ⟨_, _, d.app (.cons k v x hh t e .nil), n', by rw [hq, Stps.app_assoc]; rfl, by omega, by omega, by simp [Stps.app_len, Stps.len]; omega, ex1 (ex2 hE (Nat.le_add_right _ _)), ?_, at_mk ⟨rfl, rfl, ?_, inc (by omega), trivial⟩, (List.append_nil _).symm⟩
          · rw [get_set h0, Stps.app_rows]; rfl
          · show HV.sl _ _ = _; simp [Stps.app_rows, Stps.rows]
    · rintro pre T' S' hl ⟨T0, S1, d, n', hq, hn0, hn1, hdl, hE, h0, rfl, rfl⟩
      repeat' (first | refine c0 ?_ | refine c2 ?_ | refine c5 ?_ | refine c7 ?_ | refine d2 ?_ | refine c8 ?_ | refine c9 ?_ | refine d0 ?_ | refine d1 ?_ | refine d4 ?_ | refine a5 (hk := ?_) | (with_reducible intro hc) | refine d8 (ht := ?_) (hf := ?_))
      · simp [hl] at hc
      · exact rLx hE (hp := d.rows_pure) (hv := by rw [hq]; simp [without, Stps.app_nil])

theorem whyL_le (ls : List Lab) : ∀ (l : Stps) (hs : List Lab) (i j : Nat), whyL ls l hs i = some j → j < i + l.len
  | .nil, _, _, _, h => by simp [whyL] at h
  | .cons k v x h t e r, [], _, _, hh => by simp [whyL] at hh
  | .cons k v x h t e r, here :: hs, i, j, hh => by
    simp only [whyL] at hh
    split at hh
    · have := whyL_le ls r hs (i + 1) j hh
      simp [Stps.len]; omega
    · simp only [Option.some.injEq] at hh
      subst hh; simp [Stps.len]
theorem whyP_le {ls : List Lab} {ss : Stps} {j : Nat} (h : whyP ls ss = some j) : j < ss.sz := by
  simp only [whyP] at h
  split at h
  · have := whyL_le _ _ _ _ _ h
    rw [Stps.all_len] at this; omega
  · cases h
theorem d_l71Fine : Dr spec_l71Fine [] 12000 (fun v => ∃ ls ss, v = PR ls ss ∧ ss.sz ≤ 8 ∧ ls.length ≤ 4 ∧ 1 ≤ ls.length) := by
  refine Dr_of fun bs p k S hb hp hk => ?_
  have hkl : k < S.length := (List.getElem?_eq_some_iff.1 hk).1
  refine E_startR (h := ?_)
  repeat' (first | refine c0 ?_ | refine c7 ?_ | refine d2 ?_ | refine d4 ?_ | refine b0 (hk := ?_) | refine a5 (hk := ?_))
  refine kE (hd := d_l71Prog) (h0 := hk) (hl := hb) (hp := hp) (hk := ?_)
  rintro v q hq1 hq2 ⟨ls, ss0, rfl, hok, hl1⟩
  obtain ⟨h1, h2, h3, h4⟩ := progOk_in hok
  repeat' (first | refine c0 ?_ | refine c7 ?_ | refine d2 ?_ | refine c8 ?_ | refine d4 ?_ | refine b0 (hk := ?_) | refine a5 (hk := ?_) | refine b7 (hk := ?_))
  refine C_loop (fun m T' S' => ∃ (T0 : Tm) (S1 : St) (i : Nat) (ss : Stps), i + m = 6 ∧ ss.sz ≤ 8 ∧ ExtK S k (RD bs q) S1 ∧ (∃ z y, S1[S.length + 0]? = some (.cells false [[z, y]])) ∧ S1[S.length + 1]? = some (.cells false [[LS ls, .lst ss.rows]]) ∧
      T' = putL T0 [(2, .ptr (S.length + 0) 1 0 0), (3, .ptr (S.length + 1) 1 0 0), (4, I i)] ∧ S' = S1 ++ []) 6
    ⟨_, _, 0, ss0, by omega, h4, xkS, ⟨_, _, get_setO rfl⟩, get_setO rfl, at_mk ⟨rfl, by simp [put, upd]; rfl, rfl, trivial⟩, (List.append_nil _).symm⟩ ?_
  rintro m T' S' ⟨T0, S1, i, ss, hi, hss, hE, ⟨z, y, f0⟩, f1, rfl, rfl⟩
  have hab : S.length + 0 ≠ S.length + 1 := by omega
  have hba : S.length + 1 ≠ S.length + 0 := by omega
  cases m with
  | zero =>
    have hc0 : ¬ ((i : Int) < 6) := by omega
    repeat' (first | refine c0 ?_ | refine c2 ?_ | refine c5 ?_ | refine c7 ?_ | refine d2 ?_ | refine c9 ?_ | refine d1 ?_ | refine d4 ?_ | refine a5 (hk := ?_) | refine b5 (hk := ?_) | refine b7 (hk := ?_) | refine u8 (hk := ?_))
    exact ⟨_, _, rKC hk (xk4 hk hE (Nat.le_add_right _ _)) (RD_ok _ _) (h3 := get_set f0), q, hq1, hq2, ⟨ls, ss, rfl, hss, h1, hl1⟩, rfl⟩
  | succ m =>
    have hc0 : (i : Int) < 6 := by omega
    have hstep : HV.int .i64 (IntKind.i64.wrap ((i : Int) + 1)) = I ((i + 1 : Nat)) := by rw [i64_id (by omega) (by omega)]; simp
    cases hw : whyP ls ss with
    | none =>
      have hT : ∀ S, Ev Y spec_TypeWhy [PR ls ss] S (.tup [I 0, .bool false]) S := fun S => by
        have := k_spec_TypeWhy ls ss S (by omega) (by omega)
        rw [hw] at this; exact this
      repeat' (first | refine c0 ?_ | refine c1 ?_ | refine c4 ?_ | refine c7 ?_ | refine d2 ?_ | refine c8 ?_ | refine c9 ?_ | refine d0 ?_ | refine d4 ?_ | refine k0 (he := (by first | exact hT _)) (hk := ?_) | refine a2 (hk := ?_) | refine a5 (hk := ?_) | refine b5 (hk := ?_) | refine b7 (hk := ?_) | refine d6 (ht := ?_) | refine u7 (hk := ?_))
      exact ⟨_, _, rKC hk (xk4 hk hE (Nat.le_add_right _ _)) (RD_ok _ _) (h3 := get_set f0), q, hq1, hq2, ⟨ls, ss, rfl, hss, h1, hl1⟩, rfl⟩
    | some j =>
      have hj := whyP_le hw
      have hT : ∀ S, Ev Y spec_TypeWhy [PR ls ss] S (.tup [I j, .bool true]) S := fun S => by
        have := k_spec_TypeWhy ls ss S (by omega) (by omega)
        rw [hw] at this; exact this
      have hsz := without_sz ss j
      repeat' (first | refine c0 ?_ | refine c3 ?_ | refine c7 ?_ | refine d2 ?_ | refine c8 ?_ | refine d0 ?_ | refine d4 ?_ | refine k0 (he := (by first | exact hT _ | exact k_spec_l71Without _ _ _ _ (Nat.le_refl _) (by omega) (by omega) (by omega))) (hk := ?_) | refine a1 (hk := ?_) | refine a5 (hk := ?_) | refine b5 (hk := ?_) | refine b7 (hk := ?_) | refine d7 (hf := ?_) | refine u7 (hk := ?_))
      exact ⟨m, by omega, _, _, i + 1, without ss j, by omega, by omega, xk2 (xk4 hk hE (Nat.le_add_right _ _)), ⟨z, y, get_setN hab f0⟩, get_set f1, at_mk ⟨rfl, rfl, hstep, trivial⟩, (List.append_nil _).symm⟩
end Go.Proofs.X
end
section
namespace Go.Proofs.X
open Go Go.Proofs.XVai Go.Proofs Go.Proofs.XN
set_option linter.unusedVariables false
set_option linter.unusedSimpArgs false
set_option maxHeartbeats 4000000

/-- A return that keeps all. -/
theorem rKeep {Y : XVai.Sys} {f : Nat} {fn : Func} {T' : Tm} {S S1 : St} {vs : List HV} {v : HV} (hkp : Y.keep f = true := by rfl) (hr : resVs Y T' S1 fn.results.toList = some vs := by rfl) (hv : resTup vs = v := by rfl) : RT Y f fn S v S1 .ret T' S1 :=
  ⟨by simp only [cret, hr, hkp, if_true, hv]⟩
section
variable {fid : Nat} {T : Tm} {S : St} {K : Tm → St → Prop} {ops : Array Oper} {l : List Oper} {dst : Option Tmp} {ty : TypeId} {pos : String} {after : Array Edge} {g0 : Option (Nat × Bool)} {bs ix : Nat} {es : List (Nat × (Nat → Prop))} {ns : List (Nat × Nat)}
/-- A slice of one value that holds rows of one's own. -/
theorem bs1 {t el : Nat} {x : Operand} {ti te : TI} {cs cs' : List HV} (hg : wantG ops g0 T = true := by rfl) (h1 : Y.tab t = some ti := by rfl) (h2 : ti.sh = .slice el := by rfl) (h3 : Y.tab el = some te := by rfl) (hx : ev T x = .agg cs := by rfl) (hl : cs.length = te.size := by rfl) (hz : 1 * te.size ≤ 16777216 := by decide)
    (hm2 : Y.muta fid 1002 = false := by rfl) (hf : mapMS (frzC 0 6) cs S = some (cs', S)) (hp : cs'.all pureC = true := by rfl) (hk : OW Y fid ops none l (put T dst (.lst [cs'])) S K) : OW Y fid ops none (⟨dst, .buildSlice t 1 #[(0, x)], ty, pos, after, g0⟩ :: l) T S K := by
  refine ⟨A_op hg (v := .lst [cs']) ?_ hk.of⟩
  have hz' : te.size ≤ 16777216 := by omega
  simp [cop, h1, h2, h3, fillS, hx, HV.cells, hl, hz', mapMS, hf, hp, hm2]
/-- A call that keeps what it made. -/
theorem kX {f : Operand} {args : Array Operand} {ats : Array TypeId} {g : Nat} {args' : List HV} {R : HV → St → Prop} (hg : wantG ops g0 T = true := by rfl) (hf : ev T f = .fn g [] := by rfl) (hb : Y.byref g = false := by rfl)
    (ha : mapMS (frzV 0) (args.toList.map (ev T)) S = some (args', S) := by rfl) (he : EvR Y g args' S R) (hk : ∀ v S', R v S' → OW Y fid ops none l (put T dst v) S' K) : OW Y fid ops none (⟨dst, .call ⟨.value f, args, ats⟩, ty, pos, after, g0⟩ :: l) T S K := by
  obtain ⟨v, S', h1, h2⟩ := he
  exact k0 hg hf hb ha (by rw [List.append_nil]; exact h1) rfl (by rw [fv_eq]; exact hk v S' h2)
end
theorem own_get {S1 X : St} {k1 j : Nat} {o o' : Ob} (h : (S1 ++ X)[k1]? = some o') (hj : k1 ≠ S1.length + j) : (S1 ++ X.set j o)[k1]? = some o' := by
  rw [← set_own, List.getElem?_set_ne (Ne.symm hj)]; exact h
/-- A row of one's own that may still be stored into becomes immutable. -/
theorem fz_slF {n0 : Nat} {S : St} {x : HV} {k n : Nat} {rows : List (List HV)} (h0 : x = .sl k n) (hk : n0 ≤ k) (h1 : S[k]? = some (.cells false rows)) (hn : rows.length = n) (hp : rows.all (fun r => r.all pureC) = true) : frzC n0 6 x S = some (.lst rows, S.set k (.cells true rows)) := by
  subst h0
  have hm : mapMS (mapMS (frzC n0 5)) rows S = some (rows, S) := mapMS_same fun r hr => mapMS_same fun c hc => frzC_pure (List.all_eq_true.1 (List.all_eq_true.1 hp r hr) c hc)
  simp only [frzC]
  rw [if_neg (by omega), h1]
  simp [hn, hm, hp]
theorem fmS {α : Type} {f : α → St → Option (α × St)} {S S1 S2 : St} {x x' : α} {xs xs' : List α} (h : f x S = some (x', S1)) (hs : mapMS f xs S1 = some (xs', S2)) : mapMS f (x :: xs) S = some (x' :: xs', S2) := by
  simp only [mapMS, h, hs]
theorem frzR_aggS {n0 : Nat} {S S' : St} {cs cs' : List HV} (h : mapMS (frzC n0 6) cs S = some (cs', S')) : frzR n0 (.agg cs) S = some (.agg cs', S') := by
  simp only [frzR, frzV, h]
/-- A row of steps of one's own, behind all that was there. -/
def Kept (l : Stps) (S : St) (v : HV) (S' : St) : Prop := ∃ J k, S' = S ++ J ∧ v = .sl k l.rows.length ∧ S'[k]? = some (.cells true l.rows) ∧ S.length ≤ k
theorem k_spec_l2Copy (n : Nat) : ∀ (l : Stps) (S : St), l.sz ≤ n → l.sz ≤ 1048576 → EvR Y spec_l2Copy [.lst l.rows] S (Kept l S) := by
  induction n with
  | zero =>
    intro l S h _
    cases l with
    | cons => simp [Stps.sz] at h
    | nil =>
      refine E_startR (h := ?_)
      repeat' (first | refine c0 ?_ | refine c7 ?_ | refine d2 ?_ | refine c8 ?_ | refine d4 ?_ | refine b3 (hk := ?_) | refine b4 (hk := ?_) | refine a5 (hk := ?_))
      refine d5 ?_
      repeat' (first | refine c0 ?_ | refine c2 ?_ | refine c5 ?_ | refine c7 ?_ | refine d2 ?_ | refine c9 ?_ | refine d1 ?_ | refine d4 ?_ | refine a5 (hk := ?_) | refine d7 (hf := ?_))
      exact ⟨_, _, rKeep, _, _, rfl, rfl, get_own rfl, Nat.le_add_right _ _⟩
  | succ n ih =>
    intro l S h hb
    refine E_startR (h := ?_)
    repeat' (first | refine c0 ?_ | refine c7 ?_ | refine d2 ?_ | refine c8 ?_ | refine d4 ?_ | refine b3 (hk := ?_) | refine b4 (hk := ?_) | refine a5 (hk := ?_))
    refine C_stps l (fun pre r T' S' => ∃ (T0 : Tm) (S1 : St), pre.all (fun r => r.length == 8) = true ∧ Ext S S1 ∧ S1[S.length + 1]? = some (.cells true pre) ∧ T' = putL T0 [(0, .lst l.rows), (3, .sl (S.length + 1) pre.length), (4, I pre.length)] ∧ S' = S1 ++ [])
      ⟨_, _, rfl, ex0, get_own rfl, at_mk ⟨rfl, rfl, rfl, trivial⟩, (List.append_nil _).symm⟩ ?_ ?_
    · rintro pre k v x hh t e r T' S' hl hz ⟨T0, S1, hq, hE, f0, rfl, rfl⟩
      have hg := mid hl
      have hp := mid_lt hl
      have := l.rows_len
      have := l.len_sz
      have hlt : (pre.length : Int) < (l.rows.length : Int) := by omega
      repeat' (first | refine c0 ?_ | refine c7 ?_ | refine d2 ?_ | refine c8 ?_ | refine d0 ?_ | refine d4 ?_ | refine b0 (hk := ?_) | refine a5 (hk := ?_) | refine b5 (hk := ?_) | refine b6 (hk := ?_) | refine b8 (hk := ?_) | refine b7 (hk := ?_) | refine u7 (hk := ?_))
      refine kX (he := ih t _ (by omega) (by omega)) (hk := ?_)
      rintro v1 S2 ⟨J1, k1, rfl, rfl, hk1, hle1⟩
      rw [List.append_assoc] at hk1 ⊢
      have hne1 : k1 ≠ S1.length + 0 := by simp at hle1; omega
      have hk1 := own_get (j := 0) (o := .cells false [[I k, I v, I x.kind, I x.a, I x.b, I hh, .sl k1 t.rows.length, .lst e.rows]]) hk1 hne1
      repeat' (first | refine c0 ?_ | refine c7 ?_ | refine d2 ?_ | refine d4 ?_ | refine a5 (hk := ?_) | refine b5 (hk := ?_) | refine b7 (hk := ?_))
      refine kX (he := ih e _ (by omega) (by omega)) (hk := ?_)
      rintro v2 S3 ⟨J2, k2, rfl, rfl, hk2, hle2⟩
      have hk1 := get_old (L := J2) hk1
      rw [List.append_assoc] at hk1 hk2 ⊢
      have hne2 : k2 ≠ S1.length + 0 := by simp at hle2; omega
      have hk1 := own_get (j := 0) (o := .cells false [[I k, I v, I x.kind, I x.a, I x.b, I hh, .sl k1 t.rows.length, .sl k2 e.rows.length]]) hk1 hne1
      have hk2 := own_get (j := 0) (o := .cells false [[I k, I v, I x.kind, I x.a, I x.b, I hh, .sl k1 t.rows.length, .sl k2 e.rows.length]]) hk2 hne2
      have pt := t.rows_pure
      have pe := e.rows_pure
      repeat' (first | refine c0 ?_ | refine d2 ?_ | refine d4 ?_ | refine a5 (hk := ?_) | refine b5 (hk := ?_) | refine b7 (hk := ?_))
      refine bs1 (hf := fm1 rfl (fm1 rfl (fm1 rfl (fm1 rfl (fm1 rfl (fm1 rfl (fm1 (fz_sl rfl (Nat.zero_le _) hk1 rfl pt) (fm1 (fz_sl rfl (Nat.zero_le _) hk2 rfl pe) fm0)))))))) (hk := ?_)
      repeat' (first | refine c0 ?_ | refine c3 ?_ | refine d2 ?_ | refine d4 ?_ | refine a5 (hk := ?_) | refine p0 (hk := ?_))
      refine ⟨_, _, all8 hq rfl, ex1 (ex2 hE (Nat.le_add_right _ _)), get_set f0, at_mk ⟨rfl, ?_, inc (by omega), trivial⟩, (List.append_nil _).symm⟩
      show HV.sl _ _ = _
      simp
    · rintro pre T' S' hl ⟨T0, S1, hq, hE, f0, rfl, rfl⟩
      repeat' (first | refine c0 ?_ | refine c2 ?_ | refine c5 ?_ | refine c7 ?_ | refine d2 ?_ | refine c8 ?_ | refine c9 ?_ | refine d0 ?_ | refine d1 ?_ | refine d4 ?_ | refine a5 (hk := ?_) | (with_reducible intro hc) | refine d8 (ht := ?_) (hf := ?_))
      · simp [hl] at hc
      · subst hl
        obtain ⟨J, rfl⟩ := hE
        exact ⟨.sl (S.length + 1) l.rows.length, _, rKeep, J ++ [], S.length + 1, by rw [List.append_assoc], rfl, get_old f0, by omega⟩
end Go.Proofs.X
end
section
namespace Go.Proofs.X
open Go Go.Proofs.XVai Go.Proofs Go.Proofs.XN
set_option linter.unusedVariables false
set_option linter.unusedSimpArgs false
set_option maxHeartbeats 4000000

/-- A row of one's own, or nil. -/
def Col (fr : Bool) (S : St) (c : HV) (rows : List (List HV)) : Prop := (c = .nils ∧ rows = []) ∨ ∃ q, c = .sl q rows.length ∧ S[q]? = some (.cells fr rows)
/-- Rows that are not the same one. -/
def Apa (a b : HV) : Prop := ∀ k n k' n', a = .sl k n → b = .sl k' n' → k ≠ k'
theorem Apa.symm {a b : HV} (h : Apa a b) : Apa b a := fun k n k' n' h1 h2 e => h k' n' k n h2 h1 e.symm
theorem apa0 {b : HV} : Apa .nils b := fun k n k' n' h1 _ => by cases h1
theorem Col.keep {fr : Bool} {S S' : St} {c : HV} {rows : List (List HV)} (h : Col fr S c rows) (hf : ∀ k n, c = .sl k n → S'[k]? = S[k]?) : Col fr S' c rows := by
  rcases h with ⟨rfl, rfl⟩ | ⟨q, rfl, h⟩
  · exact .inl ⟨rfl, rfl⟩
  · exact .inr ⟨q, rfl, by rw [hf q _ rfl]; exact h⟩
theorem Col.lt {fr : Bool} {S : St} {c : HV} {rows : List (List HV)} (h : Col fr S c rows) {k n : Nat} (hc : c = .sl k n) : k < S.length := by
  rcases h with ⟨rfl, rfl⟩ | ⟨q, rfl, h⟩
  · cases hc
  · cases hc; exact (List.getElem?_eq_some_iff.1 h).1
theorem Col.app {fr : Bool} {S L : St} {c : HV} {rows : List (List HV)} (h : Col fr S c rows) : Col fr (S ++ L) c rows := h.keep fun k n hc => by rw [List.getElem?_append_left (h.lt hc)]
theorem Col.set {fr : Bool} {S : St} {c : HV} {rows : List (List HV)} {j : Nat} {o : Ob} (h : Col fr S c rows) (hj : ∀ k n, c = .sl k n → k ≠ j) : Col fr (S.set j o) c rows := h.keep fun k n hc => by rw [List.getElem?_set_ne (Ne.symm (hj k n hc))]
/-- The rows of a run. -/
structure Run3 (S : St) (r : Rn) (c1 c2 c3 : HV) : Prop where
  a : Col false S c1 (r.nums.map irow)
  b : Col true S c2 (r.ws.map wrow)
  c : Col true S c3 (r.ss.map wrow)
  ab : Apa c1 c2
  ac : Apa c1 c3
  bc : Apa c2 c3
/-- A row that is the old one, or new. -/
def New (b : Nat) (c c' : HV) : Prop := ∀ k n, c' = .sl k n → (∃ m, c = .sl k m) ∨ b ≤ k
/-- All else is as it was. -/
def Frm (S S' : St) (c1 c2 c3 : HV) : Prop := ∀ j, j < S.length → (∀ n, c1 ≠ .sl j n) → (∀ n, c2 ≠ .sl j n) → (∀ n, c3 ≠ .sl j n) → S'[j]? = S[j]?
theorem new0 {b : Nat} {c : HV} : New b c c := fun k n h => .inl ⟨n, h⟩
def Ran (S : St) (l : Stps) (r : Rn) (c1 c2 c3 v : HV) (S' : St) : Prop := ∃ c2' c3', v = .agg [c1, c2', c3'] ∧ Run3 S' (run l r) c1 c2' c3' ∧ New S.length c2 c2' ∧ New S.length c3 c3' ∧ S.length ≤ S'.length ∧ Frm S S' c1 c2 c3
theorem run_cons (k v : Int) (x : Vl) (h : Int) (t e rest : Stps) (r : Rn) : run (.cons k v x h t e rest) r = run rest (if k = 1 then ⟨r.nums.set v.toNat (valNum x r.nums), r.ws ++ [(v, valNum x r.nums)], r.ss⟩
      else if k = 3 then ⟨r.nums, r.ws, r.ss ++ [(h, nget r.nums v)]⟩ else if nget r.nums v ≠ 0 then run t r else run e r) := rfl
theorem valNum_small {x : Vl} {nums : List Int} (hx : valOk nums.length x = true) (hs : small nums) : 0 ≤ valNum x nums ∧ valNum x nums ≤ 9 := by
  have b1 := small_nget hs x.a
  have b2 := small_nget hs x.b
  simp only [valOk] at hx
  unfold valNum
  split at hx
  · rename_i k1
    simp [inB] at hx
    simp [k1]; omega
  · split at hx
    · rename_i k1 k2
      simp [k2]; omega
    · rename_i k1 k2
      split at hx
      · rename_i k3
        simp only [k1, k2, if_false]
        split
        · constructor
          · exact Int.tmod_nonneg _ (by omega)
          · have := Int.tmod_lt_of_pos (nget nums x.a + nget nums x.b) (show (0:Int) < 10 by omega); omega
        · split <;> omega
      · cases hx
theorem small_set {nums : List Int} (hs : small nums) {j : Nat} {x : Int} (h0 : 0 ≤ x ∧ x ≤ 9) : small (nums.set j x) := by
  intro n hn
  rcases List.mem_or_eq_of_mem_set hn with h | rfl
  · exact hs n h
  · exact h0
/-- What stays so in a run. -/
theorem runs_in : ∀ (l : Stps) (d : Int) (r : Rn), stepsOk r.nums.length l d = true → small r.nums → (run l r).nums.length = r.nums.length ∧ small (run l r).nums ∧ (run l r).ws.length ≤ r.ws.length + l.sz ∧ (run l r).ss.length ≤ r.ss.length + l.sz
  | .nil, _, r, _, hs => ⟨rfl, hs, Nat.le_refl _, Nat.le_refl _⟩
  | .cons k v x h t e rest, d, r, ho, hs => by
    rw [stepsOk_cons, Bool.and_eq_true] at ho
    obtain ⟨h1, h2, _, ⟨h3, h4⟩, _⟩ := stepOk_in ho.1
    rw [run_cons]
    simp only [Stps.sz]
    split
    · rename_i hk
      have := runs_in rest d ⟨r.nums.set v.toNat (valNum x r.nums), r.ws ++ [(v, valNum x r.nums)], r.ss⟩ (by simpa using ho.2) (small_set hs (valNum_small (h2 hk) hs))
      simp at this
      exact ⟨this.1, this.2.1, by omega, by omega⟩
    · split
      · have := runs_in rest d ⟨r.nums, r.ws, r.ss ++ [(h, nget r.nums v)]⟩ ho.2 hs
        simp at this
        exact ⟨this.1, this.2.1, by omega, by omega⟩
      · split
        · have a := runs_in t _ r h3 hs
          have b := runs_in rest d (run t r) (by rw [a.1]; exact ho.2) a.2.1
          exact ⟨by omega, b.2.1, by omega, by omega⟩
        · have a := runs_in e _ r h4 hs
          have b := runs_in rest d (run e r) (by rw [a.1]; exact ho.2) a.2.1
          exact ⟨by omega, b.2.1, by omega, by omega⟩
section
variable {fid : Nat} {T : Tm} {S : St} {K : Tm → St → Prop} {ops : Array Oper} {l : List Oper} {dst : Option Tmp} {ty : TypeId} {pos : String} {after : Array Edge} {g0 : Option (Nat × Bool)} {bs ix : Nat} {es : List (Nat × (Nat → Prop))} {ns : List (Nat × Nat)}
/-- A call that gets its rows as they are, and keeps what it made. -/
theorem kR {f : Operand} {args : Array Operand} {ats : Array TypeId} {g : Nat} {args' : List HV} {R : HV → St → Prop} (hg : wantG ops g0 T = true := by rfl) (hf : ev T f = .fn g [] := by rfl) (hb : Y.byref g = true := by rfl)
    (ha : args.toList.map (ev T) = args' := by rfl) (he : EvR Y g args' S R) (hk : ∀ v S', R v S' → OW Y fid ops none l (put T dst v) S' K) : OW Y fid ops none (⟨dst, .call ⟨.value f, args, ats⟩, ty, pos, after, g0⟩ :: l) T S K := by
  obtain ⟨v, S', h1, h2⟩ := he
  subst ha
  exact k1 hg hf hb (by rw [List.append_nil]) h1 rfl (by rw [fv_eq]; exact hk v S' h2)
end
/-- A return that keeps all, out of a cell. -/
theorem rKeepC {Y : XVai.Sys} {f : Nat} {fn : Func} {T' : Tm} {S S1 : St} {v : HV} (hkp : Y.keep f = true := by rfl) {a : Tmp} {t : TypeId} (hres : fn.results.toList = [.cell a t] := by rfl) {ti : TI} (h1 : Y.tab t = some ti := by rfl) {q n i of' : Nat} {fr : Bool} {rows : List (List HV)} {row : List HV}
    (h2 : T' a = .ptr q n i of' := by rfl) (h3 : S1[q]? = some (.cells fr rows)) (h4 : rows.length = n := by rfl) (h5 : rows[i]? = some row := by rfl) (h6 : XVai.part ti.agg ti.size row of' = some v := by rfl) : RT Y f fn S v S1 .ret T' S1 := by
  have hr : resVs Y T' S1 fn.results.toList = some [v] := by
    rw [hres]
    simp only [resVs, resV, cload, h1, getRow, h2, h3, h4, if_true, h5, Option.map_some, h6]
  exact rKeep hkp hr rfl
theorem Col.cell {fr : Bool} {S : St} {c : HV} {rows : List (List HV)} (h : Col fr S c rows) : isCell c = true := by
  rcases h with ⟨rfl, rfl⟩ | ⟨q, rfl, h⟩ <;> rfl
theorem get_ownL {S1 L : St} {n j : Nat} {o : Ob} (hn : S1.length = n) (h : L[j]? = some o) : (S1 ++ L)[n + j]? = some o := by subst hn; exact get_own h
theorem Col.of {fr : Bool} {S : St} {q n : Nat} {rows : List (List HV)} (h : S[q]? = some (.cells fr rows)) (hn : n = rows.length) : Col fr S (.sl q n) rows := .inr ⟨q, by rw [hn], h⟩
theorem Col.of' {fr : Bool} {S : St} {q n : Nat} {rows rows' : List (List HV)} (h : S[q]? = some (.cells fr rows)) (hr : rows = rows') (hn : n = rows'.length) : Col fr S (.sl q n) rows' := by subst hr; exact .inr ⟨q, by rw [hn], h⟩
theorem Frm.set {S S1 : St} {c1 c2 c3 : HV} {k : Nat} {o : Ob} (h : Frm S S1 c1 c2 c3) (hk : S.length ≤ k ∨ (∃ n, c1 = .sl k n) ∨ (∃ n, c2 = .sl k n) ∨ ∃ n, c3 = .sl k n) : Frm S (S1.set k o) c1 c2 c3 := by
  intro j hj h1 h2 h3
  rw [List.getElem?_set_ne, h j hj h1 h2 h3]
  rintro rfl
  rcases hk with hk | ⟨n, hk⟩ | ⟨n, hk⟩ | ⟨n, hk⟩
  · omega
  · exact h1 n hk
  · exact h2 n hk
  · exact h3 n hk
theorem Frm.app {S S1 L : St} {c1 c2 c3 : HV} (h : Frm S S1 c1 c2 c3) (hl : S.length ≤ S1.length) : Frm S (S1 ++ L) c1 c2 c3 := by
  intro j hj h1 h2 h3
  rw [List.getElem?_append_left (by omega), h j hj h1 h2 h3]
theorem New.own {b s k n : Nat} {c c' : HV} (h : New b c c') (hs : s ≤ b) (hc : c' = .sl k n) : s ≤ k ∨ ∃ n, c = .sl k n := by
  rcases h k n hc with h | h
  · exact .inr h
  · exact .inl (by omega)
theorem Frm.trans {S S1 S2 : St} {c1 c2 c3 e2 e3 : HV} {b : Nat} (h : Frm S S1 c1 c2 c3) (h' : Frm S1 S2 c1 e2 e3) (n2 : New b c2 e2) (n3 : New b c3 e3) (hb : S.length ≤ b) (hl : S.length ≤ S1.length) : Frm S S2 c1 c2 c3 := by
  intro j hj h1 h2 h3
  rw [h' j (by omega) h1 (fun n hc => ?_) (fun n hc => ?_), h j hj h1 h2 h3]
  · rcases n2 j n hc with ⟨m, hm⟩ | hm
    · exact h2 m hm
    · omega
  · rcases n3 j n hc with ⟨m, hm⟩ | hm
    · exact h3 m hm
    · omega
theorem New.to {b k n m : Nat} {c : HV} (h : New b c (.sl k n)) : New b c (.sl k m) := fun k' n' hc => by cases hc; exact h k n rfl
theorem New.nw {b k n : Nat} {c : HV} (h : b ≤ k) : New b c (.sl k n) := fun k' n' hc => by cases hc; exact .inr h
theorem New.trans {b b' : Nat} {c c' c'' : HV} (h : New b c c') (h' : New b' c' c'') (hb : b ≤ b') : New b c c'' := fun k n hc => by
  rcases h' k n hc with ⟨m, hm⟩ | hm
  · exact h k m hm
  · exact .inr (by omega)
theorem apaS {q n : Nat} {b : HV} (h : ∀ k m, b = .sl k m → k ≠ q) : Apa (.sl q n) b := fun k m k' m' h1 h2 e => by cases h1; exact h k' m' h2 e.symm
theorem k_spec_l3Do (n : Nat) : ∀ (l : Stps) (d : Int) (r : Rn) (m1 m2 m3 : HV) (S : St), l.sz ≤ n → l.sz ≤ 1000 → stepsOk r.nums.length l d = true → small r.nums → r.nums.length ≤ 1000 → r.ws.length + l.sz ≤ 100000 → r.ss.length + l.sz ≤ 100000 → Run3 S r m1 m2 m3 →
    EvR Y spec_l3Do [.lst l.rows, .agg [m1, m2, m3]] S (Ran S l r m1 m2 m3) := by
  induction n using Nat.strongRecOn with
  | _ n ih =>
    intro l d r m1 m2 m3 S h hb ho hs hn hw hv h3
    refine E_startR (h := ?_)
    repeat' (first | refine c0 ?_ | refine c7 ?_ | refine d2 ?_ | refine c8 ?_ | refine d4 ?_ | refine b0 (hk := ?_) | refine b1 (hk := ?_) | refine a5 (hk := ?_))
    have hlt := fun k n (hc : m1 = .sl k n) => h3.a.lt hc
    have hlt2 := fun k n (hc : m2 = .sl k n) => h3.b.lt hc
    have hlt3 := fun k n (hc : m3 = .sl k n) => h3.c.lt hc
    refine C_stps l (fun pre rest T' S' => ∃ (T0 : Tm) (S1 : St) (r1 : Rn) (y2 y3 : HV) (z : List HV), run l r = run rest r1 ∧ stepsOk r1.nums.length rest d = true ∧ small r1.nums ∧ r1.nums.length ≤ 1000 ∧ r1.ws.length + rest.sz ≤ 100000 ∧ r1.ss.length + rest.sz ≤ 100000 ∧ z.length = 3 ∧
        Run3 S1 r1 m1 y2 y3 ∧ New (S.length + 2) m2 y2 ∧ New (S.length + 2) m3 y3 ∧ S.length + 2 ≤ S1.length ∧ Frm S S1 m1 m2 m3 ∧ S1[S.length + 0]? = some (.cells false [[m1, y2, y3]]) ∧ S1[S.length + 1]? = some (.cells false [z]) ∧
        T' = putL T0 [(0, .lst l.rows), (3, .ptr (S.length + 0) 1 0 0), (4, .ptr (S.length + 1) 1 0 0), (5, I pre.length)] ∧ S' = S1 ++ [])
      ⟨_, _, r, m2, m3, _, rfl, ho, hs, hn, hw, hv, rfl, ⟨h3.a.app, h3.b.app, h3.c.app, h3.ab, h3.ac, h3.bc⟩, new0, new0, by simp, fun j hj _ _ _ => by rw [List.getElem?_append_left hj], get_own rfl, get_own rfl, at_mk ⟨rfl, rfl, rfl, rfl, trivial⟩, (List.append_nil _).symm⟩ ?_ ?_
    · rintro pre k v x hh t e rest T' S' hl hz ⟨T0, S1, r1, y2, y3, z, hq, ho, hs, hn, hw, hv, hz3, h3, n2, n3, hle, hF, fB, fR, rfl, rfl⟩
      have hg := mid hl
      have hp := mid_lt hl
      have := l.rows_len
      have := l.len_sz
      have hlt' : (pre.length : Int) < (l.rows.length : Int) := by omega
      have i1 := h3.a.cell
      have i2 := h3.b.cell
      have i3 := h3.c.cell
      rw [stepsOk_cons, Bool.and_eq_true] at ho
      obtain ⟨hv1, hv2, _, ⟨ht, he⟩, _⟩ := stepOk_in ho.1
      obtain ⟨j, rfl, hj⟩ := vOk_nat hv1
      obtain ⟨q1, rfl, fN⟩ : ∃ q1, m1 = .sl q1 r1.nums.length ∧ S1[q1]? = some (.cells false (r1.nums.map irow)) := by
        rcases h3.a with ⟨_, h0⟩ | ⟨q, h0, h1⟩
        · simp at h0; simp [h0] at hj
        · exact ⟨q, by simpa using h0, h1⟩
      have hlN : (r1.nums.map irow).length = r1.nums.length := by simp
      have hgj := map_get (f := irow) (nget_at hj)
      have hq1 := hlt q1 _ rfl
      have hB1 : S.length + 0 ≠ q1 := by omega
      have hR1 : S.length + 1 ≠ q1 := by omega
      have lw : (r1.ws.map wrow).length = r1.ws.length := by simp
      have lv : (r1.ss.map wrow).length = r1.ss.length := by simp
      have w2 := wrow2 r1.ws
      have w3 := wrow2 r1.ss
      simp only [Stps.sz] at hw hv
      have g2 : ∀ k n, y2 = .sl k n → k ≠ S.length + 0 ∧ k ≠ S.length + 1 := fun k n hc => by
        rcases n2 k n hc with ⟨m, hm⟩ | hm
        · have := hlt2 k m hm; omega
        · omega
      have g3 : ∀ k n, y3 = .sl k n → k ≠ S.length + 0 ∧ k ≠ S.length + 1 := fun k n hc => by
        rcases n3 k n hc with ⟨m, hm⟩ | hm
        · have := hlt3 k m hm; omega
        · omega
      have x2 : ∀ k n, y2 = .sl k n → k ≠ q1 := fun k n hc e => h3.ab _ _ _ _ rfl hc e.symm
      have x3 : ∀ k n, y3 = .sl k n → k ≠ q1 := fun k n hc e => h3.ac _ _ _ _ rfl hc e.symm
      have u2 : ∀ k n, y2 = .sl k n → k < S1.length := fun k n hc => h3.b.lt hc
      have u3 : ∀ k n, y3 = .sl k n → k < S1.length := fun k n hc => h3.c.lt hc
      have hB2 : S.length + 0 ≠ S.length + 1 := by omega
      by_cases k1 : k = 1
      · subst k1
        repeat' (first | refine c0 ?_ | refine c7 ?_ | refine d2 ?_ | refine c8 ?_ | refine d0 ?_ | refine d4 ?_ | refine k1 (he := (by first | exact k_spec_l3Num _ _ _ _ _ (hv2 rfl) hs (get_old fN))) (hk := ?_) | refine b0 (hk := ?_) | refine a5 (hk := ?_) | refine b5 (hk := ?_) | refine b6 (hk := ?_) | refine b8 (hk := ?_) | refine b9 (hk := ?_) | refine b7 (hk := ?_) | refine d6 (ht := ?_) | refine u7 (hk := ?_))
        have hq' : run l r = run rest ⟨r1.nums.set j (valNum x r1.nums), r1.ws ++ [((j : Int), valNum x r1.nums)], r1.ss⟩ := by rw [hq, run_cons, if_pos rfl, Int.toNat_natCast]
        have ho' : stepsOk (r1.nums.set j (valNum x r1.nums)).length rest d = true := by rw [List.length_set]; exact ho.2
        have hs' := small_set (j := j) hs (valNum_small (hv2 rfl) hs)
        have hn' : (r1.nums.set j (valNum x r1.nums)).length ≤ 1000 := by rw [List.length_set]; exact hn
        have hw' : (r1.ws ++ [((j : Int), valNum x r1.nums)]).length + rest.sz ≤ 100000 := by rw [List.length_append]; simp; omega
        have hnm : (r1.nums.map irow).set j (irow (valNum x r1.nums)) = (r1.nums.set j (valNum x r1.nums)).map irow := by rw [List.map_set]
        rcases h3.b with ⟨rfl, hw0⟩ | ⟨q2, rfl, fW⟩
        · repeat' (first | refine c0 ?_ | refine c3 ?_ | refine d2 ?_ | refine d4 ?_ | refine p1 (hk := ?_) | refine a5 (hk := ?_) | refine b7 (hk := ?_))
          refine ⟨_, _, _, .sl (S1.length + 1) 1, y3, z, hq', ho', hs', hn', hw', ?_, hz3, ?_, ?_, n3, ?_, ?_, ?_, ?_, at_mk ⟨rfl, rfl, rfl, inc (by omega), trivial⟩, (List.append_nil _).symm⟩
          · simp only; omega
          · exact ⟨Col.of' (get_old (setN (Ne.symm hB1) (setE fN))) hnm (by simp), Col.of' (get_ownL (by simp) rfl) (by simp at hw0; rw [hw0]; rfl) (by simp at hw0; simp [hw0]), ((h3.c.set x3).set fun k n hc => (g3 k n hc).1).app, apaS fun k n hc => by cases hc; have := (List.getElem?_eq_some_iff.1 fN).1; omega, h3.ac, apaS fun k n hc => by have := u3 k n hc; omega⟩
          · exact New.nw (by omega)
          · simp; omega
          · exact ((hF.set (.inr (.inl ⟨_, rfl⟩))).set (.inl (by omega))).app (by simp; omega)
          · rw [get_old (setE (setN hB1 fB))]; show some (Ob.cells false [[_, .sl ((List.set S1 q1 _).length + 1) 1, y3]]) = _; rw [List.length_set]
          · exact get_old (setN (by omega) (setN hR1 fR))
        · have h12 : q2 ≠ q1 := x2 _ _ rfl
          have hgq := (g2 _ _ rfl).1
          have hgr := (g2 _ _ rfl).2
          repeat' (first | refine a5 (hk := ?_) | refine p0 (hk := ?_))
          refine b7 (h3 := get_old (setN (Ne.symm hgq) (setN hB1 fB))) (h10 := set_old (setN (Ne.symm hgq) (setN hB1 fB))) (hk := ?_)
          repeat' (first | refine c0 ?_ | refine c3 ?_ | refine d2 ?_ | refine d4 ?_ | refine a5 (hk := ?_))
          refine ⟨_, _, _, .sl q2 ((r1.ws.map wrow).length + 1), y3, z, hq', ho', hs', hn', hw', ?_, hz3, ?_, n2.to, n3, ?_, ?_, ?_, ?_, at_mk ⟨rfl, rfl, rfl, inc (by omega), trivial⟩, (List.append_nil _).symm⟩
          · simp only; omega
          · exact ⟨Col.of' (get_old (setN (Ne.symm hB1) (setN (Ne.symm h12) (setE fN)))) hnm (by simp), Col.of' (get_old (setN hgq (setE (setN h12 fW)))) (by rw [List.map_append]; rfl) (by simp), (((h3.c.set x3).set fun k n hc => (fun e => h3.bc _ _ _ _ rfl hc e.symm)).set fun k n hc => (g3 k n hc).1).app, apaS fun k n hc => by cases hc; exact h12, h3.ac, apaS fun k n hc => (fun e => h3.bc _ _ _ _ rfl hc e.symm)⟩
          · simp; omega
          · exact (((hF.set (.inr (.inl ⟨_, rfl⟩))).set ((n2.own (by omega) rfl).imp id fun h => .inr (.inl h))).set (.inl (by omega))).app (by simp; omega)
          · exact get_old (setE (setN (Ne.symm hgq) (setN hB1 fB)))
          · exact get_old (setN (by omega) (setN (Ne.symm hgr) (setN hR1 fR)))
      by_cases k3 : k = 3
      · subst k3
        have hq' : run l r = run rest ⟨r1.nums, r1.ws, r1.ss ++ [(hh, nget r1.nums (j : Int))]⟩ := by rw [hq, run_cons, if_neg (by omega), if_pos rfl]
        have hw' : (r1.ss ++ [(hh, nget r1.nums (j : Int))]).length + rest.sz ≤ 100000 := by rw [List.length_append]; simp; omega
        repeat' (first | refine c0 ?_ | refine c7 ?_ | refine d2 ?_ | refine c8 ?_ | refine d0 ?_ | refine d4 ?_ | refine d3' (h := ?_) | refine b0 (hk := ?_) | refine a5 (hk := ?_) | refine b5 (hk := ?_) | refine b6 (hk := ?_) | refine b8 (hk := ?_) | refine b7 (hk := ?_) | refine b4' (hk := ?_) | refine b7b (hk := ?_) | refine e5' (hk := ?_) | refine f5' (hk := ?_) | refine f9' (hk := ?_) | refine d6 (ht := ?_) | refine d7 (hf := ?_) | refine u7 (hk := ?_))
        rcases h3.c with ⟨rfl, hw0⟩ | ⟨q3, rfl, fV⟩
        · repeat' (first | refine c0 ?_ | refine c3 ?_ | refine d2 ?_ | refine d4 ?_ | refine d4' ?_ | refine a5 (hk := ?_) | refine p1' (hk := ?_) | refine e5' (hk := ?_) | refine b7' (hk := ?_))
          refine ⟨_, _, _, y2, .sl (S1.length + 13) 1, z, hq', ho.2, hs, hn, ?_, hw', hz3, ?_, n2, ?_, ?_, ?_, ?_, ?_, at_mk ⟨rfl, rfl, rfl, inc (by omega), trivial⟩, (List.append_nil _).symm⟩
          · simp only; omega
          · exact ⟨(h3.a.set fun k n hc => by cases hc; omega).app, (h3.b.set fun k n hc => (g2 k n hc).1).app, Col.of' (get_ownL (by simp) rfl) (by simp at hw0; rw [hw0]; rfl) (by simp at hw0; simp [hw0]), h3.ab, apaS fun k n hc => by cases hc; have := (List.getElem?_eq_some_iff.1 fN).1; omega, Apa.symm (apaS fun k n hc => by have := u2 k n hc; omega)⟩
          · exact New.nw (by omega)
          · simp; omega
          · exact (hF.set (.inl (by omega))).app (by simp; omega)
          · exact get_old (setE fB)
          · exact get_old (setN (by omega) fR)
        · have h13 : q3 ≠ q1 := x3 _ _ rfl
          have hgq := (g3 _ _ rfl).1
          have hgr := (g3 _ _ rfl).2
          have hgq' := Ne.symm hgq
          repeat' (first | refine c0 ?_ | refine c3 ?_ | refine d2 ?_ | refine d4 ?_ | refine d4' ?_ | refine a5 (hk := ?_) | refine e5' (hk := ?_) | refine b7' (hk := ?_) | refine p0' (hk := ?_))
          refine ⟨_, _, _, y2, .sl q3 ((r1.ss.map wrow).length + 1), z, hq', ho.2, hs, hn, ?_, hw', hz3, ?_, n2, n3.to, ?_, ?_, ?_, ?_, at_mk ⟨rfl, rfl, rfl, inc (by omega), trivial⟩, (List.append_nil _).symm⟩
          · simp only; omega
          · exact ⟨((h3.a.set fun k n hc => by cases hc; exact Ne.symm h13).set fun k n hc => by cases hc; omega).app, ((h3.b.set fun k n hc => (fun e => h3.bc _ _ _ _ hc rfl e)).set fun k n hc => (g2 k n hc).1).app, Col.of' (get_old (setN hgq (setE fV))) (by rw [List.map_append]; rfl) (by simp), h3.ab, apaS fun k n hc => by cases hc; exact h13, Apa.symm (apaS fun k n hc => (fun e => h3.bc _ _ _ _ hc rfl e))⟩
          · simp; omega
          · exact ((hF.set ((n3.own (by omega) rfl).imp id fun h => .inr (.inr h))).set (.inl (by omega))).app (by simp; omega)
          · rw [get_old (setE (setN hgq' fB))]; rfl
          · exact get_old (setN (by omega) (setN (Ne.symm hgr) fR))
      have e1 : (k == 1) = false := by simpa using k1
      have e3 : (k == 3) = false := by simpa using k3
      repeat' (first | refine c0 ?_ | refine c7 ?_ | refine d2 ?_ | refine c8 ?_ | refine d0 ?_ | refine d4 ?_ | refine b0 (hk := ?_) | refine a5 (hk := ?_) | refine b5 (hk := ?_) | refine b6 (hk := ?_) | refine b8 (hk := ?_) | refine b9 (hk := ?_) | refine b7 (hk := ?_) | (with_reducible intro hc) | refine u6 (hk := ?_) | refine u7 (hk := ?_) | refine d9 (ht := ?_) (hf := ?_))
      · refine kR (he := ih t.sz (by omega) t (d - 1) r1 _ _ _ _ (Nat.le_refl _) (by omega) ht hs hn (by omega) (by omega) ⟨h3.a.app, h3.b.app, h3.c.app, h3.ab, h3.ac, h3.bc⟩) (hk := ?_)
        rintro v S2 ⟨y2', y3', rfl, h3', n2', n3', hle', hF'⟩
        simp at hle'
        have o1 : ∀ n, HV.sl q1 r1.nums.length ≠ .sl (S.length + 0) n := fun n e => by cases e; omega
        have o1' : ∀ n, HV.sl q1 r1.nums.length ≠ .sl (S.length + 1) n := fun n e => by cases e; omega
        have fB' : S2[S.length + 0]? = some (.cells false [[.sl q1 r1.nums.length, y2, y3]]) := by
          rw [hF' _ (by simp; omega) o1 (fun n e => (g2 _ _ e).1 rfl) (fun n e => (g3 _ _ e).1 rfl)]
          exact get_old fB
        have fR' : S2[S.length + 1]? = some (.cells false [z]) := by
          rw [hF' _ (by simp; omega) o1' (fun n e => (g2 _ _ e).2 rfl) (fun n e => (g3 _ _ e).2 rfl)]
          exact get_old fR
        have i2' := h3'.b.cell
        have i3' := h3'.c.cell
        have hri := runs_in t (d - 1) r1 ht hs
        rw [← List.append_nil S2]
        refine b7 (h3 := get_old fB') (h9 := by show [HV.sl q1 r1.nums.length, y2', y3'].all isCell = true; simp only [List.all_cons, i2', i3']; rfl) (h10 := set_old fB') (hk := ?_)
        repeat' (first | refine c0 ?_ | refine c3 ?_ | refine d2 ?_ | refine d4 ?_ | refine a5 (hk := ?_))
        refine ⟨_, _, run t r1, y2', y3', z, ?_, by rw [hri.1]; exact ho.2, hri.2.1, by rw [hri.1]; exact hn, by omega, by omega, hz3, ?_, n2.trans n2' (by simp; omega), n3.trans n3' (by simp; omega), by simp; omega, ?_, get_old (setE fB'), get_old (setN (by omega) fR'), at_mk ⟨rfl, rfl, rfl, inc (by omega), trivial⟩, (List.append_nil _).symm⟩
        · simp at hc
          rw [hq, run_cons, if_neg k1, if_neg k3, if_pos hc]
        · refine ⟨(h3'.a.set fun k n hc => by cases hc; omega).app, (h3'.b.set fun k n hc => ?_).app, (h3'.c.set fun k n hc => ?_).app, h3'.ab, h3'.ac, h3'.bc⟩
          · rcases n2' k n hc with ⟨m, hm⟩ | hm
            · exact (g2 _ _ hm).1
            · simp at hm; omega
          · rcases n3' k n hc with ⟨m, hm⟩ | hm
            · exact (g3 _ _ hm).1
            · simp at hm; omega
        · exact (((hF.app (by omega)).trans hF' n2 n3 (by omega) (by simp; omega)).set (.inl (by omega))).app (by simp; omega)
      · refine kR (he := ih e.sz (by omega) e (d - 1) r1 _ _ _ _ (Nat.le_refl _) (by omega) he hs hn (by omega) (by omega) ⟨h3.a.app, h3.b.app, h3.c.app, h3.ab, h3.ac, h3.bc⟩) (hk := ?_)
        rintro v S2 ⟨y2', y3', rfl, h3', n2', n3', hle', hF'⟩
        simp at hle'
        have o1 : ∀ n, HV.sl q1 r1.nums.length ≠ .sl (S.length + 0) n := fun n e => by cases e; omega
        have o1' : ∀ n, HV.sl q1 r1.nums.length ≠ .sl (S.length + 1) n := fun n e => by cases e; omega
        have fB' : S2[S.length + 0]? = some (.cells false [[.sl q1 r1.nums.length, y2, y3]]) := by
          rw [hF' _ (by simp; omega) o1 (fun n e => (g2 _ _ e).1 rfl) (fun n e => (g3 _ _ e).1 rfl)]
          exact get_old fB
        have fR' : S2[S.length + 1]? = some (.cells false [z]) := by
          rw [hF' _ (by simp; omega) o1' (fun n e => (g2 _ _ e).2 rfl) (fun n e => (g3 _ _ e).2 rfl)]
          exact get_old fR
        have i2' := h3'.b.cell
        have i3' := h3'.c.cell
        have hri := runs_in e (d - 1) r1 he hs
        rw [← List.append_nil S2]
        refine b7 (h3 := get_old fB') (h9 := by show [HV.sl q1 r1.nums.length, y2', y3'].all isCell = true; simp only [List.all_cons, i2', i3']; rfl) (h10 := set_old fB') (hk := ?_)
        repeat' (first | refine c0 ?_ | refine c3 ?_ | refine d2 ?_ | refine d4 ?_ | refine a5 (hk := ?_))
        refine ⟨_, _, run e r1, y2', y3', z, ?_, by rw [hri.1]; exact ho.2, hri.2.1, by rw [hri.1]; exact hn, by omega, by omega, hz3, ?_, n2.trans n2' (by simp; omega), n3.trans n3' (by simp; omega), by simp; omega, ?_, get_old (setE fB'), get_old (setN (by omega) fR'), at_mk ⟨rfl, rfl, rfl, inc (by omega), trivial⟩, (List.append_nil _).symm⟩
        · simp at hc
          rw [hq, run_cons, if_neg k1, if_neg k3, if_neg (by simpa using hc)]
        · refine ⟨(h3'.a.set fun k n hc => by cases hc; omega).app, (h3'.b.set fun k n hc => ?_).app, (h3'.c.set fun k n hc => ?_).app, h3'.ab, h3'.ac, h3'.bc⟩
          · rcases n2' k n hc with ⟨m, hm⟩ | hm
            · exact (g2 _ _ hm).1
            · simp at hm; omega
          · rcases n3' k n hc with ⟨m, hm⟩ | hm
            · exact (g3 _ _ hm).1
            · simp at hm; omega
        · exact (((hF.app (by omega)).trans hF' n2 n3 (by omega) (by simp; omega)).set (.inl (by omega))).app (by simp; omega)
    · rintro pre T' S' hl ⟨T0, S1, r1, y2, y3, z, hq, ho, hs, hn, hw, hv, hz3, h3, n2, n3, hle, hF, fB, fR, rfl, rfl⟩
      match z, hz3 with
      | [z1, z2, z3], _ =>
      have hlt' : ¬ ((pre.length : Int) < (l.rows.length : Int)) := by rw [hl]; omega
      have i1 := h3.a.cell
      have i2 := h3.b.cell
      have i3 := h3.c.cell
      have g1 : ∀ k n, m1 = .sl k n → k ≠ S.length + 1 := fun k n hc => by have := hlt k n hc; omega
      have g2 : ∀ k n, y2 = .sl k n → k ≠ S.length + 1 := fun k n hc => by
        rcases n2 k n hc with ⟨m, hm⟩ | hm
        · have := hlt2 k m hm; omega
        · omega
      have g3 : ∀ k n, y3 = .sl k n → k ≠ S.length + 1 := fun k n hc => by
        rcases n3 k n hc with ⟨m, hm⟩ | hm
        · have := hlt3 k m hm; omega
        · omega
      repeat' (first | refine c0 ?_ | refine c2 ?_ | refine c5 ?_ | refine c7 ?_ | refine d2 ?_ | refine d1 ?_ | refine d4 ?_ | refine a5 (hk := ?_) | refine b5 (hk := ?_) | refine u8 (hk := ?_))
      refine b7 (h9 := by show [m1, y2, y3].all isCell = true; simp [i1, i2, i3]) (hk := ?_)
      repeat' (first | refine c0 ?_ | refine c9 ?_ | refine d4 ?_)
      refine ⟨_, _, rKeepC (h3 := get_old (setE fR)), y2, y3, rfl, ?_, fun k n hc => (n2.own (by omega) hc).symm, fun k n hc => (n3.own (by omega) hc).symm, by simp; omega, (hF.set (.inl (by omega))).app (by simp; omega)⟩
      rw [hq]
      exact ⟨(h3.a.set g1).app, (h3.b.set g2).app, (h3.c.set g3).app, h3.ab, h3.ac, h3.bc⟩
end Go.Proofs.X
end
section
namespace Go.Proofs.X
open Go Go.Proofs.XVai Go.Proofs Go.Proofs.XN
set_option linter.unusedVariables false
set_option linter.unusedSimpArgs false
set_option maxHeartbeats 4000000

section
variable {fid : Nat} {T : Tm} {S : St} {K : Tm → St → Prop} {ops : Array Oper} {l : List Oper} {dst : Option Tmp} {ty : TypeId} {pos : String} {after : Array Edge} {g0 : Option (Nat × Bool)} {bs ix : Nat} {es : List (Nat × (Nat → Prop))} {ns : List (Nat × Nat)}
/-- A call that gets its rows as they are, and may change much: all that is ahead is ahead in any order. -/
theorem kT' {f : Operand} {args : Array Operand} {ats : Array TypeId} {g : Nat} {args' : List HV} {R : HV → St → Prop} (hg : wantG ops g0 T = true := by rfl) (hf : ev T f = .fn g [] := by rfl) (hb : Y.byref g = true := by rfl)
    (ha : args.toList.map (ev T) = args' := by rfl) (he : EvR Y g args' S R) (hc : Nc ops ns ix (fun _ => True) := by first | exact nc0 | ((repeat' (first | exact nc0 | refine nc2 (by decide +kernel) ?_)) <;> fail)) (hk : ∀ v S', R v S' → DW Y fid ops bs (ix + 1) ((ix, fun _ => True) :: es) ns l (put T dst v) S' K) :
    DW Y fid ops bs ix es ns (⟨dst, .call ⟨.value f, args, ats⟩, ty, pos, after, g0⟩ :: l) T S K := by
  obtain ⟨v, S', ⟨m, hm⟩, h2⟩ := he
  subst ha
  rw [← List.append_nil (args.toList.map (ev T))] at hm
  exact DW_effP hg ⟨m, by simp only [cop, hf, hb, if_true, hm]⟩ rfl hc (fun j hj => absurd trivial hj) (hk v S' h2)
/-- The same, of what is handed on by value. -/
theorem kU' {f : Operand} {args : Array Operand} {ats : Array TypeId} {g : Nat} {args' : List HV} {R : HV → St → Prop} (hg : wantG ops g0 T = true := by rfl) (hf : ev T f = .fn g [] := by rfl) (hb : Y.byref g = false := by rfl)
    (ha : mapMS (frzV 0) (args.toList.map (ev T)) S = some (args', S)) (he : EvR Y g args' S R) (hc : Nc ops ns ix (fun _ => True) := by first | exact nc0 | ((repeat' (first | exact nc0 | refine nc2 (by decide +kernel) ?_)) <;> fail)) (hk : ∀ v S', R v S' → DW Y fid ops bs (ix + 1) ((ix, fun _ => True) :: es) ns l (put T dst v) S' K) :
    DW Y fid ops bs ix es ns (⟨dst, .call ⟨.value f, args, ats⟩, ty, pos, after, g0⟩ :: l) T S K := by
  obtain ⟨v, S', ⟨m, hm⟩, h2⟩ := he
  rw [← List.append_nil args'] at hm
  exact DW_effP hg ⟨m, by simp only [cop, hf, hb, Bool.false_eq_true, if_false, ha, hm]⟩ rfl hc (fun j hj => absurd trivial hj) (hk v S' h2)
/-- Nothing is put behind nil. -/
theorem pN' {f : Builtin} {x y : Operand} {t t2 : TypeId} {ti ti2 : TI} {e e2 z : Nat} (hg : wantG ops g0 T = true := by rfl) (hf : f = .append := by rfl) (h1 : Y.tab t = some ti := by rfl) (h2 : ti.sh = .slice e := by rfl) (h3 : Y.tab t2 = some ti2 := by rfl) (h4 : ti2.sh = .slice e2 := by rfl) (h5 : tsize Y e = some z := by rfl)
    (hx : ev T x = .nils := by rfl) (hr : rowsOf S (ev T y) = some [] := by rfl) (hk : DW Y fid ops bs (ix + 1) es ns l (put T dst .nils) S K) :
    DW Y fid ops bs ix es ns (⟨dst, .call ⟨.builtin f, #[x, y], #[t, t2]⟩, ty, pos, after, g0⟩ :: l) T S K := by
  subst hf
  refine DW_pure hg ⟨0, ?_⟩ rfl hk
  simp only [cop]
  simp only [List.map_cons, List.map_nil, h1, h2, h3, h4, h5, cappend, hx, hr]
  rfl
end
theorem Ext.old {S S1 : St} (h : Ext S S1) {j : Nat} (hj : j < S.length) : S1[j]? = S[j]? := by
  obtain ⟨J, rfl⟩ := h
  exact List.getElem?_append_left hj
theorem Ext.le {S S1 : St} (h : Ext S S1) : S.length ≤ S1.length := by
  obtain ⟨J, rfl⟩ := h
  simp
/-- A return of which all is given. -/
theorem rG {f : Nat} {fn : Func} {T' : Tm} {S0 S1 S2 : St} {vs : List HV} {v v' : HV} (hkp : Y.keep f = false := by rfl) (hr : resVs Y T' S1 fn.results.toList = some vs := by rfl) (hz : frzR S0.length (resTup vs) S1 = some (v, S2)) (hi : idR S0.length v = true := by rfl)
    (hl : S0.length ≤ S2.length) (ho : ∀ j, j < S0.length → S2[j]? = S0[j]?) (hv : v = v' := by rfl) : RT Y f fn S0 v' S0 .ret T' S1 := by
  subst hv
  have hold : oldOk S0.length S0 S2 := ⟨hl, fun k hk => .inl (ho k hk)⟩
  have ht : S2.take S0.length = S0 := by
    refine List.ext_getElem? fun j => ?_
    by_cases hj : j < S0.length
    · rw [List.getElem?_take_of_lt hj, ho j hj]
    · rw [List.getElem?_eq_none (by simp; omega), List.getElem?_eq_none (by omega)]
  refine ⟨?_⟩
  simp only [cret, hr, hkp, hz]
  simp [hi, hold, ht]
theorem frzR_tup {n0 : Nat} {S S' : St} {vs vs' : List HV} (h : mapMS (frzV n0) vs S = some (vs', S')) : frzR n0 (.tup vs) S = some (.tup vs', S') := by
  simp only [frzR, h]
/-- The same, out of a cell. -/
theorem rCG {f : Nat} {fn : Func} {T' : Tm} {S0 S1 S2 : St} {v w : HV} (hkp : Y.keep f = false := by rfl) {a : Tmp} {t : TypeId} (hres : fn.results.toList = [.cell a t] := by rfl) {ti : TI} (h1 : Y.tab t = some ti := by rfl) {q n i of' : Nat} {fr : Bool} {rows : List (List HV)} {row : List HV}
    (h2 : T' a = .ptr q n i of' := by rfl) (h3 : S1[q]? = some (.cells fr rows)) (h4 : rows.length = n := by rfl) (h5 : rows[i]? = some row := by rfl) (h6 : XVai.part ti.agg ti.size row of' = some v := by rfl) (hz : frzR S0.length v S1 = some (w, S2)) (hi : idR S0.length w = true := by rfl)
    (hl : S0.length ≤ S2.length) (ho : ∀ j, j < S0.length → S2[j]? = S0[j]?) : RT Y f fn S0 w S0 .ret T' S1 := by
  have hr : resVs Y T' S1 fn.results.toList = some [v] := by
    rw [hres]
    simp only [resVs, resV, cload, h1, getRow, h2, h3, h4, if_true, h5, Option.map_some, h6]
  exact rG hkp hr hz hi hl ho
/-- A value out of a cell of one's own, and a truth. -/
theorem rRun {f : Nat} {fn : Func} {T' : Tm} {S0 S1 S2 : St} {v w : HV} {b : Bool} (hkp : Y.keep f = false := by rfl) {a bt : Tmp} {t : TypeId} (hres : fn.results.toList = [.cell a t, .tmp bt] := by rfl) {ti : TI} (h1 : Y.tab t = some ti := by rfl) {q n i of' : Nat} {fr : Bool} {rows : List (List HV)} {row : List HV}
    (h2 : T' a = .ptr q n i of' := by rfl) (h3 : S1[q]? = some (.cells fr rows)) (h4 : rows.length = n := by rfl) (h5 : rows[i]? = some row := by rfl) (h6 : XVai.part ti.agg ti.size row of' = some v := by rfl) (hb : T' bt = .bool b := by rfl) (hz : frzV S0.length v S1 = some (w, S2)) (hi : idR S0.length (.tup [w, .bool b]) = true := by rfl)
    (hl : S0.length ≤ S2.length) (ho : ∀ j, j < S0.length → S2[j]? = S0[j]?) : RT Y f fn S0 (.tup [w, .bool b]) S0 .ret T' S1 := by
  have hr : resVs Y T' S1 fn.results.toList = some [v, .bool b] := by
    rw [hres]
    simp only [resVs, resV, cload, h1, getRow, h2, h3, h4, if_true, h5, Option.map_some, h6, hb]
  have hz' : frzR S0.length (resTup [v, .bool b]) S1 = some (.tup [w, .bool b], S2) := by
    simp only [resTup, frzR, mapMS, hz]
    rfl
  have hold : oldOk S0.length S0 S2 := ⟨hl, fun k hk => .inl (ho k hk)⟩
  have ht : S2.take S0.length = S0 := by
    refine List.ext_getElem? fun j => ?_
    by_cases hj : j < S0.length
    · rw [List.getElem?_take_of_lt hj, ho j hj]
    · rw [List.getElem?_eq_none (by simp; omega), List.getElem?_eq_none (by omega)]
  refine ⟨?_⟩
  simp only [cret, hr, hkp, hz']
  simp [hi, hold, ht]
/-- A row of one's own, or nil, becomes immutable. -/
theorem Col.frz {fr : Bool} {S : St} {c : HV} {rows : List (List HV)} {n0 : Nat} (h : Col fr S c rows) (hp : rows.all (fun r => r.all pureC) = true) (hn : ∀ k n, c = .sl k n → n0 ≤ k) :
    ∃ S', frzC n0 6 c S = some (.lst rows, S') ∧ S'.length = S.length ∧ (∀ j, (∀ n, c ≠ .sl j n) → S'[j]? = S[j]?) := by
  rcases h with ⟨rfl, rfl⟩ | ⟨q, rfl, h⟩
  · exact ⟨S, rfl, rfl, fun _ _ => rfl⟩
  · cases fr with
    | true => exact ⟨S, fz_sl rfl (hn _ _ rfl) h rfl hp, rfl, fun _ _ => rfl⟩
    | false => exact ⟨_, fz_slF rfl (hn _ _ rfl) h rfl hp, by simp, fun j hj => by rw [List.getElem?_set_ne]; rintro rfl; exact hj _ rfl⟩
/-- A run's rows become immutable. -/
theorem Run3.frz {S : St} {r : Rn} {c1 c2 c3 : HV} {n0 : Nat} (h : Run3 S r c1 c2 c3) (h1 : ∀ k n, c1 = .sl k n → n0 ≤ k) (h2 : ∀ k n, c2 = .sl k n → n0 ≤ k) (h3 : ∀ k n, c3 = .sl k n → n0 ≤ k) :
    ∃ S', frzV n0 (.agg [c1, c2, c3]) S = some (RN r.nums r.ws r.ss, S') ∧ S'.length = S.length ∧ ∀ j, (∀ n, c1 ≠ .sl j n) → (∀ n, c2 ≠ .sl j n) → (∀ n, c3 ≠ .sl j n) → S'[j]? = S[j]? := by
  obtain ⟨S1, a1, l1, f1⟩ := h.a.frz (irow_pure _) h1
  have b1 := h.b.keep (S' := S1) fun k n hc => f1 k fun m hm => h.ab _ _ _ _ hm hc rfl
  have e1 := h.c.keep (S' := S1) fun k n hc => f1 k fun m hm => h.ac _ _ _ _ hm hc rfl
  obtain ⟨S2, a2, l2, f2⟩ := b1.frz (wrow_pure _) h2
  have e2 := e1.keep (S' := S2) fun k n hc => f2 k fun m hm => h.bc _ _ _ _ hm hc rfl
  obtain ⟨S3, a3, l3, f3⟩ := e2.frz (wrow_pure _) h3
  refine ⟨S3, ?_, by omega, fun j j1 j2 j3 => by rw [f3 j j3, f2 j j2, f1 j j1]⟩
  simp only [frzV]
  rw [fmS a1 (fmS a2 (fmS a3 fm0))]
theorem numsOk_in {ls : List Lab} {ss : Stps} {nums : List Int} (h : numsOk ls ss nums = true) : progOk ls ss = true ∧ nums.length = ls.length ∧ small nums := by
  simp only [numsOk, Bool.and_eq_true, beq_iff_eq, List.all_eq_true] at h
  refine ⟨h.1.1, h.1.2, fun n hn => ?_⟩
  have := h.2 n hn
  simpa [inB] using this
abbrev RUNR (ls : List Lab) (ss : Stps) (nums : List Int) : HV := .tup [RN (runOf ls ss nums).nums (runOf ls ss nums).ws (runOf ls ss nums).ss, .bool (numsOk ls ss nums)]
theorem k_spec_RunOf (ls : List Lab) (ss : Stps) (nums : List Int) (S : St) (hs : ss.sz ≤ 1048576) (hl : ls.length ≤ 1048576) (hn : nums.length ≤ 1048576) : Ev Y spec_RunOf [PR ls ss, L nums] S (RUNR ls ss nums) S := by
  cases hok : numsOk ls ss nums with
  | false =>
    have hno : (!numsOk ls ss nums) = true := by rw [hok]; rfl
    rw [RUNR, hok, show runOf ls ss nums = ⟨[], [], []⟩ by simp [runOf, hok]]
    refine E_start (h := ?_)
    repeat' (first | refine c0 ?_ | refine c1 ?_ | refine c7 ?_ | refine d2 ?_ | refine c9 ?_ | refine d4 ?_ | refine k0 (he := (by first | exact k_spec_NumsOk _ _ _ _ hs hl hn)) (hk := ?_) | refine b0 (hk := ?_) | refine b1 (hk := ?_) | refine a5 (hk := ?_) | refine b5 (hk := ?_) | refine b7 (hk := ?_) | refine u5 (hk := ?_))
    exact rRun (h3 := get_own rfl) (hz := rfl) (hl := by simp) (ho := fun j hj => by rw [List.getElem?_append_left hj])
  | true =>
    have hno : (!numsOk ls ss nums) = false := by rw [hok]; rfl
    obtain ⟨h1, h2, h3⟩ := numsOk_in hok
    obtain ⟨p1, p2, p3, p4⟩ := progOk_in h1
    rw [RUNR, hok, show runOf ls ss nums = run ss ⟨nums, [], []⟩ by simp [runOf, hok]]
    rw [← h2] at p1 p3
    have hri := runs_in ss 3 ⟨nums, [], []⟩ p3 h3
    cases nums with
    | nil =>
      refine E_start (h := ?_)
      repeat' (first | refine c0 ?_ | refine c7 ?_ | refine d2 ?_ | refine d0 ?_ | refine d4 ?_ | refine d3' (h := ?_) | refine k0 (he := (by first | exact k_spec_NumsOk _ _ _ _ hs hl hn)) (hk := ?_) | refine b0 (hk := ?_) | refine b1 (hk := ?_) | refine a5 (hk := ?_) | refine b5 (hk := ?_) | refine b4' (hk := ?_) | refine e5' (hk := ?_) | refine f5' (hk := ?_) | refine u6 (hk := ?_))
      refine pN' (hk := ?_)
      repeat' (first | refine b7b (hk := ?_))
      refine kT' (he := k_spec_l3Do _ ss 3 ⟨[], [], []⟩ .nils .nils .nils _ (Nat.le_refl _) (by omega) p3 h3 (by simp) (by simp; omega) (by simp; omega) ⟨.inl ⟨rfl, rfl⟩, .inl ⟨rfl, rfl⟩, .inl ⟨rfl, rfl⟩, apa0, apa0, apa0⟩) (hk := ?_)
      rintro v S2 ⟨c2, c3, rfl, h3', n2, n3, hle, hF⟩
      have fB : S2[S.length + 1]? = some (.cells false [[.nils, .nils, .nils]]) := by
        rw [hF _ (by simp) (by simp) (by simp) (by simp)]
        exact get_own rfl
      have i2 := h3'.b.cell
      have i3 := h3'.c.cell
      rw [← List.append_nil S2]
      refine b7' (h3 := get_old fB) (h9 := by show [HV.nils, c2, c3].all isCell = true; simp only [List.all_cons, i2, i3]; rfl) (h10 := set_old fB) (hk := ?_)
      repeat' (first | refine c0 ?_ | refine c9 ?_ | refine d4' ?_ | refine e5' (hk := ?_))
      have q2 : ∀ k n, c2 = .sl k n → S.length + 2 ≤ k := fun k n hc => by
        rcases n2 k n hc with ⟨m, hm⟩ | hm
        · cases hm
        · simp at hm; omega
      have q3 : ∀ k n, c3 = .sl k n → S.length + 2 ≤ k := fun k n hc => by
        rcases n3 k n hc with ⟨m, hm⟩ | hm
        · cases hm
        · simp at hm; omega
      have h3s : Run3 (S2.set (S.length + 1) (.cells false [[.nils, c2, c3]]) ++ []) (run ss ⟨[], [], []⟩) .nils c2 c3 := ⟨(h3'.a.set (by simp)).app, (h3'.b.set fun k n hc => by have := q2 k n hc; omega).app, (h3'.c.set fun k n hc => by have := q3 k n hc; omega).app, h3'.ab, h3'.ac, h3'.bc⟩
      obtain ⟨S3, z1, z2, z3⟩ := h3s.frz (n0 := S.length) (by simp) (fun k n hc => by have := q2 k n hc; omega) (fun k n hc => by have := q3 k n hc; omega)
      refine rRun (h3 := get_old (setE fB)) (hz := z1) (hl := by simp at hle z2; omega) (ho := fun j hj => ?_)
      rw [z3 j (by simp) (fun n hc => by have := q2 j n hc; omega) (fun n hc => by have := q3 j n hc; omega), List.append_nil, List.getElem?_set_ne (by omega), hF j (by simp; omega) (by simp) (by simp) (by simp), List.getElem?_append_left hj]
    | cons x xs =>
      have hz2 : ((x :: xs).map irow).all (fun r => r.length == 1 && r.all isCell) = true := by simp [isCell]
      have hn' : xs.length + 1 ≤ 1048576 := by simpa using hn
      refine E_start (h := ?_)
      repeat' (first | refine c0 ?_ | refine c7 ?_ | refine d2 ?_ | refine d0 ?_ | refine d4 ?_ | refine d3' (h := ?_) | refine k0 (he := (by first | exact k_spec_NumsOk _ _ _ _ hs hl hn)) (hk := ?_) | refine b0 (hk := ?_) | refine b1 (hk := ?_) | refine a5 (hk := ?_) | refine b5 (hk := ?_) | refine p1' (hk := ?_) | refine b4' (hk := ?_) | refine b7b (hk := ?_) | refine e5' (hk := ?_) | refine f5' (hk := ?_) | refine u6 (hk := ?_))
      refine kT' (he := k_spec_l3Do _ ss 3 ⟨x :: xs, [], []⟩ (.sl (S.length + 6) ((x :: xs).map irow).length) .nils .nils _ (Nat.le_refl _) (by omega) p3 h3 (show (x :: xs).length ≤ 1000 by omega) (by simp; omega) (by simp; omega) ⟨.inr ⟨S.length + 6, rfl, get_own rfl⟩, .inl ⟨rfl, rfl⟩, .inl ⟨rfl, rfl⟩, apa0.symm, apa0.symm, apa0⟩) (hk := ?_)
      rintro v S2 ⟨c2, c3, rfl, h3', n2, n3, hle, hF⟩
      have fB : S2[S.length + 1]? = some (.cells false [[.nils, .nils, .nils]]) := by
        rw [hF _ (by simp) (by simp) (by simp) (by simp)]
        exact get_own rfl
      have i2 := h3'.b.cell
      have i3 := h3'.c.cell
      rw [← List.append_nil S2]
      refine b7' (h3 := get_old fB) (h9 := by show [HV.sl _ _, c2, c3].all isCell = true; simp only [List.all_cons, i2, i3]; rfl) (h10 := set_old fB) (hk := ?_)
      repeat' (first | refine c0 ?_ | refine c9 ?_ | refine d4' ?_ | refine e5' (hk := ?_))
      have q2 : ∀ k n, c2 = .sl k n → S.length + 2 ≤ k := fun k n hc => by
        rcases n2 k n hc with ⟨m, hm⟩ | hm
        · cases hm
        · simp at hm; omega
      have q3 : ∀ k n, c3 = .sl k n → S.length + 2 ≤ k := fun k n hc => by
        rcases n3 k n hc with ⟨m, hm⟩ | hm
        · cases hm
        · simp at hm; omega
      have h3s : Run3 (S2.set (S.length + 1) (.cells false [[.sl (S.length + 6) ((x :: xs).map irow).length, c2, c3]]) ++ []) (run ss ⟨x :: xs, [], []⟩) (.sl (S.length + 6) ((x :: xs).map irow).length) c2 c3 := ⟨(h3'.a.set fun k n hc => by cases hc; omega).app, (h3'.b.set fun k n hc => by have := q2 k n hc; omega).app, (h3'.c.set fun k n hc => by have := q3 k n hc; omega).app, h3'.ab, h3'.ac, h3'.bc⟩
      obtain ⟨S3, z1, z2, z3⟩ := h3s.frz (n0 := S.length) (fun k n hc => by cases hc; omega) (fun k n hc => by have := q2 k n hc; omega) (fun k n hc => by have := q3 k n hc; omega)
      refine rRun (h3 := get_old (setE fB)) (hz := z1) (hl := by simp at hle z2; omega) (ho := fun j hj => ?_)
      rw [z3 j (fun n hc => by cases hc; omega) (fun n hc => by have := q2 j n hc; omega) (fun n hc => by have := q3 j n hc; omega), List.append_nil, List.getElem?_set_ne (by omega), hF j (by simp; omega) (fun n hc => by cases hc; omega) (by simp) (by simp), List.getElem?_append_left hj]
end Go.Proofs.X
end
section
namespace Go.Proofs.X
open Go Go.Proofs.XVai Go.Proofs Go.Proofs.XN
set_option linter.unusedVariables false
set_option linter.unusedSimpArgs false
set_option maxHeartbeats 40000000
set_option maxRecDepth 100000

abbrev andI (a b : Int) : Int := IntKind.i64.wrap (BitVec.ofInt IntKind.i64.bits a &&& BitVec.ofInt IntKind.i64.bits b).toNat
abbrev andNotI (a b : Int) : Int := IntKind.i64.wrap (BitVec.ofInt IntKind.i64.bits a &&& ~~~BitVec.ofInt IntKind.i64.bits b).toNat
theorem set8 {a : Int} (h : setB a = true) : ∃ n : Nat, n < 8 ∧ a = n := by
  simp only [setB, inB, decide_eq_true_eq] at h
  exact ⟨a.toNat, by omega, by omega⟩
theorem and8 : ∀ a : Nat, a < 8 → ∀ b : Nat, b < 8 → andI a b = bothG a b := by decide +kernel
theorem andNot8 : ∀ a : Nat, a < 8 → ∀ b : Nat, b < 8 → (andNotI a b == 0) = withinG a b := by decide +kernel
theorem both_any8 : ∀ a : Nat, a < 8 → bothG 7 a = a ∧ bothG a 7 = a := by decide +kernel
theorem both_assoc8 : ∀ a : Nat, a < 8 → ∀ b : Nat, b < 8 → ∀ c : Nat, c < 8 → bothG (bothG a b) c = bothG a (bothG b c) := by decide +kernel
theorem labOk_in {a : Lab} (h : labOk a = true) : setB a.k = true ∧ setB a.t = true := by simpa [labOk] using h
theorem lboth_ok {a b : Lab} (ha : labOk a = true) (hb : labOk b = true) : lboth a b = ⟨bothG a.k b.k, bothG a.t b.t⟩ := by simp [lboth, ha, hb]
theorem lboth_any {a : Lab} (ha : labOk a = true) : lboth lany a = a ∧ lboth a lany = a := by
  obtain ⟨h1, h2⟩ := labOk_in ha
  obtain ⟨k, t⟩ := a
  obtain ⟨n, hn, rfl⟩ := set8 h1
  obtain ⟨m, hm, rfl⟩ := set8 h2
  rw [lboth_ok labOk_any ha, lboth_ok ha labOk_any]
  have e1 := both_any8 n hn
  have e2 := both_any8 m hm
  exact ⟨by rw [Lab.mk.injEq]; exact ⟨e1.1, e2.1⟩, by rw [Lab.mk.injEq]; exact ⟨e1.2, e2.2⟩⟩
theorem lboth_assoc {a b c : Lab} (ha : labOk a = true) (hb : labOk b = true) (hc : labOk c = true) : lboth (lboth a b) c = lboth a (lboth b c) := by
  rw [lboth_ok (labOk_both a b) hc, lboth_ok ha (labOk_both b c), lboth_ok ha hb, lboth_ok hb hc]
  obtain ⟨la1, la2⟩ := labOk_in ha
  obtain ⟨lb1, lb2⟩ := labOk_in hb
  obtain ⟨lc1, lc2⟩ := labOk_in hc
  obtain ⟨ak, at'⟩ := a
  obtain ⟨bk, bt⟩ := b
  obtain ⟨ck, ct⟩ := c
  obtain ⟨n1, h1, rfl⟩ := set8 la1
  obtain ⟨n2, h2, rfl⟩ := set8 la2
  obtain ⟨m1, h3, rfl⟩ := set8 lb1
  obtain ⟨m2, h4, rfl⟩ := set8 lb2
  obtain ⟨o1, h5, rfl⟩ := set8 lc1
  obtain ⟨o2, h6, rfl⟩ := set8 lc2
  rw [Lab.mk.injEq]
  exact ⟨both_assoc8 n1 h1 m1 h3 o1 h5, both_assoc8 n2 h2 m2 h4 o2 h6⟩
theorem k_impl_everybody (S : St) : Ev Y impl_everybody [] S (.agg (lrow lany)) S := by
  refine E_start (h := ?_)
  repeat' (first | refine c0 ?_ | refine c7 ?_ | refine d2 ?_ | refine c9 ?_ | refine d4 ?_ | refine b0 (hk := ?_) | refine a5 (hk := ?_) | refine b7 (hk := ?_))
  exact rC
theorem k_impl_within (a b : Int) (S : St) (ha : setB a = true) (hb : setB b = true) : Ev Y impl_within [I a, I b] S (.bool (withinG a b)) S := by
  obtain ⟨n, hn, rfl⟩ := set8 ha
  obtain ⟨m, hm, rfl⟩ := set8 hb
  refine E_start (h := ?_)
  repeat' (first | refine c0 ?_ | refine c7 ?_ | refine d2 ?_ | refine c9 ?_ | refine d4 ?_ | refine a5 (hk := ?_))
  exact rB (hv := andNot8 n hn m hm)
theorem k_impl_Label_both (a b : Lab) (S : St) (ha : labOk a = true) (hb : labOk b = true) : Ev Y impl_Label_both [.agg (lrow a), .agg (lrow b)] S (.agg (lrow (lboth a b))) S := by
  rw [lboth_ok ha hb]
  obtain ⟨la1, la2⟩ := labOk_in ha
  obtain ⟨lb1, lb2⟩ := labOk_in hb
  obtain ⟨ak, at'⟩ := a
  obtain ⟨bk, bt⟩ := b
  obtain ⟨n1, h1, rfl⟩ := set8 la1
  obtain ⟨n2, h2, rfl⟩ := set8 la2
  obtain ⟨m1, h3, rfl⟩ := set8 lb1
  obtain ⟨m2, h4, rfl⟩ := set8 lb2
  rw [← and8 n1 h1 m1 h3, ← and8 n2 h2 m2 h4]
  refine E_start (h := ?_)
  repeat' (first | refine c0 ?_ | refine c7 ?_ | refine d2 ?_ | refine c9 ?_ | refine d4 ?_ | refine b0 (hk := ?_) | refine b1 (hk := ?_) | refine a5 (hk := ?_) | refine b5 (hk := ?_) | refine b7 (hk := ?_))
  exact rC
theorem k_impl_Label_flows (a b : Lab) (S : St) (ha : labOk a = true) (hb : labOk b = true) : Ev Y impl_Label_flows [.agg (lrow a), .agg (lrow b)] S (.bool (flowsG a b)) S := by
  obtain ⟨la1, la2⟩ := labOk_in ha
  obtain ⟨lb1, lb2⟩ := labOk_in hb
  refine E_start (h := ?_)
  repeat' (first | refine c0 ?_ | refine c7 ?_ | refine d2 ?_ | refine c9 ?_ | refine d4 ?_ | refine a0 (hk := ?_) | refine k0 (he := (by first | exact k_impl_within _ _ _ lb1 la1 | exact k_impl_within _ _ _ lb2 la2)) (hk := ?_) | refine b1 (hk := ?_) | refine a4 (ht := ?_) (hf := ?_) | refine a5 (hk := ?_) | refine b5 (hk := ?_) | (with_reducible intro hc))
  all_goals (refine rB (hv := ?_); simp_all [flowsG])
theorem k_impl_all (n : Nat) : ∀ (l : Stps) (S : St), l.sz ≤ n → l.sz ≤ 1048576 → Ev Y impl_all [.lst l.rows] S (.lst l.all.rows) S := by
  induction n with
  | zero =>
    intro l S h _
    cases l with
    | cons => simp [Stps.sz] at h
    | nil =>
      refine E_start (h := ?_)
      repeat' (first | refine c0 ?_ | refine c7 ?_ | refine d2 ?_ | refine c8 ?_ | refine d4 ?_ | refine b3 (hk := ?_) | refine a5 (hk := ?_))
      refine d5 ?_
      repeat' (first | refine c0 ?_ | refine c2 ?_ | refine c5 ?_ | refine c7 ?_ | refine d2 ?_ | refine c9 ?_ | refine d1 ?_ | refine d4 ?_ | refine a5 (hk := ?_) | refine d7 (hf := ?_))
      exact rL (hp := rfl) (hv := rfl)
  | succ n ih =>
    intro l S h hb
    refine E_start (h := ?_)
    repeat' (first | refine c0 ?_ | refine c7 ?_ | refine d2 ?_ | refine c8 ?_ | refine d4 ?_ | refine b3 (hk := ?_) | refine a5 (hk := ?_))
    refine C_stps l (fun pre r T' S' => ∃ (T0 : Tm) (S1 : St) (d : Stps), l.all = d.app r.all ∧ Ext S S1 ∧ S1[S.length + 1]? = some (.cells true d.rows) ∧ T' = putL T0 [(3, .sl (S.length + 1) d.rows.length), (6, .lst l.rows), (7, I l.rows.length), (8, I pre.length)] ∧ S' = S1 ++ [])
      ⟨_, _, .nil, rfl, ex0, get_own rfl, at_mk ⟨rfl, rfl, rfl, rfl, trivial⟩, (List.append_nil _).symm⟩ ?_ ?_
    · rintro pre k v x hh t e r T' S' hl hz ⟨T0, S1, d, hq, hE, h0, rfl, rfl⟩
      have hg := mid hl
      have hp := mid_lt hl
      have := l.rows_len
      have hlt' : (pre.length : Int) < (l.rows.length : Int) := by omega
      have := l.len_sz
      have q1 := t.all.rows_cells
      have q2 := e.all.rows_cells
      have q3 := d.rows_eight
      have q4 := t.all.rows_eight
      have q5 := all8 (all8 q3 (b := [srow k v x hh t e]) rfl) q4
      have q6 := all8 q3 (b := [srow k v x hh t e]) rfl
      have z0 := l.all_len
      have z1 := t.all_len
      have z2 := e.all_len
      have z3 := congrArg Stps.len hq
      rw [Stps.app_len] at z3
      have z4 := d.rows_len
      have z5 := t.all.rows_len
      have z6 := e.all.rows_len
      repeat' (first | refine c0 ?_ | refine c3 ?_ | refine c7 ?_ | refine d2 ?_ | refine c8 ?_ | refine d0 ?_ | refine d4 ?_ | refine k0 (he := (by first | exact ih t _ (by omega) (by omega) | exact ih e _ (by omega) (by omega))) (hk := ?_) | refine b0 (hk := ?_) | refine a5 (hk := ?_) | refine b5 (hk := ?_) | refine b6 (hk := ?_) | refine b8 (hk := ?_) | refine b7 (hk := ?_) | refine p0 (hk := ?_) | refine u7 (hk := ?_))
      · refine ⟨_, _, d.app (.cons k v x hh t e (t.all.app e.all)), ?_, ex1 (ex2 hE (Nat.le_add_right _ _)), ?_, at_mk ⟨?_, rfl, rfl, inc (by omega), trivial⟩, (List.append_nil _).symm⟩
        · rw [hq]; simp [Stps.all, Stps.app_assoc, Stps.app]
        · rw [get_set (h0)]; simp [Stps.app_rows, Stps.rows]
        · show HV.sl _ _ = _
          simp [Stps.app_rows, Stps.rows]; omega
    · rintro pre T' S' hl ⟨T0, S1, d, hq, hE, h0, rfl, rfl⟩
      repeat' (first | refine c0 ?_ | refine c2 ?_ | refine c5 ?_ | refine c7 ?_ | refine d2 ?_ | refine c8 ?_ | refine c9 ?_ | refine d0 ?_ | refine d1 ?_ | refine d4 ?_ | refine a5 (hk := ?_) | (with_reducible intro hc) | refine d8 (ht := ?_) (hf := ?_))
      · simp [hl] at hc
      · exact rLx hE (hp := d.rows_pure) (hv := by rw [hq]; simp [Stps.all, Stps.app_nil])
theorem k_impl_labels (n : Nat) (ls : List Lab) (ss : Stps) (hls : ls.all labOk = true) : ∀ (l : Stps) (here : Lab) (rows : List (List HV)) (m k : Nat) (S : St), l.sz ≤ n → l.sz ≤ 1048576 → varsOk ls.length l = true → S[k]? = some (.cells true rows) → rows.length = m → rows.all (fun r => r.length == 2) = true → rows.all (fun r => r.all pureC) = true → m + l.sz ≤ 2097152 → labOk here = true →
    Ev Y impl_Prog_labels [PR ls ss, .lst l.rows, .agg (lrow here), .sl k m] S (.sl k (m + l.sz)) (S.set k (.cells true (rows ++ (ats ls l here).map lrow))) := by
  induction n with
  | zero =>
    intro l here rows m k S h _ hv hS hm h2 hp hb hok
    cases l with
    | cons => simp [Stps.sz] at h
    | nil =>
      refine E_start (h := ?_)
      repeat' (first | refine c0 ?_ | refine c7 ?_ | refine d2 ?_ | refine c8 ?_ | refine d4 ?_ | refine b1 (hk := ?_) | refine b3 (hk := ?_) | refine a5 (hk := ?_))
      refine d5 ?_
      repeat' (first | refine c0 ?_ | refine c2 ?_ | refine c5 ?_ | refine c7 ?_ | refine d2 ?_ | refine c9 ?_ | refine d1 ?_ | refine d4 ?_ | refine a5 (hk := ?_) | refine d7 (hf := ?_))
      rw [show rows ++ (ats ls .nil here).map lrow = rows by simp [ats]]
      exact rK hS (S1 := S) ⟨[], by rw [set_self hS, List.append_nil]⟩ hp (hv := rfl)
  | succ n ih =>
    intro l here rows m k S h hsz hv hS hm h2 hp hb hok
    have hkl : k < S.length := (List.getElem?_eq_some_iff.1 hS).1
    refine E_start (h := ?_)
    repeat' (first | refine c0 ?_ | refine c7 ?_ | refine d2 ?_ | refine c8 ?_ | refine d4 ?_ | refine b1 (hk := ?_) | refine b3 (hk := ?_) | refine a5 (hk := ?_))
    refine C_stps l (fun pre r T' S' => ∃ (T0 : Tm) (S1 : St) (d : List Lab), varsOk ls.length r = true ∧ ats ls l here = d ++ ats ls r here ∧ ExtK S k (.cells true (rows ++ d.map lrow)) S1 ∧ S1[S.length + 0]? = some (.cells false [[LS ls, .lst ss.rows]]) ∧ S1[S.length + 1]? = some (.cells false [lrow here]) ∧
        T' = putL T0 [(3, .sl k (m + d.length)), (4, .ptr (S.length + 0) 1 0 0), (6, .ptr (S.length + 1) 1 0 0), (12, .lst l.rows), (13, I l.rows.length), (14, I pre.length)] ∧ S' = S1 ++ [])
      ⟨_, _, [], hv, rfl, (by simp only [List.map_nil, List.append_nil]; exact xk0 hS), get_own rfl, get_own rfl, at_mk ⟨rfl, rfl, rfl, rfl, rfl, rfl, trivial⟩, (List.append_nil _).symm⟩ ?_ ?_
    · rintro pre kk v x hh t e r T' S' hl hz ⟨T0, S1, d, hvr, hq, hE, h0, h1, rfl, rfl⟩
      have hg := mid hl
      have hlt := mid_lt hl
      have := l.rows_len
      have := l.len_sz
      have hlt' : (pre.length : Int) < (l.rows.length : Int) := by omega
      simp only [varsOk, Bool.and_eq_true] at hvr
      obtain ⟨hv0, hvt, hve, hvr⟩ := hvr
      obtain ⟨j, rfl, hj⟩ := vOk_at hv0
      have hcur := xk_get hS hE
      have n0 : S.length + 0 ≠ k := by omega
      have n1 : S.length + 1 ≠ k := by omega
      have z0 := ats_len ls l here
      have z1 := congrArg List.length hq
      simp only [ats, List.length_append, List.length_cons, ats_len] at z1
      have e0 : (rows ++ d.map lrow).length = m + d.length := by simp [hm]
      have e1 : (rows ++ d.map lrow).all (fun r => r.length == 2) = true := all2 h2 (lrow2 d)
      have p1 : (rows ++ d.map lrow).all (fun r => r.all pureC) = true := allP hp (lrow_pure d)
      repeat' (first | refine c0 ?_ | refine c3 ?_ | refine c7 ?_ | refine d2 ?_ | refine c8 ?_ | refine d0 ?_ | refine d4 ?_ | refine d3' (h := ?_) | refine d4' ?_ | refine k1 (he := (by first | exact k_impl_Label_both _ _ _ hok (labAt_ok hls _) | exact ih t _ _ _ _ _ (by omega) (by omega) hvt (get_set (by assumption)) (by first | omega | (simp only [List.length_append, List.length_cons, List.length_nil, List.length_map, ats_len]; omega)) (all2 e1 rfl) (allP p1 rfl) (by first | omega | (simp only [List.length_append, List.length_cons, List.length_nil, List.length_map, ats_len]; omega)) (labOk_both _ _) | exact ih e _ _ _ _ _ (by omega) (by omega) hve (get_set (by assumption)) (by first | omega | (simp only [List.length_append, List.length_cons, List.length_nil, List.length_map, ats_len]; omega)) (all2 (all2 e1 rfl) (lrow2 _)) (allP (allP p1 rfl) (lrow_pure _)) (by first | omega | (simp only [List.length_append, List.length_cons, List.length_nil, List.length_map, ats_len]; omega)) (labOk_both _ _))) (hk := ?_) | refine k0' (he := (by first | exact k_impl_Label_both _ _ _ hok (labAt_ok hls _) | exact ih t _ _ _ _ _ (by omega) (by omega) hvt (get_set (by assumption)) (by first | omega | (simp only [List.length_append, List.length_cons, List.length_nil, List.length_map, ats_len]; omega)) (all2 e1 rfl) (allP p1 rfl) (by first | omega | (simp only [List.length_append, List.length_cons, List.length_nil, List.length_map, ats_len]; omega)) (labOk_both _ _) | exact ih e _ _ _ _ _ (by omega) (by omega) hve (get_set (by assumption)) (by first | omega | (simp only [List.length_append, List.length_cons, List.length_nil, List.length_map, ats_len]; omega)) (all2 (all2 e1 rfl) (lrow2 _)) (allP (allP p1 rfl) (lrow_pure _)) (by first | omega | (simp only [List.length_append, List.length_cons, List.length_nil, List.length_map, ats_len]; omega)) (labOk_both _ _))) (hk := ?_) | refine b0 (hk := ?_) | refine a5 (hk := ?_) | refine b5 (hk := ?_) | refine b6 (hk := ?_) | refine b8 (hk := ?_) | refine b7 (hk := ?_) | refine p0 (hk := ?_) | refine b0' (hk := ?_) | refine e5' (hk := ?_) | refine f5' (hk := ?_) | refine f6' (hk := ?_) | refine f8' (hk := ?_) | refine b7' (hk := ?_) | refine u7 (hk := ?_))
      · refine ⟨_, _, d ++ here :: (ats ls t (lboth here (labAt ls j)) ++ ats ls e (lboth here (labAt ls j))), hvr, ?_, ?_, get_setN n0 h0, get_setN n1 h1, at_mk ⟨?_, rfl, rfl, rfl, rfl, inc (by omega), trivial⟩, (List.append_nil _).symm⟩
        · rw [hq]; simp [ats]
        · have := xk1 (o' := .cells true (rows ++ d.map lrow ++ [lrow here] ++ (ats ls t (lboth here (labAt ls j))).map lrow ++ (ats ls e (lboth here (labAt ls j))).map lrow)) (L := []) hS hE
          simp only [List.map_append, List.map_cons, List.append_assoc, List.cons_append, List.nil_append] at this ⊢
          exact xk2 (by simpa using this)
        · show HV.sl _ _ = _
          simp [ats_len]; omega
    · rintro pre T' S' hl ⟨T0, S1, d, hvr, hq, hE, h0, h1, rfl, rfl⟩
      repeat' (first | refine c0 ?_ | refine c2 ?_ | refine c5 ?_ | refine c7 ?_ | refine d2 ?_ | refine c8 ?_ | refine c9 ?_ | refine d0 ?_ | refine d1 ?_ | refine d4 ?_ | refine a5 (hk := ?_) | (with_reducible intro hc) | refine d8 (ht := ?_) (hf := ?_))
      · simp [hl] at hc
      · rw [hq, ats, List.append_nil]
        refine rK hS hE (allP hp (lrow_pure d)) (hv := ?_)
        have z0 := ats_len ls l here
        have z1 := congrArg List.length hq
        simp [ats] at z1
        omega
theorem k_impl_labels0 (ls : List Lab) (ss l : Stps) (here : Lab) (S : St) (hb : l.sz ≤ 1048576) (hv : varsOk ls.length l = true) (hls : ls.all labOk = true) (hok : labOk here = true) : Ev Y impl_Prog_labels [PR ls ss, .lst l.rows, .agg (lrow here), .nils] S (LS (ats ls l here)) S := by
  cases l with
  | nil =>
    refine E_start (h := ?_)
    repeat' (first | refine c0 ?_ | refine c7 ?_ | refine d2 ?_ | refine c8 ?_ | refine d4 ?_ | refine b1 (hk := ?_) | refine b3 (hk := ?_) | refine a5 (hk := ?_))
    refine d5 ?_
    repeat' (first | refine c0 ?_ | refine c2 ?_ | refine c5 ?_ | refine c7 ?_ | refine d2 ?_ | refine c9 ?_ | refine d1 ?_ | refine d4 ?_ | refine a5 (hk := ?_) | refine d7 (hf := ?_))
    exact rV
  | cons kk v x hh t e r =>
    have hl0 : (Stps.cons kk v x hh t e r).rows = [] ++ srow kk v x hh t e :: r.rows := rfl
    have hsz : (Stps.cons kk v x hh t e r).sz = 1 + t.sz + e.sz + r.sz := rfl
    simp only [varsOk, Bool.and_eq_true] at hv
    obtain ⟨hv0, hvt, hve, hvr⟩ := hv
    obtain ⟨j, rfl, hj⟩ := vOk_at hv0
    generalize hl : Stps.cons kk (j : Int) x hh t e r = l at *
    have hg := mid hl0
    have hlt := mid_lt hl0
    have hll := l.rows_len
    have hlz := l.len_sz
    have hlt' : ((([] : List (List HV)).length : Nat) : Int) < (l.rows.length : Int) := by omega
    have hlt' : (0 : Int) < (l.rows.length : Int) := hlt'
    have ha : ats ls l here = here :: (ats ls t (lboth here (labAt ls j)) ++ (ats ls e (lboth here (labAt ls j)) ++ ats ls r here)) := by rw [← hl]; rfl
    refine E_start (h := ?_)
    repeat' (first | refine c0 ?_ | refine c7 ?_ | refine d2 ?_ | refine c8 ?_ | refine d4 ?_ | refine b1 (hk := ?_) | refine b3 (hk := ?_) | refine a5 (hk := ?_))
    refine d5 ?_
    repeat' (first | refine c0 ?_ | refine c3 ?_ | refine c7 ?_ | refine d2 ?_ | refine c8 ?_ | refine d0 ?_ | refine d4 ?_ | refine d3' (h := ?_) | refine d4' ?_ | refine k1 (he := (by first | exact k_impl_Label_both _ _ _ hok (labAt_ok hls _) | exact k_impl_labels t.sz ls ss hls t _ _ _ _ _ (Nat.le_refl _) (by omega) hvt (by first | exact get_own rfl | exact get_set (by assumption)) (by first | omega | (simp only [List.length_append, List.length_cons, List.length_nil, List.length_map, ats_len]; try omega)) rfl rfl (by first | omega | (simp only [List.length_append, List.length_cons, List.length_nil, List.length_map, ats_len]; try omega)) (labOk_both _ _) | exact k_impl_labels e.sz ls ss hls e _ _ _ _ _ (Nat.le_refl _) (by omega) hve (by first | exact get_own rfl | exact get_set (by assumption)) (by first | omega | (simp only [List.length_append, List.length_cons, List.length_nil, List.length_map, ats_len]; try omega)) (all2 rfl (lrow2 _)) (allP rfl (lrow_pure _)) (by first | omega | (simp only [List.length_append, List.length_cons, List.length_nil, List.length_map, ats_len]; try omega)) (labOk_both _ _))) (hk := ?_) | refine k0' (he := (by first | exact k_impl_Label_both _ _ _ hok (labAt_ok hls _) | exact k_impl_labels t.sz ls ss hls t _ _ _ _ _ (Nat.le_refl _) (by omega) hvt (by first | exact get_own rfl | exact get_set (by assumption)) (by first | omega | (simp only [List.length_append, List.length_cons, List.length_nil, List.length_map, ats_len]; try omega)) rfl rfl (by first | omega | (simp only [List.length_append, List.length_cons, List.length_nil, List.length_map, ats_len]; try omega)) (labOk_both _ _) | exact k_impl_labels e.sz ls ss hls e _ _ _ _ _ (Nat.le_refl _) (by omega) hve (by first | exact get_own rfl | exact get_set (by assumption)) (by first | omega | (simp only [List.length_append, List.length_cons, List.length_nil, List.length_map, ats_len]; try omega)) (all2 rfl (lrow2 _)) (allP rfl (lrow_pure _)) (by first | omega | (simp only [List.length_append, List.length_cons, List.length_nil, List.length_map, ats_len]; try omega)) (labOk_both _ _))) (hk := ?_) | refine b0 (hk := ?_) | refine p1 (hk := ?_) | refine a5 (hk := ?_) | refine b5 (hk := ?_) | refine b6 (hk := ?_) | refine b8 (hk := ?_) | refine b7 (hk := ?_) | refine b0' (hk := ?_) | refine e5' (hk := ?_) | refine f5' (hk := ?_) | refine f6' (hk := ?_) | refine f8' (hk := ?_) | refine b7' (hk := ?_) | refine u7 (hk := ?_))
    have e3 : ((0 : Int)) + 1 = ((1 : Nat) : Int) := rfl
    refine C_stpsFrom l [srow kk j x hh t e] r (by rw [hl0]; rfl) (by omega) (fun pre r T' S' => ∃ (T0 : Tm) (S1 : St) (d : List Lab), varsOk ls.length r = true ∧ ats ls l here = d ++ ats ls r here ∧ Ext S S1 ∧ S1[S.length + 0]? = some (.cells false [[LS ls, .lst ss.rows]]) ∧ S1[S.length + 1]? = some (.cells false [lrow here]) ∧ S1[S.length + 4]? = some (.cells true (d.map lrow)) ∧
        T' = putL T0 [(3, .sl (S.length + 4) d.length), (4, .ptr (S.length + 0) 1 0 0), (6, .ptr (S.length + 1) 1 0 0), (12, .lst l.rows), (13, I l.rows.length), (14, I pre.length)] ∧ S' = S1 ++ [])
      ⟨_, _, here :: (ats ls t (lboth here (labAt ls j)) ++ ats ls e (lboth here (labAt ls j))), hvr, by rw [ha]; simp, ex0, get_own rfl, get_own rfl, (by rw [get_own rfl]; simp), at_mk ⟨?_, rfl, rfl, rfl, rfl, rfl, trivial⟩, (List.append_nil _).symm⟩ ?_ ?_
    · show HV.sl _ _ = _; simp [ats_len]; omega
    · rintro pre kk v x hh t e r T' S' hx hz ⟨T0, S1, d, hvr, hq, hE, f0, f1, f3, rfl, rfl⟩
      have hg := mid hx
      have hlt := mid_lt hx
      have hlt' : (pre.length : Int) < (l.rows.length : Int) := by omega
      simp only [varsOk, Bool.and_eq_true] at hvr
      obtain ⟨hv0, hvt, hve, hvr⟩ := hvr
      obtain ⟨j, rfl, hj⟩ := vOk_at hv0
      have n0 : S.length + 0 ≠ S.length + 4 := by omega
      have n1 : S.length + 1 ≠ S.length + 4 := by omega
      have z0 := ats_len ls l here
      have z1 := congrArg List.length hq
      simp only [ats, List.length_append, List.length_cons, ats_len] at z1
      have e0 : (d.map lrow).length = d.length := by simp
      have e1 := lrow2 d
      have p1 := lrow_pure d
      repeat' (first | refine c0 ?_ | refine c3 ?_ | refine c7 ?_ | refine d2 ?_ | refine c8 ?_ | refine d0 ?_ | refine d4 ?_ | refine d3' (h := ?_) | refine d4' ?_ | refine k1 (he := (by first | exact k_impl_Label_both _ _ _ hok (labAt_ok hls _) | exact k_impl_labels t.sz ls ss hls t _ _ _ _ _ (Nat.le_refl _) (by omega) hvt (get_set (by assumption)) (by first | omega | (simp only [List.length_append, List.length_cons, List.length_nil, List.length_map, ats_len]; try omega)) (all2 e1 rfl) (allP p1 rfl) (by first | omega | (simp only [List.length_append, List.length_cons, List.length_nil, List.length_map, ats_len]; try omega)) (labOk_both _ _) | exact k_impl_labels e.sz ls ss hls e _ _ _ _ _ (Nat.le_refl _) (by omega) hve (get_set (by assumption)) (by first | omega | (simp only [List.length_append, List.length_cons, List.length_nil, List.length_map, ats_len]; try omega)) (all2 (all2 e1 rfl) (lrow2 _)) (allP (allP p1 rfl) (lrow_pure _)) (by first | omega | (simp only [List.length_append, List.length_cons, List.length_nil, List.length_map, ats_len]; try omega)) (labOk_both _ _))) (hk := ?_) | refine k0' (he := (by first | exact k_impl_Label_both _ _ _ hok (labAt_ok hls _) | exact k_impl_labels t.sz ls ss hls t _ _ _ _ _ (Nat.le_refl _) (by omega) hvt (get_set (by assumption)) (by first | omega | (simp only [List.length_append, List.length_cons, List.length_nil, List.length_map, ats_len]; try omega)) (all2 e1 rfl) (allP p1 rfl) (by first | omega | (simp only [List.length_append, List.length_cons, List.length_nil, List.length_map, ats_len]; try omega)) (labOk_both _ _) | exact k_impl_labels e.sz ls ss hls e _ _ _ _ _ (Nat.le_refl _) (by omega) hve (get_set (by assumption)) (by first | omega | (simp only [List.length_append, List.length_cons, List.length_nil, List.length_map, ats_len]; try omega)) (all2 (all2 e1 rfl) (lrow2 _)) (allP (allP p1 rfl) (lrow_pure _)) (by first | omega | (simp only [List.length_append, List.length_cons, List.length_nil, List.length_map, ats_len]; try omega)) (labOk_both _ _))) (hk := ?_) | refine b0 (hk := ?_) | refine a5 (hk := ?_) | refine b5 (hk := ?_) | refine b6 (hk := ?_) | refine b8 (hk := ?_) | refine b7 (hk := ?_) | refine p0 (hk := ?_) | refine b0' (hk := ?_) | refine e5' (hk := ?_) | refine f5' (hk := ?_) | refine f6' (hk := ?_) | refine f8' (hk := ?_) | refine b7' (hk := ?_) | refine u7 (hk := ?_))
      · refine ⟨_, _, d ++ here :: (ats ls t (lboth here (labAt ls j)) ++ ats ls e (lboth here (labAt ls j))), hvr, ?_, ex1 (ex2 hE (Nat.le_add_right _ _)), get_setN n0 f0, get_setN n1 f1, ?_, at_mk ⟨?_, rfl, rfl, rfl, rfl, inc (by omega), trivial⟩, (List.append_nil _).symm⟩
        · rw [hq]; simp [ats]
        · rw [get_set f3]; simp
        · show HV.sl _ _ = _
          simp [ats_len]; omega
    · rintro pre T' S' hx ⟨T0, S1, d, hvr, hq, hE, f0, f1, f3, rfl, rfl⟩
      repeat' (first | refine c0 ?_ | refine c2 ?_ | refine c5 ?_ | refine c7 ?_ | refine d2 ?_ | refine c8 ?_ | refine c9 ?_ | refine d0 ?_ | refine d1 ?_ | refine d4 ?_ | refine a5 (hk := ?_) | (with_reducible intro hc) | refine d8 (ht := ?_) (hf := ?_))
      · simp [hx] at hc
      · exact rLx hE (hn := by simp) (hp := lrow_pure d) (hv := by rw [hq]; simp [ats])
theorem k_impl_at (ls : List Lab) (ss : Stps) (S : St) (hok : progOk ls ss = true) : Ev Y impl_Prog_at [PR ls ss] S (LS (ats ls ss lany)) S := by
  obtain ⟨h1, h2, h3, h4⟩ := progOk_in hok
  have hvs := stepsOk_vars _ _ _ h3
  refine E_start (h := ?_)
  repeat' (first | refine c0 ?_ | refine c7 ?_ | refine d2 ?_ | refine c9 ?_ | refine d4 ?_ | refine d3' (h := ?_) | refine d4' ?_ | refine k0' (he := (by first | exact k_impl_everybody _ | exact k_impl_labels0 _ _ _ _ _ (by omega) hvs h2 labOk_any)) (hk := ?_) | refine k3' (he := (by first | exact k_impl_everybody _ | exact k_impl_labels0 _ _ _ _ _ (by omega) hvs h2 labOk_any)) (hk := ?_) | refine b1 (hk := ?_) | refine b3 (hk := ?_) | refine e5' (hk := ?_) | refine f5' (hk := ?_))
  exact rV
theorem src_lab {ls : List Lab} {x : Vl} {here : Lab} (hls : ls.all labOk = true) (hok : labOk here = true) (hx : valOk ls.length x = true) : lboth here (valLab ls x) = (varsV x).foldl (fun o v => lboth o (labAt ls v)) here := by
  obtain ⟨k, p, q⟩ := x
  simp only [valOk] at hx
  by_cases k1 : k = 1
  · subst k1
    rw [show valLab ls ⟨1, p, q⟩ = lany by simp [valLab], (lboth_any hok).2]
    rfl
  by_cases k2 : k = 2
  · subst k2
    rw [show valLab ls ⟨2, p, q⟩ = lboth lany (labAt ls p) by simp [valLab], (lboth_any (labAt_ok hls p)).1]
    rfl
  have h34 : k = 3 ∨ k = 4 := by
    by_cases h : k = 3 ∨ k = 4
    · exact h
    · simp [k1, k2, h] at hx
  rw [show valLab ls ⟨k, p, q⟩ = lboth (lboth lany (labAt ls p)) (labAt ls q) by simp [valLab, k1, h34], (lboth_any (labAt_ok hls p)).1, show varsV ⟨k, p, q⟩ = [p, q] by simp [varsV, k2, h34], ← lboth_assoc hok (labAt_ok hls p) (labAt_ok hls q)]
  rfl
theorem varsV_ok {n : Nat} {x : Vl} (hx : valOk n x = true) : ∀ v ∈ varsV x, vOk n v = true := by
  obtain ⟨k, p, q⟩ := x
  simp only [valOk] at hx
  intro v hv
  by_cases k1 : k = 1
  · subst k1; simp [varsV] at hv
  by_cases k2 : k = 2
  · subst k2; simp [varsV] at hv; simp at hx; rw [hv]; exact hx.1
  have h34 : k = 3 ∨ k = 4 := by
    by_cases h : k = 3 ∨ k = 4
    · exact h
    · simp [k1, k2, h] at hx
  have hx2 : vOk n p = true ∧ vOk n q = true := by
    rcases h34 with rfl | rfl <;> simpa using hx
  rw [show varsV ⟨k, p, q⟩ = [p, q] by simp [varsV, k2, h34]] at hv
  simp at hv
  rcases hv with rfl | rfl
  · exact hx2.1
  · exact hx2.2
theorem foldl_ok {ls : List Lab} : ∀ (vs : List Int) (here : Lab), labOk here = true → labOk (vs.foldl (fun o v => lboth o (labAt ls v)) here) = true
  | [], _, h => h
  | v :: vs, here, h => foldl_ok vs _ (labOk_both _ _)
theorem varsV_len (x : Vl) : (varsV x).length ≤ 2 := by
  unfold varsV
  split
  · simp
  · split <;> simp
theorem k_impl_source (ls : List Lab) (ss : Stps) (k v : Int) (x : Vl) (h : Int) (t e : Stps) (here : Lab) (S : St) (hls : ls.all labOk = true) (hok : labOk here = true) (hx : valOk ls.length x = true) : Ev Y impl_Prog_source [PR ls ss, .agg (srow k v x h t e), .agg (lrow here)] S (.agg (lrow (lboth here (valLab ls x)))) S := by
  rw [src_lab hls hok hx]
  have hvo := varsV_ok hx
  have hvl := varsV_len x
  refine E_start (h := ?_)
  repeat' (first | refine c0 ?_ | refine c7 ?_ | refine d2 ?_ | refine c8 ?_ | refine d4 ?_ | refine k0 (he := (by first | exact k_impl_Val_vars _ _)) (hk := ?_) | refine b0 (hk := ?_) | refine b1 (hk := ?_) | refine a5 (hk := ?_) | refine b5 (hk := ?_))
  refine C_list (varsV x) (fun pre r T' S' => ∃ (T0 : Tm) (S1 : St) (o : Lab), labOk o = true ∧ (varsV x).foldl (fun o v => lboth o (labAt ls v)) here = r.foldl (fun o v => lboth o (labAt ls v)) o ∧ Ext S S1 ∧ S1[S.length + 0]? = some (.cells false [[LS ls, .lst ss.rows]]) ∧ S1[S.length + 2]? = some (.cells false [lrow o]) ∧ (∃ z, S1[S.length + 3]? = some (.cells false [lrow z])) ∧
      T' = putL T0 [(3, .ptr (S.length + 0) 1 0 0), (5, .ptr (S.length + 2) 1 0 0), (6, .ptr (S.length + 3) 1 0 0), (11, L (varsV x)), (12, I (varsV x).length), (13, I pre.length)] ∧ S' = S1 ++ [])
    ⟨_, _, here, hok, rfl, ex0, get_own rfl, get_own rfl, ⟨⟨0, 0⟩, get_own rfl⟩, at_mk ⟨rfl, rfl, rfl, rfl, by show HV.int _ _ = _; simp, rfl, trivial⟩, (List.append_nil _).symm⟩ ?_ ?_
  · rintro pre y r T' S' hxs ⟨T0, S1, o, ho, hq, hE, f0, f2, ⟨z, f3⟩, rfl, rfl⟩
    have hg := mid hxs
    have hlt := mid_lt hxs
    have hc0 : (pre.length : Int) < ((varsV x).length : Int) := by omega
    have hy := hvo y (by rw [hxs]; simp)
    obtain ⟨j, rfl, hj⟩ := vOk_at hy
    have n2 : S.length + 2 ≠ S.length + 0 := by omega
    have n2' : S.length + 0 ≠ S.length + 2 := by omega
    repeat' (first | refine c0 ?_ | refine c3 ?_ | refine c7 ?_ | refine d2 ?_ | refine c8 ?_ | refine d0 ?_ | refine d4 ?_ | refine d3' (h := ?_) | refine d4' ?_ | refine k0' (he := (by first | exact k_impl_Label_both _ _ _ ho (labAt_ok hls _))) (hk := ?_) | refine a5 (hk := ?_) | refine b6 (hk := ?_) | refine b8 (hk := ?_) | refine e5' (hk := ?_) | refine f5' (hk := ?_) | refine f6' (hk := ?_) | refine f8' (hk := ?_) | refine b7' (hk := ?_) | refine u7 (hk := ?_))
    refine ⟨_, _, lboth o (labAt ls j), labOk_both _ _, by rw [hq]; rfl, ex1 (ex2 hE (Nat.le_add_right _ _)), get_old (setN n2' f0), get_old (setE f2), ⟨z, get_old (setN (by omega) f3)⟩, at_mk ⟨rfl, rfl, rfl, rfl, rfl, inc (by omega), trivial⟩, (List.append_nil _).symm⟩
  · rintro T' S' ⟨T0, S1, o, ho, hq, hE, f0, f2, ⟨z, f3⟩, rfl, rfl⟩
    have hc0 : ¬ (((varsV x).length : Int) < ((varsV x).length : Int)) := by omega
    repeat' (first | refine c0 ?_ | refine c2 ?_ | refine c5 ?_ | refine c7 ?_ | refine d2 ?_ | refine c9 ?_ | refine d1 ?_ | refine d4 ?_ | refine a5 (hk := ?_) | refine b5 (hk := ?_) | refine b7 (hk := ?_) | refine u8 (hk := ?_))
    rw [hq]
    exact rCG (h3 := get_old (setE f3)) (hz := rfl) (hl := by have := hE.le; simp; omega) (ho := fun j hj => by rw [List.getElem?_append_left (by have := hE.le; simp; omega), List.getElem?_set_ne (by omega), hE.old hj])
theorem flatOk_lab {ls : List Lab} : ∀ (l : Stps) (here : Lab), labOk here = true → ∀ x ∈ ats ls l here, labOk x = true
  | .nil, _, _, x, hx => by simp [ats] at hx
  | .cons _ v _ _ t e r, here, h, x, hx => by
    simp only [ats, List.mem_cons, List.mem_append] at hx
    rcases hx with rfl | hx | hx | hx
    · exact h
    · exact flatOk_lab t _ (labOk_both _ _) x hx
    · exact flatOk_lab e _ (labOk_both _ _) x hx
    · exact flatOk_lab r _ h x hx
theorem k_impl_has' (a i : Int) (S : St) (ha : setB a = true) : Ev Y impl_has [I a, I i] S (.bool (hasG a i)) S := by
  rw [← has_eq ha i]
  exact k_impl_has a i S
theorem k_impl_why (ls : List Lab) (ss : Stps) (S : St) (hok : progOk ls ss = true) : Ev Y impl_Prog_why [PR ls ss] S (WHY (whyP ls ss)) S := by
  obtain ⟨h1, h2, h3, h4⟩ := progOk_in hok
  rw [show whyP ls ss = whyL ls ss.all (ats ls ss lany) 0 by simp [whyP, hok]]
  have hatok := flatOk_lab (ls := ls) ss lany labOk_any
  refine E_start (h := ?_)
  repeat' (first | refine c0 ?_ | refine c7 ?_ | refine d2 ?_ | refine c8 ?_ | refine d4 ?_ | refine k0 (he := (by first | exact k_impl_at _ _ _ hok | exact k_impl_all _ ss _ (Nat.le_refl _) (by omega))) (hk := ?_) | refine b1 (hk := ?_) | refine a5 (hk := ?_) | refine b5 (hk := ?_))
  refine C_stps ss.all (fun pre r T' S' => ∃ (T0 : Tm) (S1 : St) (d hs' : List Lab), ats ls ss lany = d ++ hs' ∧ d.length = pre.length ∧ hs'.length = r.len ∧ flatOk ls.length r = true ∧ whyL ls ss.all (ats ls ss lany) 0 = whyL ls r hs' pre.length ∧ Ext S S1 ∧ S1[S.length + 0]? = some (.cells false [[LS ls, .lst ss.rows]]) ∧
      T' = putL T0 [(1, .ptr (S.length + 0) 1 0 0), (4, LS (ats ls ss lany)), (12, .lst ss.all.rows), (13, I ss.all.rows.length), (14, I pre.length)] ∧ S' = S1 ++ [])
    ⟨_, _, [], _, rfl, rfl, by rw [ats_len, Stps.all_len], stepsOk_flat _ _ _ h3, rfl, ex0, get_own rfl, at_mk ⟨rfl, rfl, rfl, rfl, rfl, trivial⟩, (List.append_nil _).symm⟩ ?_ ?_
  · rintro pre k v x hh t e r T' S' hx hz ⟨T0, S1, d, hs', he, hd, hsl, hf, hq, hE, h0, rfl, rfl⟩
    cases hs' with
    | nil => simp [Stps.len] at hsl
    | cons here hs' =>
      have hg := mid hx
      have hlt := mid_lt hx
      have hg2 := mid he
      rw [hd] at hg2
      have := ss.all.rows_len
      have := ss.all_len
      have hc0 : (pre.length : Int) < (ss.all.rows.length : Int) := by omega
      have hho : labOk here = true := hatok here (by rw [he]; simp)
      simp only [flatOk, Bool.and_eq_true] at hf
      obtain ⟨f1, f2, f3, f4, f5⟩ := hf
      simp only [whyL] at hq
      have fx : k = 1 → valOk ls.length x = true := fun hk => by simpa [hk] using f2
      obtain ⟨j, rfl, hj⟩ := vOk_at f1
      have hlo := labAt_ok h2 (j : Int)
      have next : fineG ls k j x hh here = true → whyL ls ss.all (ats ls ss lany) 0 = whyL ls r hs' (pre ++ [srow k j x hh t e]).length := fun hfi => by rw [hq, hfi]; simp
      have bad : fineG ls k j x hh here = false → whyL ls ss.all (ats ls ss lany) 0 = some pre.length := fun hfi => by rw [hq, hfi]; rfl
      by_cases k1 : k = 1
      · subst k1
        repeat' (first | refine c0 ?_ | refine c1 ?_ | refine c3 ?_ | refine c4 ?_ | refine c7 ?_ | refine d2 ?_ | refine c8 ?_ | refine c9 ?_ | refine d0 ?_ | refine d4 ?_ | refine d3' (h := ?_) | refine d4' ?_ | refine k0' (he := (by first | exact k_impl_source _ _ _ _ _ _ _ _ _ _ h2 hho (fx rfl) | exact k_impl_Label_flows _ _ _ (labOk_both _ _) hlo)) (hk := ?_) | refine b0 (hk := ?_) | refine a5 (hk := ?_) | refine b5 (hk := ?_) | refine b6 (hk := ?_) | refine b8 (hk := ?_) | refine b7 (hk := ?_) | refine e5' (hk := ?_) | refine f5' (hk := ?_) | refine f6' (hk := ?_) | refine f8' (hk := ?_) | (with_reducible intro hc) | refine d6 (ht := ?_) | refine u7 (hk := ?_) | refine d9 (ht := ?_) (hf := ?_))
        · refine rVx hE (hv := ?_)
          rw [bad (by simpa [fineG] using hc)]; rfl
        · exact ⟨_, _, d ++ [here], hs', by rw [he]; simp, by simp [hd], by simpa [Stps.len] using hsl, f5, next (by simpa [fineG] using hc), ex1 hE, get_old h0, at_mk ⟨rfl, rfl, rfl, rfl, inc (by omega), trivial⟩, (List.append_nil _).symm⟩
      by_cases k3 : k = 3
      · subst k3
        have hs1 := (labOk_in hho).1
        have hs2 := (labOk_in hlo).1
        have hfq : fineG ls 3 j x hh here = (hasG here.k hh && hasG (labAt ls j).k hh) := by simp [fineG, hasG_both]
        cases q1 : hasG here.k hh with
        | false =>
          have hh1 : ∀ S, Ev Y impl_has [I here.k, I hh] S (.bool false) S := fun S => by
            have := k_impl_has' here.k hh S hs1
            rwa [q1] at this
          repeat' (first | refine c0 ?_ | refine c1 ?_ | refine c4 ?_ | refine c7 ?_ | refine d2 ?_ | refine c8 ?_ | refine c9 ?_ | refine d0 ?_ | refine d4 ?_ | refine d3' (h := ?_) | refine d4' ?_ | refine k0' (he := (by first | exact hh1 _)) (hk := ?_) | refine b0 (hk := ?_) | refine a5 (hk := ?_) | refine b5 (hk := ?_) | refine b6 (hk := ?_) | refine b8 (hk := ?_) | refine b7 (hk := ?_) | refine e0' (hk := ?_) | refine e1' (hk := ?_) | refine e5' (hk := ?_) | refine f5' (hk := ?_) | refine f6' (hk := ?_) | refine f8' (hk := ?_) | refine d6 (ht := ?_) | refine d7 (hf := ?_) | refine u7 (hk := ?_))
          refine rVx hE (hv := ?_)
          rw [bad (by rw [hfq, q1]; rfl)]; rfl
        | true =>
          have hh1 : ∀ S, Ev Y impl_has [I here.k, I hh] S (.bool true) S := fun S => by
            have := k_impl_has' here.k hh S hs1
            rwa [q1] at this
          cases q2 : hasG (labAt ls j).k hh with
          | false =>
            have hh2 : ∀ S, Ev Y impl_has [I (labAt ls j).k, I hh] S (.bool false) S := fun S => by
              have := k_impl_has' (labAt ls j).k hh S hs2
              rwa [q2] at this
            repeat' (first | refine c0 ?_ | refine c1 ?_ | refine c4 ?_ | refine c7 ?_ | refine d2 ?_ | refine c8 ?_ | refine c9 ?_ | refine d0 ?_ | refine d4 ?_ | refine d3' (h := ?_) | refine d4' ?_ | refine k0' (he := (by first | exact hh1 _ | exact hh2 _)) (hk := ?_) | refine b0 (hk := ?_) | refine a5 (hk := ?_) | refine b5 (hk := ?_) | refine b6 (hk := ?_) | refine b8 (hk := ?_) | refine b7 (hk := ?_) | refine e2' (hk := ?_) | refine e5' (hk := ?_) | refine f5' (hk := ?_) | refine f6' (hk := ?_) | refine f8' (hk := ?_) | refine d6 (ht := ?_) | refine d7 (hf := ?_) | refine u7 (hk := ?_))
            refine rVx hE (hv := ?_)
            rw [bad (by rw [hfq, q1, q2]; rfl)]; rfl
          | true =>
            have hh2 : ∀ S, Ev Y impl_has [I (labAt ls j).k, I hh] S (.bool true) S := fun S => by
              have := k_impl_has' (labAt ls j).k hh S hs2
              rwa [q2] at this
            repeat' (first | refine c0 ?_ | refine c3 ?_ | refine c7 ?_ | refine d2 ?_ | refine c8 ?_ | refine d0 ?_ | refine d4 ?_ | refine d3' (h := ?_) | refine d4' ?_ | refine k0' (he := (by first | exact hh1 _ | exact hh2 _)) (hk := ?_) | refine b0 (hk := ?_) | refine a5 (hk := ?_) | refine b5 (hk := ?_) | refine b6 (hk := ?_) | refine b8 (hk := ?_) | refine b7 (hk := ?_) | refine e2' (hk := ?_) | refine e5' (hk := ?_) | refine f5' (hk := ?_) | refine f6' (hk := ?_) | refine f8' (hk := ?_) | refine d6 (ht := ?_) | refine d7 (hf := ?_) | refine u7 (hk := ?_))
            exact ⟨_, _, d ++ [here], hs', by rw [he]; simp, by simp [hd], by simpa [Stps.len] using hsl, f5, next (by rw [hfq, q1, q2]; rfl), ex1 hE, get_old h0, at_mk ⟨rfl, rfl, rfl, rfl, inc (by omega), trivial⟩, (List.append_nil _).symm⟩
      have kb1 : (k == 1) = false := by simpa using k1
      have kb3 : (k == 3) = false := by simpa using k3
      repeat' (first | refine c0 ?_ | refine c3 ?_ | refine c7 ?_ | refine d2 ?_ | refine c8 ?_ | refine d0 ?_ | refine d4 ?_ | refine b0 (hk := ?_) | refine a5 (hk := ?_) | refine b5 (hk := ?_) | refine b6 (hk := ?_) | refine b8 (hk := ?_) | refine b7 (hk := ?_) | refine u6 (hk := ?_) | refine u7 (hk := ?_))
      exact ⟨_, _, d ++ [here], hs', by rw [he]; simp, by simp [hd], by simpa [Stps.len] using hsl, f5, next (by simp [fineG, k1, k3]), ex1 hE, get_old h0, at_mk ⟨rfl, rfl, rfl, rfl, inc (by omega), trivial⟩, (List.append_nil _).symm⟩
  · rintro pre T' S' hx ⟨T0, S1, d, hs', he, hd, hsl, hf, hq, hE, h0, rfl, rfl⟩
    have hc0 : ¬ ((pre.length : Int) < (ss.all.rows.length : Int)) := by rw [hx]; omega
    repeat' (first | refine c0 ?_ | refine c2 ?_ | refine c5 ?_ | refine c7 ?_ | refine d2 ?_ | refine c9 ?_ | refine d1 ?_ | refine d4 ?_ | refine a5 (hk := ?_) | refine u8 (hk := ?_))
    refine rVx hE (hv := ?_)
    rw [hq]; rfl
theorem k_impl_TypeOk (ls : List Lab) (ss : Stps) (S : St) (hs : ss.sz ≤ 1048576) (hl : ls.length ≤ 1048576) : Ev Y impl_TypeOk [PR ls ss] S (.bool (progOk ls ss && (whyP ls ss).isNone)) S := by
  cases hok : progOk ls ss with
  | false =>
    have hno : (!progOk ls ss) = true := by rw [hok]; rfl
    refine E_start (h := ?_)
    repeat' (first | refine c0 ?_ | refine c1 ?_ | refine c7 ?_ | refine d2 ?_ | refine c9 ?_ | refine d4 ?_ | refine k0 (he := (by first | exact k_impl_ProgOk _ _ _ hs hl)) (hk := ?_) | refine b1 (hk := ?_) | refine a5 (hk := ?_) | refine b5 (hk := ?_) | refine u5 (hk := ?_))
    exact rB (hv := rfl)
  | true =>
    have hno : (!progOk ls ss) = false := by rw [hok]; rfl
    refine E_start (h := ?_)
    repeat' (first | refine c0 ?_ | refine c7 ?_ | refine d2 ?_ | refine c9 ?_ | refine d0 ?_ | refine d4 ?_ | refine k0 (he := (by first | exact k_impl_ProgOk _ _ _ hs hl | exact k_impl_why _ _ _ hok)) (hk := ?_) | refine b1 (hk := ?_) | refine a4 (ht := ?_) (hf := ?_) | refine a5 (hk := ?_) | refine b5 (hk := ?_) | (with_reducible intro hc) | refine u6 (hk := ?_))
    all_goals (refine rB (hv := ?_); cases hw : whyP ls ss <;> simp_all)
end Go.Proofs.X
end
section
namespace Go.Proofs.X
open Go Go.Proofs.XVai Go.Proofs Go.Proofs.XN
set_option linter.unusedVariables false
set_option linter.unusedSimpArgs false
set_option maxHeartbeats 4000000
set_option maxRecDepth 100000

theorem C_gen {Y : XVai.Sys} {fid : Nat} {T : Tm} {S : St} {Q : Ex → Tm → St → Prop} {c : Code} (P : Tm → St → Prop) (h : P T S) (hk : ∀ T S, P T S → CW Y fid c T S Q) : CW Y fid c T S Q := hk T S h
theorem rKC3 {Y : XVai.Sys} {f : Nat} {fn : Func} {T' : Tm} {S0 S1 S2 : St} {k : Nat} {o o0 : Ob} {v v' : HV} (h0 : S0[k]? = some o0) (hio : idO S0.length o = true) (hkp : Y.keep f = false := by rfl) {a : Tmp} {t : TypeId} (hres : fn.results.toList = [.cell a t] := by rfl) {ti : TI} (h1 : Y.tab t = some ti := by rfl) {q n i of' : Nat} {fr : Bool} {rows : List (List HV)} {row : List HV}
    (h2 : T' a = .ptr q n i of' := by rfl) (h3 : S1[q]? = some (.cells fr rows)) (h4 : rows.length = n := by rfl) (h5 : rows[i]? = some row := by rfl) (h6 : XVai.part ti.agg ti.size row of' = some v := by rfl) (hz : frzR S0.length v S1 = some (v', S2)) (hE : ExtK S0 k o S2) (hi : idR S0.length v' = true := by rfl) : RT Y f fn S0 v' (S0.set k o) .ret T' S1 := by
  obtain ⟨J, rfl⟩ := hE
  have hr : resVs Y T' S1 fn.results.toList = some [v] := by
    rw [hres]
    simp only [resVs, resV, cload, h1, getRow, h2, h3, h4, if_true, h5, Option.map_some, h6]
  refine ⟨?_⟩
  have hold : oldOk S0.length S0 (S0.set k o ++ J) := ⟨by simp, fun j hj => by
    rw [List.getElem?_append_left (by simpa using hj)]
    exact rS1 h0 hio j hj⟩
  have hz' : frzR S0.length (resTup [v]) S1 = some (v', S0.set k o ++ J) := hz
  simp only [cret, hr, hkp, hz']
  simp [hi, hold]
theorem d_l71Bent (ls : List Lab) (ss : Stps) (hl1 : 1 ≤ ls.length) (hl4 : ls.length ≤ 4) (hss : ss.sz ≤ 8) : Dr spec_l71Bent [PR ls ss] 10 (fun v => ∃ ls ss, v = PR ls ss ∧ ss.sz ≤ 100 ∧ ls.length ≤ 100) := by
  refine Dr_of fun bs p k S hb hp hk => ?_
  have hkl : k < S.length := (List.getElem?_eq_some_iff.1 hk).1
  have hz2 : (ls.map lrow).all (fun r => r.length == 2 && r.all isCell) = true := by simp [isCell]
  have hem : (ls.map lrow).isEmpty = false := by cases ls <;> simp_all
  refine E_startR (h := ?_)
  repeat' (first | refine c0 ?_ | refine c7 ?_ | refine d2 ?_ | refine d4 ?_ | refine d3' (h := ?_) | refine b0 (hk := ?_) | refine b1 (hk := ?_) | refine p1' (hk := ?_) | refine b4' (hk := ?_) | refine e5' (hk := ?_) | refine f5' (hk := ?_))
  refine kX' (he := k_spec_l2Copy _ ss _ (Nat.le_refl _) (by omega)) (hx := fun v S' ⟨J, _, h, _⟩ => ⟨J, h⟩) (hk := ?_)
  rintro v J ⟨J', k1, -, rfl, hk1, hle⟩
  rw [List.append_assoc] at hk1 ⊢
  repeat' (first | refine c0 ?_ | refine c7 ?_ | refine d2 ?_ | refine d4' ?_ | refine a5 (hk := ?_) | refine b0' (hk := ?_) | refine b7b (hk := ?_) | refine b7' (hk := ?_))
  refine k0 (ha := rfl) (he := k_pick' (get_old hk) hb (by omega)) (hS := set_old hk) (hk := ?_)
  refine d4 ?_
  refine c0 ?_
  refine C_gen (fun T' S' => ∃ (T0 : Tm) (S1 : St) (a b k1 : Nat), S.length + 2 ≤ a ∧ S.length + 2 ≤ b ∧ S.length + 2 ≤ k1 ∧ a ≠ b ∧ a ≠ k1 ∧ b ≠ k1 ∧ ExtK S k (RD bs (p + 1)) S1 ∧ S1[a]? = some (.cells false (ls.map lrow)) ∧ S1[k1]? = some (.cells true ss.rows) ∧ S1[b]? = some (.cells false [[.sl a ls.length, .sl k1 ss.rows.length]]) ∧ (∃ z y, S1[S.length + 1]? = some (.cells false [[z, y]])) ∧
      T' = putL T0 [(0, .ptr k 1 0 0), (4, .ptr (S.length + 1) 1 0 0), (5, .ptr b 1 0 0), (16, I (pickv bs p 8))] ∧ S' = S1 ++ [])
    ⟨_, _, S.length + 5, S.length + 10, k1, by omega, by omega, ?_, by omega, ?_, ?_, xkS, get_setO rfl, ?_, ?_, ⟨_, _, get_setO rfl⟩, at_mk ⟨rfl, rfl, rfl, rfl, trivial⟩, (List.append_nil _).symm⟩ ?_
  · simp at hle; omega
  · simp at hle; omega
  · simp at hle; omega
  · have hle' : S.length + 12 ≤ k1 := by simp at hle; omega
    obtain ⟨i, rfl⟩ : ∃ i, k1 = S.length + i := ⟨k1 - S.length, by omega⟩
    rw [List.getElem?_append_right (by omega), Nat.add_sub_cancel_left] at hk1
    rw [List.getElem?_append_right (by simp), List.length_set, Nat.add_sub_cancel_left]
    rw [List.getElem?_set_ne (by omega), List.getElem?_set_ne (by omega)]
    exact hk1
  · rw [get_setO rfl]; simp; rfl
  rintro T' S' ⟨T0, S1, a, b, k1, ha, hb', hk1, hab, hak, hbk, hE, fa, fk, fb, ⟨z, y, fz⟩, rfl, rfl⟩
  obtain ⟨j, hj, hj8⟩ := pick_nat bs p (n := 8) (by omega)
  have hj : pickv bs p 8 = j := hj
  have hcur := xk_get hk hE
  have hak' : a ≠ k := by omega
  have hbk' : b ≠ k := by omega
  have hkk' : k1 ≠ k := by omega
  have hz1 : S.length + 1 ≠ k := by omega
  have han : (ls.map lrow).length = ls.length := by simp
  have h8 := ss.rows_eight
  have pss := ss.rows_pure
  have hsl := ss.rows_len
  have hsz := ss.len_sz
  by_cases w7 : j = 7
  · have q0 : (pickv bs p 8 == 0) = false := by simp; omega
    have q1 : (pickv bs p 8 == 1) = false := by simp; omega
    have q2 : (pickv bs p 8 == 2) = false := by simp; omega
    have q3 : (pickv bs p 8 == 3) = false := by simp; omega
    have q4 : (pickv bs p 8 == 4) = false := by simp; omega
    have q5 : (pickv bs p 8 == 5) = false := by simp; omega
    have q6 : (pickv bs p 8 == 6) = false := by simp; omega
    repeat' (first | refine c0 ?_ | refine c3 ?_ | refine c7 ?_ | refine d2 ?_ | refine c8 ?_ | refine d4 ?_ | refine a5 (hk := ?_) | refine b5 (hk := ?_) | refine b7 (hk := ?_) | refine p0 (hk := ?_) | refine u6 (hk := ?_))
    refine b7 (h3 := get_setN (by omega) (setN (by omega) fz)) (h10 := set_setN (setN (by omega) fz)) (hk := ?_)
    repeat' (first | refine c0 ?_ | refine c9 ?_ | refine d4 ?_)
    refine ⟨_, _, rKC3 (o := RD bs (p + 1)) hk (RD_ok _ _) (h3 := get_set (setN (by omega) (setN (by omega) fz))) (hz := frzR_aggS (fmS (fz_slF rfl (by omega) (get_setN (by omega) (setN hab (setN hak fa))) han (lrow_pure _)) (fmS (fz_sl rfl (by omega) (setN (Ne.symm hak) (get_setN (by omega) (setN (Ne.symm hbk) (setE fk)))) (by simp) (allP pss rfl)) fm0)))
      (hE := xk4 hk (xk2 (xk4 hk (xk4 hk (xk4 hk hE (by omega)) (by omega)) (by omega))) (by omega)), p + 1, by omega, by omega, ⟨ls, ss.app (.cons 3 0 ⟨0, 0, 0⟩ 3 .nil .nil .nil), by rw [PR, Stps.app_rows]; rfl, by simp [Stps.app_sz, Stps.sz]; omega, by omega⟩, rfl⟩
  have ha2 := lrow2 ls
  by_cases w2 : j = 2
  · skip
    have q0 : (pickv bs p 8 == 0) = false := by simp; omega
    have q1 : (pickv bs p 8 == 1) = false := by simp; omega
    have q2 : (pickv bs p 8 == 2) = true := by simp; omega
    repeat' (first | refine c0 ?_ | refine c3 ?_ | refine c7 ?_ | refine d2 ?_ | refine c8 ?_ | refine d4 ?_ | refine a5 (hk := ?_) | refine b5 (hk := ?_) | refine b7 (hk := ?_) | refine p0 (hk := ?_) | refine u5 (hk := ?_) | refine u6 (hk := ?_))
    refine b7 (h3 := get_setN (by omega) (setN (by omega) fz)) (h10 := set_setN (setN (by omega) fz)) (hk := ?_)
    repeat' (first | refine c0 ?_ | refine c9 ?_ | refine d4 ?_)
    refine ⟨_, _, rKC3 (o := RD bs (p + 1)) hk (RD_ok _ _) (h3 := get_set (setN (by omega) (setN (by omega) fz))) (hz := frzR_aggS (fmS (fz_slF rfl (by omega) (get_setN (by omega) (setN hab (setN hak fa))) han (lrow_pure _)) (fmS (fz_sl rfl (by omega) (setN (Ne.symm hak) (get_setN (by omega) (setN (Ne.symm hbk) (setE fk)))) (by simp) (allP pss rfl)) fm0)))
      (hE := xk4 hk (xk2 (xk4 hk (xk4 hk (xk4 hk hE (by omega)) (by omega)) (by omega))) (by omega)), p + 1, by omega, by omega, ⟨ls, ss.app (.cons 1 ls.length ⟨1, 0, 0⟩ 0 .nil .nil .nil), by rw [PR, Stps.app_rows]; rfl, by simp [Stps.app_sz, Stps.sz]; omega, by omega⟩, rfl⟩
  by_cases w0 : j = 0
  · have q0 : (pickv bs p 8 == 0) = true := by simp; omega
    obtain ⟨l0, lt, rfl⟩ : ∃ l0 lt, ls = l0 :: lt := by
      cases ls with
      | nil => simp at hl1
      | cons l0 lt => exact ⟨l0, lt, rfl⟩
    have hg0 : (l0 :: lt)[0]? = some l0 := rfl
    repeat' (first | refine c0 ?_ | refine c3 ?_ | refine c7 ?_ | refine d2 ?_ | refine c8 ?_ | refine c9 ?_ | refine d4 ?_ | refine a5 (hk := ?_) | refine b5 (hk := ?_) | refine b9 (hk := ?_) | refine b7 (hk := ?_) | refine u5 (hk := ?_))
    refine ⟨_, _, rKC3 (o := RD bs (p + 1)) hk (RD_ok _ _) (h3 := get_set (setN (by omega) fz)) (hz := frzR_aggS (fmS (fz_slF rfl (by omega) (get_setN (by omega) (setE fa)) (by simp) (lrow_pure (⟨8, l0.t⟩ :: lt))) (fmS (fz_sl rfl (by omega) (setN (Ne.symm hak) (get_setN (by omega) (setN (Ne.symm hak) fk))) rfl pss) fm0)))
      (hE := xk4 hk (xk2 (xk4 hk (xk4 hk hE (by omega)) (by omega))) (by omega)), p + 1, by omega, by omega, ⟨⟨8, l0.t⟩ :: lt, ss, rfl, by omega, by simp at hl4 ⊢; omega⟩, rfl⟩
  by_cases w6 : j = 6
  · skip
    have q0 : (pickv bs p 8 == 0) = false := by simp; omega
    have q1 : (pickv bs p 8 == 1) = false := by simp; omega
    have q2 : (pickv bs p 8 == 2) = false := by simp; omega
    have q3 : (pickv bs p 8 == 3) = false := by simp; omega
    have q4 : (pickv bs p 8 == 4) = false := by simp; omega
    have q5 : (pickv bs p 8 == 5) = false := by simp; omega
    have q6 : (pickv bs p 8 == 6) = true := by simp; omega
    repeat' (first | refine c0 ?_ | refine c3 ?_ | refine c7 ?_ | refine d2 ?_ | refine c8 ?_ | refine d4 ?_ | refine a5 (hk := ?_) | refine b5 (hk := ?_) | refine b7 (hk := ?_) | refine p0 (hk := ?_) | refine u5 (hk := ?_) | refine u6 (hk := ?_))
    refine b7 (h3 := get_setN (by omega) (setN (by omega) fz)) (h10 := set_setN (setN (by omega) fz)) (hk := ?_)
    repeat' (first | refine c0 ?_ | refine c9 ?_ | refine d4 ?_)
    refine ⟨_, _, rKC3 (o := RD bs (p + 1)) hk (RD_ok _ _) (h3 := get_set (setN (by omega) (setN (by omega) fz))) (hz := frzR_aggS (fmS (fz_slF rfl (by omega) (get_setN (by omega) (setN hab (setE fa))) (by simp) (allP (lrow_pure _) rfl)) (fmS (fz_sl rfl (by omega) (setN (Ne.symm hak) (get_setN (by omega) (setN (Ne.symm hbk) (setN (Ne.symm hak) fk)))) rfl pss) fm0)))
      (hE := xk4 hk (xk2 (xk4 hk (xk4 hk (xk4 hk hE (by omega)) (by omega)) (by omega))) (by omega)), p + 1, by omega, by omega, ⟨ls ++ [⟨0, 0⟩, ⟨0, 0⟩, ⟨0, 0⟩, ⟨0, 0⟩], ss, by rw [PR, LS, List.map_append]; rfl, by omega, by simp; omega⟩, rfl⟩
  by_cases w1 : j = 1
  · skip
    have q0 : (pickv bs p 8 == 0) = false := by simp; omega
    have q1 : (pickv bs p 8 == 1) = true := by simp; omega
    have fb2 := setN (o := RD bs (p + 1 + 1)) hbk' fb
    have fk2 := setN (o := RD bs (p + 1 + 1)) hkk' fk
    have fz2 := setN (o := RD bs (p + 1 + 1)) hz1 fz
    have fa2 := setN (o := RD bs (p + 1 + 1)) hak' fa
    repeat' (first | refine c0 ?_ | refine c3 ?_ | refine c7 ?_ | refine d2 ?_ | refine c8 ?_ | refine d4 ?_ | refine d3' (h := ?_) | refine d4' ?_ | refine k2' (he := (by first | exact k_pick' (by first | assumption | exact get_old (by assumption) | exact get_set (by assumption)) hb (by omega))) (hk := ?_) | refine a5 (hk := ?_) | refine b5 (hk := ?_) | refine b4' (hk := ?_) | refine b7b (hk := ?_) | refine e5' (hk := ?_) | refine f5' (hk := ?_) | refine b7' (hk := ?_) | refine p0' (hk := ?_) | refine u5 (hk := ?_) | refine u6 (hk := ?_))
    refine b7 (h3 := get_setN (by omega) (setN (by omega) fz2)) (h10 := set_setN (setN (by omega) fz2)) (hk := ?_)
    repeat' (first | refine c0 ?_ | refine c9 ?_ | refine d4 ?_)
    refine ⟨_, _, rKC3 (o := RD bs (p + 1 + 1)) hk (RD_ok _ _) (h3 := get_set (setN (by omega) (setN (by omega) fz2))) (hz := frzR_aggS (fmS (fz_slF rfl (by omega) (get_setN (by omega) (setN hab (setN hak fa2))) han (lrow_pure _)) (fmS (fz_sl rfl (by omega) (setN (Ne.symm hak) (get_setN (by omega) (setN (Ne.symm hbk) (setE fk2)))) (by simp) (allP pss rfl)) fm0)))
      (hE := xk4 hk (xk2 (xk4 hk (xk4 hk (xk4 hk (xk5 hk hE) (by omega)) (by omega)) (by omega))) (by omega)), p + 1 + 1, by omega, by omega, ⟨ls, ss.app (.cons (IntKind.i64.wrap (pickv bs (p + 1) 6 - 1)) 0 ⟨0, 0, 0⟩ 0 .nil .nil .nil), by rw [PR, Stps.app_rows]; rfl, by simp [Stps.app_sz, Stps.sz]; omega, by omega⟩, rfl⟩
  by_cases w3 : j = 3
  · skip
    have q0 : (pickv bs p 8 == 0) = false := by simp; omega
    have q1 : (pickv bs p 8 == 1) = false := by simp; omega
    have q2 : (pickv bs p 8 == 2) = false := by simp; omega
    have q3 : (pickv bs p 8 == 3) = true := by simp; omega
    obtain ⟨j1, e1, hj1⟩ := pick_nat bs (p + 1) (n := 6) (by omega)
    obtain ⟨j2, e2, hj2⟩ := pick_nat bs (p + 1 + 1) (n := 3) (by omega)
    have g1 := lit_get [1, 1, 2, 3, 0, 5] (j := j1) hj1
    have g2 := lit_get [10, -1, 4] (j := j2) hj2
    have fb2 := setN (o := RD bs (p + 1 + 1 + 1)) hbk' fb
    have fk2 := setN (o := RD bs (p + 1 + 1 + 1)) hkk' fk
    have fz2 := setN (o := RD bs (p + 1 + 1 + 1)) hz1 fz
    have fa2 := setN (o := RD bs (p + 1 + 1 + 1)) hak' fa
    repeat' (first | refine c0 ?_ | refine c7 ?_ | refine d2 ?_ | refine c8 ?_ | refine d4 ?_ | refine d3' (h := ?_) | refine k2' (he := (by first | exact k_pick' (by first | assumption | exact get_old (by assumption) | exact get_set (by assumption)) hb (by omega))) (hk := ?_) | refine a5 (hk := ?_) | refine b4' (hk := ?_) | refine e5' (hk := ?_) | refine f5' (hk := ?_) | refine u5 (hk := ?_) | refine u6 (hk := ?_))
    refine f8' (h5 := e1) (h6 := map_get (f := irow) g1) (hk := ?_)
    repeat' (first | refine k2' (he := (by first | exact k_pick' (by first | assumption | exact get_old (by assumption) | exact get_set (by assumption)) hb (by omega))) (hk := ?_) | refine b4' (hk := ?_) | refine e5' (hk := ?_) | refine f6' (hk := ?_))
    refine f8' (h5 := e2) (h6 := map_get (f := irow) g2) (hk := ?_)
    repeat' (first | refine c0 ?_ | refine c3 ?_ | refine c7 ?_ | refine d2 ?_ | refine d4' ?_ | refine b5 (hk := ?_) | refine b4' (hk := ?_) | refine b7b (hk := ?_) | refine e5' (hk := ?_) | refine f6' (hk := ?_) | refine b7' (hk := ?_) | refine p0' (hk := ?_))
    refine b7 (h3 := get_setN (by omega) (setN (by omega) fz2)) (h10 := set_setN (setN (by omega) fz2)) (hk := ?_)
    repeat' (first | refine c0 ?_ | refine c9 ?_ | refine d4 ?_)
    refine ⟨_, _, rKC3 (o := RD bs (p + 1 + 1 + 1)) hk (RD_ok _ _) (h3 := get_set (setN (by omega) (setN (by omega) fz2))) (hz := frzR_aggS (fmS (fz_slF rfl (by omega) (get_setN (by omega) (setN hab (setN hak fa2))) han (lrow_pure _)) (fmS (fz_sl rfl (by omega) (setN (Ne.symm hak) (get_setN (by omega) (setN (Ne.symm hbk) (setE fk2)))) (by simp) (allP pss rfl)) fm0)))
      (hE := xk4 hk (xk2 (xk4 hk (xk4 hk (xk4 hk (xk5 hk hE) (by omega)) (by omega)) (by omega))) (by omega)), p + 1 + 1 + 1, by omega, by omega, ⟨ls, ss.app (.cons 1 0 ⟨[1, 1, 2, 3, 0, 5].getD j1 0, [10, -1, 4].getD j2 0, 0⟩ 0 .nil .nil .nil), by rw [PR, Stps.app_rows]; rfl, by simp [Stps.app_sz, Stps.sz]; omega, by omega⟩, rfl⟩
  have q0 : (pickv bs p 8 == 0) = false := by simp; omega
  have q1 : (pickv bs p 8 == 1) = false := by simp; omega
  have q2 : (pickv bs p 8 == 2) = false := by simp; omega
  have q3 : (pickv bs p 8 == 3) = false := by simp; omega
  by_cases w4 : j = 4
  · have q4 : (pickv bs p 8 == 4) = true := by simp; omega
    repeat' (first | refine c0 ?_ | refine c7 ?_ | refine d2 ?_ | refine c8 ?_ | refine d4 ?_ | refine a5 (hk := ?_) | refine u5 (hk := ?_) | refine u6 (hk := ?_))
    refine C_loop (fun n T' S' => ∃ (T0 : Tm) (S2 : St) (d : Stps), d.len + n = 9 ∧ d.sz + n ≤ 17 ∧ ExtK S k (RD bs (p + 1)) S2 ∧ S2[a]? = some (.cells false (ls.map lrow)) ∧ S2[k1]? = some (.cells true d.rows) ∧ S2[b]? = some (.cells false [[.sl a ls.length, .sl k1 d.rows.length]]) ∧ (∃ z y, S2[S.length + 1]? = some (.cells false [[z, y]])) ∧
        T' = putL T0 [(4, .ptr (S.length + 1) 1 0 0), (5, .ptr b 1 0 0)] ∧ S' = S2 ++ []) (9 - ss.len)
      ⟨_, _, ss, by omega, by omega, hE, fa, fk, fb, ⟨z, y, fz⟩, at_mk ⟨rfl, rfl, trivial⟩, rfl⟩ ?_
    rintro n T' S' ⟨T0, S2, d, hd, hdz, hE, fa, fk, fb, ⟨z, y, fz⟩, rfl, rfl⟩
    have h8 := d.rows_eight
    have pd := d.rows_pure
    have hdl := d.rows_len
    cases n with
    | zero =>
      have hc0 : ¬ ((d.rows.length : Int) ≤ 8) := by omega
      repeat' (first | refine c0 ?_ | refine c2 ?_ | refine c3 ?_ | refine c5 ?_ | refine c7 ?_ | refine d2 ?_ | refine c9 ?_ | refine d1 ?_ | refine d4 ?_ | refine a5 (hk := ?_) | refine b5 (hk := ?_) | refine b7 (hk := ?_) | refine u8 (hk := ?_))
      refine ⟨_, _, rKC3 (o := RD bs (p + 1)) hk (RD_ok _ _) (h3 := get_set fz) (hz := frzR_aggS (fmS (fz_slF rfl (by omega) (get_setN (by omega) fa) han (lrow_pure _)) (fmS (fz_sl rfl (by omega) (setN (Ne.symm hak) (get_setN (by omega) fk)) rfl pd) fm0)))
        (hE := xk4 hk (xk2 (xk4 hk hE (by omega))) (by omega)), p + 1, by omega, by omega, ⟨ls, d, rfl, by omega, by omega⟩, rfl⟩
    | succ n =>
      have hc0 : (d.rows.length : Int) ≤ 8 := by omega
      repeat' (first | refine c0 ?_ | refine c3 ?_ | refine c7 ?_ | refine d2 ?_ | refine c8 ?_ | refine d0 ?_ | refine d4 ?_ | refine a5 (hk := ?_) | refine b5 (hk := ?_) | refine b7 (hk := ?_) | refine p0 (hk := ?_) | refine u7 (hk := ?_))
      refine ⟨n, by omega, _, _, d.app (.cons 3 0 ⟨0, 0, 0⟩ 0 .nil .nil .nil), by simp [Stps.app_len, Stps.len]; omega, by simp [Stps.app_sz, Stps.sz]; omega, xk2 (xk4 hk (xk4 hk hE (by omega)) (by omega)), get_setN hab (setN hak fa), ?_, ?_, ⟨z, y, get_setN (by omega) (setN (by omega) fz)⟩, at_mk ⟨rfl, rfl, trivial⟩, (List.append_nil _).symm⟩
      · rw [get_setN (Ne.symm hbk) (setE fk), Stps.app_rows]; rfl
      · rw [get_set (setN hbk fb), Stps.app_rows]; simp [Stps.rows]; rfl
  have q4 : (pickv bs p 8 == 4) = false := by simp; omega
  have q5 : (pickv bs p 8 == 5) = true := by simp; omega
  repeat' (first | refine c0 ?_ | refine c7 ?_ | refine d2 ?_ | refine c8 ?_ | refine d0 ?_ | refine d4 ?_ | refine d5 ?_ | refine a5 (hk := ?_) | refine b5 (hk := ?_) | refine d6 (ht := ?_) | refine u5 (hk := ?_) | refine u6 (hk := ?_))
  refine bs1 (hf := fm1 rfl (fm1 rfl (fm1 rfl (fm1 rfl (fm1 rfl (fm1 rfl (fm1 (fz_sl rfl (Nat.zero_le _) (get_old fk) rfl pss) (fm1 rfl fm0)))))))) (hk := ?_)
  repeat' (first | refine c0 ?_ | refine c2 ?_ | refine c3 ?_ | refine c5 ?_ | refine c7 ?_ | refine d2 ?_ | refine c8 ?_ | refine c9 ?_ | refine d0 ?_ | refine d1 ?_ | refine d4 ?_ | refine d5 ?_ | refine a5 (hk := ?_) | refine b5 (hk := ?_) | refine b7 (hk := ?_) | refine d6 (ht := ?_) | refine d7 (hf := ?_))
  refine ⟨_, _, rKC3 (o := RD bs (p + 1)) hk (RD_ok _ _) (h3 := get_set (setN (by omega) fz)) (hz := frzR_aggS (fmS (fz_slF rfl (by omega) (get_setN (by omega) (setN hab fa)) han (lrow_pure _)) (fmS rfl fm0)))
    (hE := xk4 hk (xk2 (xk4 hk (xk4 hk hE (by omega)) (by omega))) (by omega)), p + 1, by omega, by omega, ⟨ls, .cons 2 0 ⟨0, 0, 0⟩ 0 (.cons 2 0 ⟨0, 0, 0⟩ 0 (.cons 2 0 ⟨0, 0, 0⟩ 0 (.cons 2 0 ⟨0, 0, 0⟩ 0 ss .nil .nil) .nil .nil) .nil .nil) .nil .nil, rfl, by simp [Stps.sz]; omega, by omega⟩, rfl⟩
end Go.Proofs.X
end
section
namespace Go.Proofs.X
open Go Go.Proofs.XVai Go.Proofs Go.Proofs.XN
set_option linter.unusedVariables false
set_option linter.unusedSimpArgs false
set_option maxHeartbeats 4000000
set_option maxRecDepth 100000

theorem d_l71Any : Dr spec_l71Any [] 24020 (fun v => ∃ ls ss, v = PR ls ss ∧ ss.sz ≤ 100 ∧ ls.length ≤ 100) := by
  refine Dr_of fun bs p k S hb hp hk => ?_
  have hkl : k < S.length := (List.getElem?_eq_some_iff.1 hk).1
  refine E_startR (h := ?_)
  repeat' (first | refine c0 ?_ | refine c7 ?_ | refine d2 ?_ | refine d4 ?_ | refine b0 (hk := ?_) | refine a5 (hk := ?_))
  refine kE (hd := d_l71Prog) (h0 := hk) (hl := hb) (hp := by omega) (hk := ?_)
  rintro v q hq1 hq2 ⟨ls, ss, rfl, hok, hl1⟩
  obtain ⟨h1, h2, h3, h4⟩ := progOk_in hok
  repeat' (first | refine c0 ?_ | refine c7 ?_ | refine d2 ?_ | refine c9 ?_ | refine d0 ?_ | refine d4 ?_ | refine k0 (he := (by first | exact k_pick' (by first | assumption | exact get_old (by assumption) | exact get_set (by assumption)) hb (by omega))) (hk := ?_) | refine b0 (hk := ?_) | refine a5 (hk := ?_) | refine b5 (hk := ?_) | refine b7 (hk := ?_) | (with_reducible intro hc) | refine d8 (ht := ?_) (hf := ?_) | refine d9 (ht := ?_) (hf := ?_))
  · refine kD (hd := d_l71Fine) (h0 := ⟨_, hk⟩) (hl := hb) (hp := by omega) (hk := ?_)
    rintro v q2 hq3 hq4 ⟨ls, ss, rfl, hss, hl4, hl1⟩
    repeat' (first | refine c0 ?_ | refine c7 ?_ | refine d2 ?_ | refine c9 ?_ | refine d0 ?_ | refine d4 ?_ | refine k0 (he := (by first | exact k_pick' (by first | assumption | exact get_old (by assumption) | exact get_set (by assumption)) hb (by omega))) (hk := ?_) | refine a5 (hk := ?_) | refine b5 (hk := ?_) | refine b7 (hk := ?_) | (with_reducible intro hc) | refine d9 (ht := ?_) (hf := ?_))
    · refine kD (hd := d_l71Bent ls ss hl1 hl4 hss) (h0 := ⟨_, hk⟩) (hl := hb) (hp := by omega) (hk := ?_)
      rintro v q3 hq5 hq6 ⟨ls, ss, rfl, hss, hl⟩
      repeat' (first | refine c0 ?_ | refine c1 ?_ | refine c9 ?_ | refine d4 ?_ | refine b7 (hk := ?_))
      exact ⟨_, _, rKC hk (by first | exact xkS | exact xkZ) (RD_ok _ _) (h3 := by first | exact get_setO rfl | exact get_own rfl), q3, by omega, by omega, ⟨ls, ss, rfl, hss, hl⟩, rfl⟩
    · exact ⟨_, _, rKC hk (by first | exact xkS | exact xkZ) (RD_ok _ _) (h3 := by first | exact get_setO rfl | exact get_own rfl), q2 + 1, by omega, by omega, ⟨ls, ss, rfl, by omega, by omega⟩, rfl⟩
  · refine kD (hd := d_l71Bent ls ss hl1 h1 h4) (h0 := ⟨_, hk⟩) (hl := hb) (hp := by omega) (hk := ?_)
    rintro v q3 hq5 hq6 ⟨ls, ss, rfl, hss, hl⟩
    repeat' (first | refine c0 ?_ | refine c1 ?_ | refine c9 ?_ | refine d4 ?_ | refine b7 (hk := ?_))
    exact ⟨_, _, rKC hk (by first | exact xkS | exact xkZ) (RD_ok _ _) (h3 := by first | exact get_setO rfl | exact get_own rfl), q3, by omega, by omega, ⟨ls, ss, rfl, hss, hl⟩, rfl⟩
  · exact ⟨_, _, rKC hk (by first | exact xkS | exact xkZ) (RD_ok _ _) (h3 := by first | exact get_setO rfl | exact get_own rfl), q + 1 + 1, by omega, by omega, ⟨ls, ss, rfl, by omega, by omega⟩, rfl⟩
section
variable {fid : Nat} {T : Tm} {S : St} {K : Tm → St → Prop} {ops : Array Oper} {l : List Oper} {dst : Option Tmp} {ty : TypeId} {pos : String} {after : Array Edge} {g0 : Option (Nat × Bool)}
/-- The first so many of a slice. -/
theorem sl1 {t e z m : Nat} {ti : TI} {x hi : Operand} {rows : List (List HV)} {kk : IntKind} {n : Int} (hg : wantG ops g0 T = true := by rfl) (h1 : Y.tab t = some ti := by rfl) (h2 : ti.sh = .slice e := by rfl) (h3 : tsize Y e = some z := by rfl) (hx : ev T x = .lst rows := by rfl) (hh : ev T hi = .int kk n := by rfl) (hn : n = (m : Int)) (hm : m ≤ rows.length) (hz : rows.all (fun r => r.length == z) = true)
    (hk : OW Y fid ops none l (put T dst (.lst (rows.take m))) S K) : OW Y fid ops none (⟨dst, .slice t x none (some hi) none, ty, pos, after, g0⟩ :: l) T S K := by
  subst hn
  refine ⟨A_op hg (v := .lst (rows.take m)) ?_ hk.of⟩
  have hf : frzC 0 6 (.lst rows) S = some (.lst rows, S) := frzC_pure rfl
  simp only [cop, cslice, h1, h2, h3, hx, hf, hh, Option.map_none, Option.map_some, bound]
  rw [if_pos (by omega)]
  simp only [Int.toNat_natCast]
  rw [if_pos ⟨by omega, hm, hz⟩]
  rfl
end
theorem brow1' (l : List UInt8) : (l.map brow).all (fun r => r.length == 1) = true := by simp
theorem k_spec_l6Open (bs : List UInt8) (S : St) : EvR Y spec_l6Open [BY bs] S (fun v S' => ∃ J k, S' = S ++ J ∧ v = .ptr k 1 0 0 ∧ S.length ≤ k ∧ S'[k]? = some (RD (bs.take 2000) 0)) := by
  by_cases h : bs.length ≤ 2000
  · have hn : ¬ (((bs.map brow).length : Int) > 2000) := by simp; omega
    rw [List.take_of_length_le h]
    refine E_startR (h := ?_)
    repeat' (first | refine c0 ?_ | refine c7 ?_ | refine d2 ?_ | refine c9 ?_ | refine d0 ?_ | refine d4 ?_ | refine b1 (hk := ?_) | refine a5 (hk := ?_) | refine u8 (hk := ?_))
    exact ⟨_, _, rKeep, _, _, rfl, rfl, Nat.le_add_right _ _, get_own rfl⟩
  · have hn : ((bs.map brow).length : Int) > 2000 := by simp; omega
    refine E_startR (h := ?_)
    repeat' (first | refine c0 ?_ | refine c7 ?_ | refine d2 ?_ | refine d4 ?_ | refine a5 (hk := ?_) | refine u7 (hk := ?_))
    refine sl1 (m := 2000) (hn := rfl) (hm := by simp; omega) (hz := brow1' bs) (hk := ?_)
    repeat' (first | refine c0 ?_ | refine c7 ?_ | refine d2 ?_ | refine c9 ?_ | refine d4 ?_ | refine b1 (hk := ?_) | refine a5 (hk := ?_))
    refine ⟨_, _, rKeep, _, _, rfl, rfl, Nat.le_add_right _ _, ?_⟩
    have e : RD (bs.take 2000) 0 = .cells false [[.lst ((bs.map brow).take 2000), I ((0 : Nat) : Int)]] := by rw [RD, BY, List.map_take]
    rw [e]
    exact get_own rfl
end Go.Proofs.X
end
section
namespace Go.Proofs.X
open Go Go.Proofs.XVai Go.Proofs Go.Proofs.XN
set_option linter.unusedVariables false
set_option linter.unusedSimpArgs false
set_option maxHeartbeats 40000000
set_option maxRecDepth 100000

/-- What is in one of two sets. -/
def eitherG (a b : Int) : Int := a + b - bothG a b
theorem either8 : ∀ a : Nat, a < 8 → ∀ b : Nat, b < 8 → setB (eitherG a b) = true ∧ (∀ h : Nat, h < 3 → hasG (eitherG a b) h = (hasG a h || hasG b h)) := by decide +kernel
theorem either_set {a b : Int} (ha : setB a = true) (hb : setB b = true) : setB (eitherG a b) = true := by
  obtain ⟨n, hn, rfl⟩ := set8 ha
  obtain ⟨m, hm, rfl⟩ := set8 hb
  exact (either8 n hn m hm).1
theorem either_has {a b : Int} (ha : setB a = true) (hb : setB b = true) (h : Int) : hasG (eitherG a b) h = (hasG a h || hasG b h) := by
  by_cases hh : h = 0 ∨ h = 1 ∨ h = 2
  · obtain ⟨n, hn, rfl⟩ := set8 ha
    obtain ⟨m, hm, rfl⟩ := set8 hb
    have e := (either8 n hn m hm).2
    rcases hh with rfl | rfl | rfl
    · exact e 0 (by omega)
    · exact e 1 (by omega)
    · exact e 2 (by omega)
  · have no : ∀ c, hasG c h = false := fun c => by
      cases hc : hasG c h with
      | false => rfl
      | true => exact absurd (hasG_lt hc) hh
    rw [no, no, no]; rfl
theorem k_spec_l1Either (a b : Int) (S : St) (ha : setB a = true) (hb : setB b = true) : Ev Y spec_l1Either [I a, I b] S (I (eitherG a b)) S := by
  have hs := either_set ha hb
  simp only [setB, inB, decide_eq_true_eq] at ha hb hs
  unfold eitherG at hs ⊢
  refine E_start (h := ?_)
  repeat' (first | refine c0 ?_ | refine c7 ?_ | refine d2 ?_ | refine c9 ?_ | refine d4 ?_ | refine k0 (he := (by first | exact k_spec_l1Both _ _ _)) (hk := ?_) | refine a5 (hk := ?_))
  refine rI (hv := ?_)
  rw [i64_id (n := a + b) (by omega) (by omega), i64_id (by omega) (by omega)]
/-- Who trusts what steps set, with a set ahead. -/
def setsF (ls : List Lab) : Stps → Int → Int
  | .nil, o => o
  | .cons k v x h t e r, o => setsF ls r (eitherG (if k = 1 then eitherG o (labAt ls v).t else o) (eitherG (setsF ls t 0) (setsF ls e 0)))
theorem set0 : setB 0 = true := by decide
theorem setsF_set {ls : List Lab} (hls : ls.all labOk = true) : ∀ (l : Stps) (o : Int), setB o = true → setB (setsF ls l o) = true
  | .nil, o, h => h
  | .cons k v x hh t e r, o, h => by
    refine setsF_set hls r _ (either_set ?_ (either_set (setsF_set hls t 0 set0) (setsF_set hls e 0 set0)))
    split
    · exact either_set h (labOk_in (labAt_ok hls v)).2
    · exact h
theorem k_spec_l11Sets (n : Nat) (ls : List Lab) (ss : Stps) (hls : ls.all labOk = true) : ∀ (l : Stps) (S : St), l.sz ≤ n → l.sz ≤ 1048576 → varsOk ls.length l = true → Ev Y spec_l11Sets [PR ls ss, .lst l.rows] S (I (setsF ls l 0)) S := by
  induction n using Nat.strongRecOn with
  | _ n ih =>
    intro l S hn hb hv
    refine E_start (h := ?_)
    repeat' (first | refine c0 ?_ | refine c7 ?_ | refine d2 ?_ | refine c8 ?_ | refine d4 ?_ | refine b1 (hk := ?_) | refine a5 (hk := ?_))
    refine C_stps l (fun pre r T' S' => ∃ (T0 : Tm) (S1 : St) (o : Int), setB o = true ∧ varsOk ls.length r = true ∧ setsF ls l 0 = setsF ls r o ∧ Ext S S1 ∧ S1[S.length + 0]? = some (.cells false [[LS ls, .lst ss.rows]]) ∧
        T' = putL T0 [(1, .lst l.rows), (2, .ptr (S.length + 0) 1 0 0), (5, I o), (6, I pre.length)] ∧ S' = S1 ++ [])
      ⟨_, _, 0, set0, hv, rfl, ex0, get_own rfl, at_mk ⟨rfl, rfl, rfl, rfl, trivial⟩, (List.append_nil _).symm⟩ ?_ ?_
    · rintro pre k v x hh t e r T' S' hx hz ⟨T0, S1, o, ho, hvr, hq, hE, f0, rfl, rfl⟩
      have hg := mid hx
      have hlt := mid_lt hx
      have := l.rows_len
      have := l.len_sz
      have hc0 : (pre.length : Int) < (l.rows.length : Int) := by omega
      simp only [varsOk, Bool.and_eq_true] at hvr
      obtain ⟨hv0, hvt, hve, hvr⟩ := hvr
      obtain ⟨j, rfl, hj⟩ := vOk_at hv0
      have st := setsF_set hls t 0 set0
      have se := setsF_set hls e 0 set0
      have sl := (labOk_in (labAt_ok hls (j : Int))).2
      by_cases k1 : k = 1
      · subst k1
        repeat' (first | refine c0 ?_ | refine c3 ?_ | refine c7 ?_ | refine d2 ?_ | refine c8 ?_ | refine d0 ?_ | refine d4 ?_ | refine d3' (h := ?_) | refine d4' ?_ | refine k0 (he := (by first | exact k_spec_l1Either _ _ _ ho sl | exact ih t.sz (by omega) t _ (Nat.le_refl _) (by omega) hvt | exact ih e.sz (by omega) e _ (Nat.le_refl _) (by omega) hve | exact k_spec_l1Either _ _ _ st se | exact k_spec_l1Either _ _ _ (either_set ho sl) (either_set st se))) (hk := ?_) | refine k0' (he := (by first | exact k_spec_l1Either _ _ _ ho sl | exact ih t.sz (by omega) t _ (Nat.le_refl _) (by omega) hvt | exact ih e.sz (by omega) e _ (Nat.le_refl _) (by omega) hve | exact k_spec_l1Either _ _ _ st se | exact k_spec_l1Either _ _ _ (either_set ho sl) (either_set st se))) (hk := ?_) | refine b0 (hk := ?_) | refine a5 (hk := ?_) | refine b5 (hk := ?_) | refine b6 (hk := ?_) | refine b8 (hk := ?_) | refine b7 (hk := ?_) | refine e5' (hk := ?_) | refine f5' (hk := ?_) | refine d6 (ht := ?_) | refine u7 (hk := ?_))
        exact ⟨_, _, _, either_set (either_set ho sl) (either_set st se), hvr, by rw [hq]; simp [setsF], ex1 hE, get_old f0, at_mk ⟨rfl, rfl, rfl, inc (by omega), trivial⟩, (List.append_nil _).symm⟩
      · have kb : (k == 1) = false := by simpa using k1
        repeat' (first | refine c0 ?_ | refine c3 ?_ | refine c7 ?_ | refine d2 ?_ | refine c8 ?_ | refine d0 ?_ | refine d4 ?_ | refine d3' (h := ?_) | refine d4' ?_ | refine k0' (he := (by first | exact ih t.sz (by omega) t _ (Nat.le_refl _) (by omega) hvt | exact ih e.sz (by omega) e _ (Nat.le_refl _) (by omega) hve | exact k_spec_l1Either _ _ _ st se | exact k_spec_l1Either _ _ _ ho (either_set st se))) (hk := ?_) | refine b0 (hk := ?_) | refine a5 (hk := ?_) | refine b5 (hk := ?_) | refine b6 (hk := ?_) | refine b8 (hk := ?_) | refine b7 (hk := ?_) | refine e5' (hk := ?_) | refine f5' (hk := ?_) | refine u6 (hk := ?_) | refine u7 (hk := ?_))
        exact ⟨_, _, _, either_set ho (either_set st se), hvr, by rw [hq]; simp [setsF, k1], ex1 hE, get_old f0, at_mk ⟨rfl, rfl, rfl, inc (by omega), trivial⟩, (List.append_nil _).symm⟩
    · rintro pre T' S' hx ⟨T0, S1, o, ho, hvr, hq, hE, f0, rfl, rfl⟩
      have hc0 : ¬ ((pre.length : Int) < (l.rows.length : Int)) := by rw [hx]; omega
      repeat' (first | refine c0 ?_ | refine c2 ?_ | refine c5 ?_ | refine c7 ?_ | refine d2 ?_ | refine c9 ?_ | refine d1 ?_ | refine d4 ?_ | refine a5 (hk := ?_) | refine u8 (hk := ?_))
      exact rIx hE (hv := by rw [hq]; rfl)
def typeOk (ls : List Lab) (ss : Stps) : Bool := progOk ls ss && (whyP ls ss).isNone
theorem k_spec_TypeOk (ls : List Lab) (ss : Stps) (S : St) (hs : ss.sz ≤ 1048576) (hl : ls.length ≤ 1048576) : Ev Y spec_TypeOk [PR ls ss] S (.bool (typeOk ls ss)) S := by
  refine E_start (h := ?_)
  repeat' (first | refine c0 ?_ | refine c7 ?_ | refine d2 ?_ | refine c9 ?_ | refine d4 ?_ | refine a0 (hk := ?_) | refine k0 (he := (by first | exact k_spec_TypeWhy _ _ _ hs hl | exact k_spec_ProgOk _ _ _ hs hl)) (hk := ?_) | refine b1 (hk := ?_) | refine a4 (ht := ?_) (hf := ?_) | refine a5 (hk := ?_) | refine b5 (hk := ?_) | (with_reducible intro hc))
  all_goals (refine rB (hv := ?_); cases hw : whyP ls ss <;> simp_all [typeOk])
def progSize (ls : List Lab) (ss : Stps) : Int := if progOk ls ss then (ss.sz : Int) else -1
theorem k_spec_ProgSize (ls : List Lab) (ss : Stps) (S : St) (hs : ss.sz ≤ 1048576) (hl : ls.length ≤ 1048576) : Ev Y spec_ProgSize [PR ls ss] S (I (progSize ls ss)) S := by
  refine E_start (h := ?_)
  repeat' (first | refine c0 ?_ | refine c1 ?_ | refine c7 ?_ | refine d2 ?_ | refine c9 ?_ | refine d0 ?_ | refine d4 ?_ | refine k0 (he := (by first | exact k_spec_ProgOk _ _ _ hs hl | exact k_spec_l2Count' _ _ hs)) (hk := ?_) | refine b1 (hk := ?_) | refine a5 (hk := ?_) | refine b5 (hk := ?_) | (with_reducible intro hc) | refine d9 (ht := ?_) (hf := ?_))
  all_goals (refine rI (hv := ?_); simp_all [progSize])
/-- Is it told whom each trusts? -/
def trOk : List Int → Bool
  | [a, b, c] => (setB a && hasG a 0) && ((setB b && hasG b 1) && (setB c && hasG c 2))
  | _ => false
theorem k_spec_l21Trusts (ts : List Int) (S : St) (hl : ts.length ≤ 1048576) : Ev Y spec_l21Trusts [L ts] S (.bool (trOk ts)) S := by
  by_cases h3 : ts.length = 3
  · match ts, h3 with
    | [x, y, z], _ =>
      refine E_start (h := ?_)
      repeat' (first | refine c0 ?_ | refine c1 ?_ | refine c2 ?_ | refine c3 ?_ | refine c4 ?_ | refine c5 ?_ | refine c7 ?_ | refine d2 ?_ | refine c8 ?_ | refine c9 ?_ | refine d0 ?_ | refine d1 ?_ | refine d4 ?_ | refine d5 ?_ | refine a0 (hk := ?_) | refine k0 (he := (by first | exact k_spec_l1Set _ _ | exact k_spec_l1Has _ _ _)) (hk := ?_) | refine a4 (ht := ?_) (hf := ?_) | refine a5 (hk := ?_) | (with_reducible intro hc) | refine d6 (ht := ?_) | refine d7 (hf := ?_) | refine d9 (ht := ?_) (hf := ?_))
      all_goals (refine rB (hv := ?_); simp_all [trOk, wr1, wr2, show IntKind.i64.wrap (IntKind.i64.wrap 1 + 1) = 2 by decide, show IntKind.i64.wrap (1 + 1) = 2 by decide])
  · have hb : (((ts.map irow).length : Int) != 3) = true := by simp; omega
    rw [show trOk ts = false by
      unfold trOk
      split
      · simp at h3
      · rfl]
    refine E_start (h := ?_)
    repeat' (first | refine c0 ?_ | refine c1 ?_ | refine c7 ?_ | refine d2 ?_ | refine c9 ?_ | refine d4 ?_ | refine a5 (hk := ?_) | refine u5 (hk := ?_))
    exact rB (hv := rfl)
/-- Who trusts a host. -/
def byG (a b c h : Int) : Int := if h < 0 then 7 else (if hasG a h then 1 else 0) + (if hasG b h then 2 else 0) + (if hasG c h then 4 else 0)
theorem k_spec_l21By (a b c h : Int) (S : St) : Ev Y spec_l21By [L [a, b, c], I h] S (I (byG a b c h)) S := by
  by_cases hn : h < 0
  · refine E_start (h := ?_)
    repeat' (first | refine c0 ?_ | refine c1 ?_ | refine c7 ?_ | refine d2 ?_ | refine c9 ?_ | refine d4 ?_ | refine k0 (he := (by first | exact k_spec_l1All _)) (hk := ?_) | refine a5 (hk := ?_) | refine u7 (hk := ?_))
    exact rI (hv := by simp [byG, hn])
  · have e : byG a b c h = (if hasG a h then 1 else 0) + (if hasG b h then 2 else 0) + (if hasG c h then 4 else 0) := by simp [byG, hn]
    rw [e]
    have q0 : ∀ S, Ev Y spec_l1Has [I a, I h] S (.bool (hasG a h)) S := fun S => k_spec_l1Has a h S
    have q1 : ∀ S, Ev Y spec_l1Has [I b, I h] S (.bool (hasG b h)) S := fun S => k_spec_l1Has b h S
    have q2 : ∀ S, Ev Y spec_l1Has [I c, I h] S (.bool (hasG c h)) S := fun S => k_spec_l1Has c h S
    clear e
    generalize hasG a h = x0 at *
    generalize hasG b h = x1 at *
    generalize hasG c h = x2 at *
    cases x0 <;> cases x1 <;> cases x2
    all_goals refine E_start (h := ?_)
    · repeat' (first | refine c0 ?_ | refine c2 ?_ | refine c3 ?_ | refine c5 ?_ | refine c7 ?_ | refine d2 ?_ | refine c8 ?_ | refine c9 ?_ | refine d0 ?_ | refine d1 ?_ | refine d4 ?_ | refine d5 ?_ | refine k0 (he := (by first | exact q0 _ | exact q1 _ | exact q2 _)) (hk := ?_) | refine a5 (hk := ?_) | refine d6 (ht := ?_) | refine d7 (hf := ?_) | refine u8 (hk := ?_))
      exact rI (hv := rfl)
    · repeat' (first | refine c0 ?_ | refine c2 ?_ | refine c3 ?_ | refine c5 ?_ | refine c7 ?_ | refine d2 ?_ | refine c8 ?_ | refine c9 ?_ | refine d0 ?_ | refine d1 ?_ | refine d4 ?_ | refine d5 ?_ | refine k0 (he := (by first | exact q0 _ | exact q1 _ | exact q2 _)) (hk := ?_) | refine a5 (hk := ?_) | refine d6 (ht := ?_) | refine d7 (hf := ?_) | refine u8 (hk := ?_))
      exact rI (hv := rfl)
    · repeat' (first | refine c0 ?_ | refine c2 ?_ | refine c3 ?_ | refine c5 ?_ | refine c7 ?_ | refine d2 ?_ | refine c8 ?_ | refine c9 ?_ | refine d0 ?_ | refine d1 ?_ | refine d4 ?_ | refine d5 ?_ | refine k0 (he := (by first | exact q0 _ | exact q1 _ | exact q2 _)) (hk := ?_) | refine a5 (hk := ?_) | refine d6 (ht := ?_) | refine d7 (hf := ?_) | refine u8 (hk := ?_))
      exact rI (hv := rfl)
    · repeat' (first | refine c0 ?_ | refine c2 ?_ | refine c3 ?_ | refine c5 ?_ | refine c7 ?_ | refine d2 ?_ | refine c8 ?_ | refine c9 ?_ | refine d0 ?_ | refine d1 ?_ | refine d4 ?_ | refine d5 ?_ | refine k0 (he := (by first | exact q0 _ | exact q1 _ | exact q2 _)) (hk := ?_) | refine a5 (hk := ?_) | refine d6 (ht := ?_) | refine d7 (hf := ?_) | refine u8 (hk := ?_))
      exact rI (hv := rfl)
    · repeat' (first | refine c0 ?_ | refine c2 ?_ | refine c3 ?_ | refine c5 ?_ | refine c7 ?_ | refine d2 ?_ | refine c8 ?_ | refine c9 ?_ | refine d0 ?_ | refine d1 ?_ | refine d4 ?_ | refine d5 ?_ | refine k0 (he := (by first | exact q0 _ | exact q1 _ | exact q2 _)) (hk := ?_) | refine a5 (hk := ?_) | refine d6 (ht := ?_) | refine d7 (hf := ?_) | refine u8 (hk := ?_))
      exact rI (hv := rfl)
    · repeat' (first | refine c0 ?_ | refine c2 ?_ | refine c3 ?_ | refine c5 ?_ | refine c7 ?_ | refine d2 ?_ | refine c8 ?_ | refine c9 ?_ | refine d0 ?_ | refine d1 ?_ | refine d4 ?_ | refine d5 ?_ | refine k0 (he := (by first | exact q0 _ | exact q1 _ | exact q2 _)) (hk := ?_) | refine a5 (hk := ?_) | refine d6 (ht := ?_) | refine d7 (hf := ?_) | refine u8 (hk := ?_))
      exact rI (hv := rfl)
    · repeat' (first | refine c0 ?_ | refine c2 ?_ | refine c3 ?_ | refine c5 ?_ | refine c7 ?_ | refine d2 ?_ | refine c8 ?_ | refine c9 ?_ | refine d0 ?_ | refine d1 ?_ | refine d4 ?_ | refine d5 ?_ | refine k0 (he := (by first | exact q0 _ | exact q1 _ | exact q2 _)) (hk := ?_) | refine a5 (hk := ?_) | refine d6 (ht := ?_) | refine d7 (hf := ?_) | refine u8 (hk := ?_))
      exact rI (hv := rfl)
    · repeat' (first | refine c0 ?_ | refine c2 ?_ | refine c3 ?_ | refine c5 ?_ | refine c7 ?_ | refine d2 ?_ | refine c8 ?_ | refine c9 ?_ | refine d0 ?_ | refine d1 ?_ | refine d4 ?_ | refine d5 ?_ | refine k0 (he := (by first | exact q0 _ | exact q1 _ | exact q2 _)) (hk := ?_) | refine a5 (hk := ?_) | refine d6 (ht := ?_) | refine d7 (hf := ?_) | refine u8 (hk := ?_))
      exact rI (hv := rfl)
def homesOk (n : Nat) (hs : List Int) : Bool := hs.length == n && hs.all fun h => inB h 0 2
theorem k_spec_l21Homes (ls : List Lab) (ss : Stps) (hs : List Int) (S : St) (hl : ls.length ≤ 1048576) (hh : hs.length ≤ 1048576) : Ev Y spec_l21Homes [PR ls ss, L hs] S (.bool (homesOk ls.length hs)) S := by
  by_cases hn : hs.length = ls.length
  · have hb : (((hs.map irow).length : Int) != ((ls.map lrow).length : Int)) = false := by simp [hn]
    refine E_start (h := ?_)
    repeat' (first | refine c0 ?_ | refine c7 ?_ | refine d2 ?_ | refine c8 ?_ | refine d0 ?_ | refine d4 ?_ | refine b1 (hk := ?_) | refine a5 (hk := ?_) | refine b5 (hk := ?_) | refine u6 (hk := ?_))
    refine C_list hs (fun pre r T' S' => ∃ (T0 : Tm) (S1 : St), homesOk ls.length hs = (r.all fun h => inB h 0 2) ∧ Ext S S1 ∧ T' = putL T0 [(1, L hs), (5, I pre.length)] ∧ S' = S1 ++ [])
      ⟨_, _, by simp [homesOk, hn], ex0, at_mk ⟨rfl, rfl, trivial⟩, (List.append_nil _).symm⟩ ?_ ?_
    · rintro pre x r T' S' hx ⟨T0, S1, hq, hE, rfl, rfl⟩
      have hg := mid hx
      have hlt := mid_lt hx
      have hc0 : (pre.length : Int) < ((hs.map irow).length : Int) := by simp; omega
      rw [List.all_cons] at hq
      repeat' (first | refine c0 ?_ | refine c1 ?_ | refine c3 ?_ | refine c4 ?_ | refine c7 ?_ | refine d2 ?_ | refine c8 ?_ | refine c9 ?_ | refine d0 ?_ | refine d4 ?_ | refine k0 (he := (by first | exact k_spec_l6In _ _ _ _)) (hk := ?_) | refine a5 (hk := ?_) | refine b6 (hk := ?_) | refine b8 (hk := ?_) | (with_reducible intro hc) | refine u7 (hk := ?_) | refine d9 (ht := ?_) (hf := ?_))
      · refine rBx hE (hv := ?_)
        rw [hq]; simp at hc; simp [hc]
      · refine ⟨_, _, ?_, ex1 hE, at_mk ⟨rfl, inc (by omega), trivial⟩, (List.append_nil _).symm⟩
        rw [hq]; simp at hc; simp [hc]
    · rintro T' S' ⟨T0, S1, hq, hE, rfl, rfl⟩
      have hc0 : ¬ ((hs.length : Int) < ((hs.map irow).length : Int)) := by simp
      repeat' (first | refine c0 ?_ | refine c2 ?_ | refine c5 ?_ | refine c7 ?_ | refine d2 ?_ | refine c9 ?_ | refine d1 ?_ | refine d4 ?_ | refine a5 (hk := ?_) | refine u8 (hk := ?_))
      exact rBx hE (hv := by rw [hq]; rfl)
  · have hb : (((hs.map irow).length : Int) != ((ls.map lrow).length : Int)) = true := by simp; omega
    rw [show homesOk ls.length hs = false by simp [homesOk, hn]]
    refine E_start (h := ?_)
    repeat' (first | refine c0 ?_ | refine c1 ?_ | refine c7 ?_ | refine d2 ?_ | refine c9 ?_ | refine d4 ?_ | refine b1 (hk := ?_) | refine a5 (hk := ?_) | refine b5 (hk := ?_) | refine u5 (hk := ?_))
    exact rB (hv := rfl)
end Go.Proofs.X
end
section
namespace Go.Proofs.X
open Go Go.Proofs.XVai Go.Proofs Go.Proofs.XN
set_option linter.unusedVariables false
set_option linter.unusedSimpArgs false
set_option maxHeartbeats 40000000
set_option maxRecDepth 100000

/-- One step. -/
structure Stp where
  k : Int
  v : Int
  x : Vl
  h : Int
  t : Stps
  e : Stps
def Stps.list : Stps → List Stp
  | .nil => []
  | .cons k v x h t e r => ⟨k, v, x, h, t, e⟩ :: r.list
theorem Stps.rows_list : ∀ l : Stps, l.rows = l.list.map fun s => srow s.k s.v s.x s.h s.t s.e
  | .nil => rfl
  | .cons _ _ _ _ _ _ r => by simp [Stps.rows, Stps.list, Stps.rows_list r]
theorem Stps.list_len : ∀ l : Stps, l.list.length = l.len
  | .nil => rfl
  | .cons _ _ _ _ _ _ r => by simp [Stps.list, Stps.len, Stps.list_len r]
/-- Of each step, who trusts what is set by it. -/
def setsL (ls : List Lab) : Stps → List Int
  | .nil => []
  | .cons k v x h t e r => setsF ls (.cons k v x h t e .nil) 0 :: setsL ls r
theorem setsL_len (ls : List Lab) : ∀ l : Stps, (setsL ls l).length = l.len
  | .nil => rfl
  | .cons _ _ _ _ _ _ r => by simp [setsL, Stps.len, setsL_len ls r]
section
variable {fid : Nat} {T : Tm} {S : St} {K : Tm → St → Prop} {ops : Array Oper} {l : List Oper} {dst : Option Tmp} {ty : TypeId} {pos : String} {after : Array Edge} {g0 : Option (Nat × Bool)} {bs ix : Nat} {es : List (Nat × (Nat → Prop))} {ns : List (Nat × Nat)}
/-- A part of a slice, in a region that draws its order. -/
theorem slD {t e z i j : Nat} {ti : TI} {x lo hi : Operand} {rows : List (List HV)} {k1 k2 : IntKind} {n m : Int} (hg : wantG ops g0 T = true := by rfl) (h1 : Y.tab t = some ti := by rfl) (h2 : ti.sh = .slice e := by rfl) (h3 : tsize Y e = some z := by rfl) (hx : ev T x = .lst rows := by rfl) (hlo : ev T lo = .int k1 n := by rfl) (hhi : ev T hi = .int k2 m := by rfl)
    (hn : n = (i : Int)) (hm : m = (j : Int)) (hij : i ≤ j) (hj : j ≤ rows.length) (hz : rows.all (fun r => r.length == z) = true)
    (hk : DW Y fid ops bs (ix + 1) es ns l (put T dst (.lst ((rows.take j).drop i))) S K) : DW Y fid ops bs ix es ns (⟨dst, .slice t x (some lo) (some hi) none, ty, pos, after, g0⟩ :: l) T S K := by
  subst hn; subst hm
  have hf : frzC 0 6 (.lst rows) S = some (.lst rows, S) := frzC_pure rfl
  have hc : cop Y fid noCall (some (bs + ix)) ⟨dst, .slice t x (some lo) (some hi) none, ty, pos, after, g0⟩ T S = some (.lst ((rows.take j).drop i), S) := by
    simp only [cop, cslice, h1, h2, h3, hx, hf, hlo, hhi, Option.map_some, bound]
    rw [if_pos (by omega), if_pos (by omega)]
    simp only [Int.toNat_natCast]
    rw [if_pos ⟨hij, hj, hz⟩]
  have hE : isEO (.slice t x (some lo) (some hi) none) = false := rfl
  have hr : rdl (.slice t x (some lo) (some hi) none) T = [] := by simp only [rdl, reads, hx]
  refine DW_put hg ⟨0, cop_mono (noCall_le _) hc⟩ (fun _ => ⟨rfl, fun _ _ => rfl, fun k n fr rs h => ?_⟩) (fun x hx hxr hxe => ?_) (.inl rfl) (fun h => by rw [hE] at h; cases h) (.inl rfl) (fun _ => .inl hr) hk
  · rw [hx] at h; cases h
  · simp only [hE, Bool.false_eq_true, if_false]
    exact .inr ⟨fun A B hAB k hk => (by simp only at hk; rw [hr] at hk; cases hk), fun A B hAB => by cases hAB⟩
end
/-- Each step of a list, with all in it, is in form, and not large. -/
def allV (n m : Nat) : Stps → Bool
  | .nil => true
  | .cons k v x h t e r => (varsOk n (.cons k v x h t e .nil) && decide (1 + t.sz + e.sz ≤ m)) && allV n m r
theorem allV_app {n m : Nat} : ∀ a b : Stps, allV n m (a.app b) = (allV n m a && allV n m b)
  | .nil, _ => rfl
  | .cons _ _ _ _ _ _ r, b => by simp only [Stps.app, allV, allV_app r b, Bool.and_assoc]
theorem allV_all {n m : Nat} : ∀ l : Stps, varsOk n l = true → l.sz ≤ m → allV n m l.all = true
  | .nil, _, _ => rfl
  | .cons k v x h t e r, hv, hm => by
    simp only [varsOk, Bool.and_eq_true] at hv
    simp only [Stps.sz] at hm
    obtain ⟨v0, v1, v2, v3⟩ := hv
    simp only [Stps.all, allV, allV_app, allV_all (m := m) t v1 (by omega), allV_all (m := m) e v2 (by omega), allV_all (m := m) r v3 (by omega), varsOk, v0, v1, v2, Bool.and_true, Bool.true_and, decide_eq_true_eq]
    omega
theorem irow11 (l : List Int) : (l.map irow).all (fun r => r.length == 1) = true := by simp
theorem k_spec_TypeSets (ls : List Lab) (ss : Stps) (S : St) (hok : progOk ls ss = true) : Ev Y spec_TypeSets [PR ls ss] S (L (setsL ls ss.all)) S := by
  obtain ⟨h1, h2, h3, h4⟩ := progOk_in hok
  have hvs := stepsOk_vars _ _ _ h3
  have hno : (!progOk ls ss) = false := by rw [hok]; rfl
  have hfl := stepsOk_flat _ _ _ h3
  refine E_start (h := ?_)
  repeat' (first | refine c0 ?_ | refine c7 ?_ | refine d2 ?_ | refine c8 ?_ | refine d0 ?_ | refine d4 ?_ | refine k0 (he := (by first | exact k_spec_ProgOk _ _ _ (by omega) (by omega) | exact k_spec_l2All' _ _ (by omega))) (hk := ?_) | refine b1 (hk := ?_) | refine b3 (hk := ?_) | refine b4 (hk := ?_) | refine a5 (hk := ?_) | refine b5 (hk := ?_) | refine u6 (hk := ?_))
  refine C_stps ss.all (fun pre r T' S' => ∃ (T0 : Tm) (S1 : St) (d : List Int), allV ls.length ss.sz r = true ∧ setsL ls ss.all = d ++ setsL ls r ∧ d.length = pre.length ∧ Ext S S1 ∧ S1[S.length + 0]? = some (.cells false [[LS ls, .lst ss.rows]]) ∧ S1[S.length + 2]? = some (.cells true (d.map irow)) ∧
      T' = putL T0 [(1, .ptr (S.length + 0) 1 0 0), (3, .sl (S.length + 2) pre.length), (4, .lst ss.all.rows), (5, I pre.length)] ∧ S' = S1 ++ [])
    ⟨_, _, [], allV_all ss hvs (Nat.le_refl _), rfl, rfl, ex0, get_own rfl, get_own rfl, at_mk ⟨rfl, rfl, rfl, rfl, trivial⟩, (List.append_nil _).symm⟩ ?_ ?_
  · rintro pre k v x hh t e r T' S' hx hz ⟨T0, S1, d, ha, hq, hd, hE, f0, f2, rfl, rfl⟩
    have hg := mid hx
    have hlt := mid_lt hx
    have hrl := ss.all.rows_len
    have hrz := ss.all_len
    have hc0 : (pre.length : Int) < (ss.all.rows.length : Int) := by omega
    simp only [allV, Bool.and_eq_true, decide_eq_true_eq] at ha
    obtain ⟨⟨ha1, ha2⟩, ha3⟩ := ha
    have hone : (ss.all.rows.take (pre.length + 1)).drop pre.length = (Stps.cons k v x hh t e .nil).rows := by
      rw [hx, List.take_append, List.drop_append]
      simp [Stps.rows]
    have e1 : (d.map irow).length = pre.length := by simp [hd]
    have e2 := irow11 d
    have n0 : S.length + 0 ≠ S.length + 2 := by omega
    repeat' (first | refine c0 ?_ | refine c7 ?_ | refine d2 ?_ | refine c8 ?_ | refine d0 ?_ | refine d4 ?_ | refine d3' (h := ?_) | refine a5 (hk := ?_) | refine e5' (hk := ?_) | refine f5' (hk := ?_) | refine u7 (hk := ?_))
    refine slD (i := pre.length) (j := pre.length + 1) (hn := rfl) (hm := by rw [i64_id (by omega) (by omega)]; simp) (hij := by omega) (hj := by omega) (hz := ss.all.rows_eight) (hk := ?_)
    rw [hone]
    repeat' (first | refine c0 ?_ | refine c3 ?_ | refine d2 ?_ | refine d4 ?_ | refine d4' ?_ | refine k0' (he := (by first | exact k_spec_l11Sets _ ls ss h2 (.cons k v x hh t e .nil) _ (Nat.le_refl _) (by simp only [Stps.sz]; omega) ha1)) (hk := ?_) | refine a5 (hk := ?_) | refine b4' (hk := ?_) | refine e5' (hk := ?_) | refine p0' (hk := ?_))
    refine ⟨_, _, d ++ [setsF ls (.cons k v x hh t e .nil) 0], ha3, by rw [hq]; simp [setsL], by simp [hd], ex1 (ex2 hE (by omega)), get_setN n0 f0, ?_, at_mk ⟨rfl, by show HV.sl _ _ = _; simp, rfl, inc (by omega), trivial⟩, (List.append_nil _).symm⟩
    rw [get_set f2, List.map_append]; rfl
  · rintro pre T' S' hx ⟨T0, S1, d, ha, hq, hd, hE, f0, f2, rfl, rfl⟩
    have hc0 : ¬ ((pre.length : Int) < (ss.all.rows.length : Int)) := by rw [hx]; omega
    repeat' (first | refine c0 ?_ | refine c2 ?_ | refine c5 ?_ | refine c7 ?_ | refine d2 ?_ | refine c9 ?_ | refine d1 ?_ | refine d4 ?_ | refine a5 (hk := ?_) | refine u8 (hk := ?_))
    exact rLx hE (hk := by omega) (hn := by simp [hd]) (hp := irow_pure _) (hv := by rw [hq]; simp [setsL])
/-- What is looked at, in a row of one's own. -/
def LookAt (S : St) (k q : Nat) (ls : List Lab) (ss : Stps) (a b c : Int) : Prop :=
  S[k]? = some (.cells false [[LS ls, .lst ss.rows, L [a, b, c], .lst ss.all.rows, LS (ats ls ss lany), L (setsL ls ss.all), .sl q 3]]) ∧ S[q]? = some (.cells true ([byG a b c 0, byG a b c 1, byG a b c 2].map irow))
theorem k_spec_l21See (ls : List Lab) (ss : Stps) (a b c : Int) (S : St) (hok : progOk ls ss = true) : EvR Y spec_l21See [PR ls ss, L [a, b, c]] S (fun v S' => ∃ J k q, S' = S ++ J ∧ v = .ptr k 1 0 0 ∧ S.length ≤ k ∧ S.length ≤ q ∧ LookAt S' k q ls ss a b c) := by
  obtain ⟨h1, h2, h3, h4⟩ := progOk_in hok
  refine E_startR (h := ?_)
  repeat' (first | refine c0 ?_ | refine c2 ?_ | refine c3 ?_ | refine c5 ?_ | refine c7 ?_ | refine d2 ?_ | refine c8 ?_ | refine c9 ?_ | refine d0 ?_ | refine d1 ?_ | refine d4 ?_ | refine d3' (h := ?_) | refine d4' ?_ | refine d5 ?_ | refine k0' (he := (by first | exact k_spec_l2All' _ _ (by omega) | exact k_spec_TypeAt _ _ _ hok | exact k_spec_TypeSets _ _ _ hok | exact k_spec_l21By _ _ _ _ _)) (hk := ?_) | refine b1 (hk := ?_) | refine a5 (hk := ?_) | refine b1' (hk := ?_) | refine p1' (hk := ?_) | refine b4' (hk := ?_) | refine b7b (hk := ?_) | refine e5' (hk := ?_) | refine f5' (hk := ?_) | refine b7' (hk := ?_) | refine p0' (hk := ?_) | refine d6 (ht := ?_) | refine d7 (hf := ?_))
  exact ⟨_, _, rKeep, _, S.length + 11, S.length + 22, rfl, rfl, by omega, by omega, get_own rfl, get_own rfl⟩
end Go.Proofs.X
end
section
namespace Go.Proofs.X
open Go Go.Proofs.XVai Go.Proofs Go.Proofs.XN
set_option linter.unusedVariables false
set_option linter.unusedSimpArgs false
set_option maxHeartbeats 40000000
set_option maxRecDepth 100000

def homeG (ls : List Lab) (a b c v h : Int) : Bool := hasG (labAt ls v).k h && withinG (labAt ls v).t (byG a b c h)
theorem by_get (a b c : Int) {h : Nat} (hh : h < 3) : ([byG a b c 0, byG a b c 1, byG a b c 2].map irow)[h]? = some (irow (byG a b c h)) := by
  have : h = 0 ∨ h = 1 ∨ h = 2 := by omega
  rcases this with rfl | rfl | rfl <;> rfl
theorem k_spec_home (ls : List Lab) (ss : Stps) (a b c : Int) (k q j h : Nat) (S : St) (hL : LookAt S k q ls ss a b c) (hj : j < ls.length) (hh : h < 3) : Ev Y spec_l21Look_home [.ptr k 1 0 0, I j, I h] S (.bool (homeG ls a b c j h)) S := by
  obtain ⟨fk, fq⟩ := hL
  have hg : ls[j]? = some (labAt ls j) := by simp [labAt, hj]
  have hb := by_get a b c hh
  have hkq : k ≠ q := by
    rintro rfl
    rw [fk] at fq
    simp at fq
  cases q1 : hasG (labAt ls j).k h with
  | false =>
    have e1 : ∀ S, Ev Y spec_l1Has [I (labAt ls j).k, I h] S (.bool false) S := fun S => by
      have := k_spec_l1Has (labAt ls j).k h S
      rwa [q1] at this
    refine E_start (h := ?_)
    repeat' (first | refine c0 ?_ | refine c7 ?_ | refine d2 ?_ | refine c9 ?_ | refine d4 ?_ | refine d3' (h := ?_) | refine d4' ?_ | refine k0' (he := (by first | exact e1 _)) (hk := ?_) | refine a5 (hk := ?_) | refine e0' (hk := ?_) | refine e2' (hk := ?_) | refine e5' (hk := ?_) | refine f5' (hk := ?_) | refine f6' (hk := ?_) | refine f8' (hk := ?_))
    exact rB (hv := by simp [homeG, q1])
  | true =>
    have e1 : ∀ S, Ev Y spec_l1Has [I (labAt ls j).k, I h] S (.bool true) S := fun S => by
      have := k_spec_l1Has (labAt ls j).k h S
      rwa [q1] at this
    refine E_start (h := ?_)
    repeat' (first | refine c0 ?_ | refine c7 ?_ | refine d2 ?_ | refine c9 ?_ | refine d4 ?_ | refine d3' (h := ?_) | refine d4' ?_ | refine k0' (he := (by first | exact e1 _ | exact k_spec_l1Within _ _ _)) (hk := ?_) | refine a5 (hk := ?_) | refine e1' (hk := ?_) | refine e5' (hk := ?_) | refine f5' (hk := ?_) | refine f6' (hk := ?_) | refine f8' (hk := ?_) | refine f9' (hk := ?_))
    exact rB (hv := by simp [homeG, q1])
/-- The variables of which a step makes something. -/
def stepVars (k v : Int) (x : Vl) : List Int := if k = 1 then (if x.kind = 1 then [] else if x.kind = 2 then [x.a] else [x.a, x.b]) else [v]
theorem k_spec_l21Vars (k v : Int) (x : Vl) (h : Int) (t e : Stps) (S : St) : Ev Y spec_l21Vars [.agg (srow k v x h t e)] S (L (stepVars k v x)) S := by
  by_cases k1 : k = 1
  · subst k1
    by_cases x1 : x.kind = 1
    · have xb1 : (x.kind == 1) = true := by simpa using x1
      rw [show stepVars 1 v x = [] by simp [stepVars, x1]]
      refine E_start (h := ?_)
      repeat' (first | refine c0 ?_ | refine c1 ?_ | refine c4 ?_ | refine c7 ?_ | refine d2 ?_ | refine c8 ?_ | refine c9 ?_ | refine d4 ?_ | refine b1 (hk := ?_) | refine b3 (hk := ?_) | refine b4 (hk := ?_) | refine a5 (hk := ?_) | refine b5 (hk := ?_) | refine d6 (ht := ?_) | refine u5 (hk := ?_))
      exact rL (hp := rfl) (hv := rfl)
    · have xb1 : (x.kind == 1) = false := by simpa using x1
      by_cases x2 : x.kind = 2
      · have xb2 : (x.kind == 2) = true := by simpa using x2
        rw [show stepVars 1 v x = [x.a] by simp [stepVars, x2]]
        refine E_start (h := ?_)
        repeat' (first | refine c0 ?_ | refine c1 ?_ | refine c4 ?_ | refine c7 ?_ | refine d2 ?_ | refine c8 ?_ | refine c9 ?_ | refine d4 ?_ | refine b1 (hk := ?_) | refine b3 (hk := ?_) | refine a5 (hk := ?_) | refine b5 (hk := ?_) | refine d6 (ht := ?_) | refine u5 (hk := ?_) | refine u6 (hk := ?_))
        exact rV
      · have xb2 : (x.kind == 2) = false := by simpa using x2
        rw [show stepVars 1 v x = [x.a, x.b] by simp [stepVars, x1, x2]]
        refine E_start (h := ?_)
        repeat' (first | refine c0 ?_ | refine c1 ?_ | refine c3 ?_ | refine c4 ?_ | refine c7 ?_ | refine d2 ?_ | refine c8 ?_ | refine c9 ?_ | refine d0 ?_ | refine d4 ?_ | refine b1 (hk := ?_) | refine b3 (hk := ?_) | refine a5 (hk := ?_) | refine b5 (hk := ?_) | refine d6 (ht := ?_) | refine u6 (hk := ?_))
        exact rV
  · have kb : (k == 1) = false := by simpa using k1
    rw [show stepVars k v x = [v] by simp [stepVars, k1]]
    refine E_start (h := ?_)
    repeat' (first | refine c0 ?_ | refine c3 ?_ | refine c7 ?_ | refine d2 ?_ | refine c8 ?_ | refine c9 ?_ | refine d0 ?_ | refine d4 ?_ | refine b1 (hk := ?_) | refine b3 (hk := ?_) | refine a5 (hk := ?_) | refine b5 (hk := ?_) | refine u6 (hk := ?_))
    exact rV
def varG (ls : List Lab) (homes : List Int) (here : Lab) (h v : Int) : Bool := hasG (labAt ls v).k h && hasG here.k (nget homes v)
def stepG (ls : List Lab) (a b c : Int) (homes : List Int) (s : Stp) (here : Lab) (st h : Int) : Bool :=
  hasG here.k h && withinG st (byG a b c h) && (stepVars s.k s.v s.x).all (varG ls homes here h) && (s.k != 1 || hasG here.k (nget homes s.v))
theorem k_spec_step (ls : List Lab) (ss : Stps) (a b c : Int) (k q n h : Nat) (homes : List Int) (s : Stp) (here : Lab) (st : Int) (S : St) (hL : LookAt S k q ls ss a b c) (hn : n < ss.sz) (hz : ss.sz ≤ 1048576) (hs : ss.all.list[n]? = some s) (ha : (ats ls ss lany)[n]? = some here) (ht : (setsL ls ss.all)[n]? = some st)
    (hh : h < 3) (hho : homes.length = ls.length) (hv : vOk ls.length s.v = true) (hx : s.k = 1 → valOk ls.length s.x = true) :
    Ev Y spec_l21Look_step [.ptr k 1 0 0, L homes, I n, I h] S (.bool (stepG ls a b c homes s here st h)) S := by
  obtain ⟨fk, fq⟩ := hL
  have hkq : k ≠ q := by
    rintro rfl
    rw [fk] at fq
    simp at fq
  have hb := by_get a b c hh
  obtain ⟨sk, sv, sx, sh, stt, se⟩ := s
  simp only at hv hx
  have hrow : ss.all.rows[n]? = some (srow sk sv sx sh stt se) := by rw [Stps.rows_list, List.getElem?_map, hs]; rfl
  have hkl : k < S.length := (List.getElem?_eq_some_iff.1 fk).1
  have hql : q < S.length := (List.getElem?_eq_some_iff.1 fq).1
  cases q1 : hasG here.k h with
  | false =>
    have e1 : ∀ S, Ev Y spec_l1Has [I here.k, I h] S (.bool false) S := fun S => by
      have := k_spec_l1Has here.k h S
      rwa [q1] at this
    refine E_start (h := ?_)
    repeat' (first | refine c0 ?_ | refine c1 ?_ | refine c7 ?_ | refine d2 ?_ | refine c9 ?_ | refine d4 ?_ | refine d3' (h := ?_) | refine d4' ?_ | refine k0' (he := (by first | exact e1 _)) (hk := ?_) | refine b0 (hk := ?_) | refine a5 (hk := ?_) | refine b5 (hk := ?_) | refine b6 (hk := ?_) | refine b8 (hk := ?_) | refine b7 (hk := ?_) | refine e0' (hk := ?_) | refine e1' (hk := ?_) | refine e5' (hk := ?_) | refine f5' (hk := ?_) | refine d6 (ht := ?_))
    exact rB (hv := by simp [stepG, q1])
  | true =>
    have e1 : ∀ S, Ev Y spec_l1Has [I here.k, I h] S (.bool true) S := fun S => by
      have := k_spec_l1Has here.k h S
      rwa [q1] at this
    cases q2 : withinG st (byG a b c h) with
    | false =>
      have e2 : ∀ S, Ev Y spec_l1Within [I st, I (byG a b c h)] S (.bool false) S := fun S => by
        have := k_spec_l1Within st (byG a b c h) S
        rwa [q2] at this
      refine E_start (h := ?_)
      repeat' (first | refine c0 ?_ | refine c1 ?_ | refine c7 ?_ | refine d2 ?_ | refine c9 ?_ | refine d4 ?_ | refine d3' (h := ?_) | refine d4' ?_ | refine k0' (he := (by first | exact e1 _ | exact e2 _)) (hk := ?_) | refine b0 (hk := ?_) | refine a5 (hk := ?_) | refine b5 (hk := ?_) | refine b6 (hk := ?_) | refine b8 (hk := ?_) | refine b7 (hk := ?_) | refine e2' (hk := ?_) | refine e5' (hk := ?_) | refine f5' (hk := ?_) | refine f6' (hk := ?_) | refine f8' (hk := ?_) | refine f9' (hk := ?_) | refine d6 (ht := ?_))
      exact rB (hv := by simp [stepG, q1, q2])
    | true =>
      have e2 : ∀ S, Ev Y spec_l1Within [I st, I (byG a b c h)] S (.bool true) S := fun S => by
        have := k_spec_l1Within st (byG a b c h) S
        rwa [q2] at this
      refine E_start (h := ?_)
      repeat' (first | refine c0 ?_ | refine c7 ?_ | refine d2 ?_ | refine c8 ?_ | refine d0 ?_ | refine d4 ?_ | refine d3' (h := ?_) | refine d4' ?_ | refine k0 (he := (by first | exact e1 _ | exact e2 _ | exact k_spec_l21Vars _ _ _ _ _ _ _)) (hk := ?_) | refine k0' (he := (by first | exact e1 _ | exact e2 _ | exact k_spec_l21Vars _ _ _ _ _ _ _)) (hk := ?_) | refine b0 (hk := ?_) | refine a5 (hk := ?_) | refine b5 (hk := ?_) | refine b6 (hk := ?_) | refine b8 (hk := ?_) | refine b7 (hk := ?_) | refine e2' (hk := ?_) | refine e5' (hk := ?_) | refine f5' (hk := ?_) | refine f6' (hk := ?_) | refine f8' (hk := ?_) | refine f9' (hk := ?_) | refine d7 (hf := ?_))
      have hvok : ∀ y ∈ stepVars sk sv sx, vOk ls.length y = true := by
        intro y hy
        unfold stepVars at hy
        split at hy
        · rename_i k1
          have hx' := hx k1
          obtain ⟨xk, xa, xb⟩ := sx
          simp only [valOk] at hx'
          by_cases w1 : xk = 1
          · subst w1; simp at hy
          · by_cases w2 : xk = 2
            · subst w2; simp at hy hx'; rw [hy]; exact hx'.1
            · have h34 : xk = 3 ∨ xk = 4 := by
                by_cases h : xk = 3 ∨ xk = 4
                · exact h
                · simp [w1, w2, h] at hx'
              simp only [w1, w2, if_false, h34, if_true, Bool.and_eq_true] at hx'
              simp only [w1, w2, if_false, List.mem_cons, List.not_mem_nil, or_false] at hy
              rcases hy with rfl | rfl
              · exact hx'.1
              · exact hx'.2
        · simp at hy; rw [hy]; exact hv
      have hvl : (stepVars sk sv sx).length ≤ 2 := by
        unfold stepVars
        split
        · split
          · simp
          · split <;> simp
        · simp
      have hgo : stepG ls a b c homes ⟨sk, sv, sx, sh, stt, se⟩ here st h = ((stepVars sk sv sx).all (varG ls homes here h) && (sk != 1 || hasG here.k (nget homes sv))) := by simp [stepG, q1, q2]
      generalize hvs : stepVars sk sv sx = vs at *
      refine C_list vs (fun pre r T' S' => ∃ (T0 : Tm) (S1 : St), vs.all (varG ls homes here h) = r.all (varG ls homes here h) ∧ Ext S S1 ∧ S1[S.length + 0]? = some (.cells false [srow sk sv sx sh stt se]) ∧ S1[S.length + 1]? = some (.cells false [lrow here]) ∧
          T' = putL T0 [(0, .ptr k 1 0 0), (1, L homes), (3, I h), (9, .ptr (S.length + 0) 1 0 0), (10, .ptr (S.length + 1) 1 0 0), (11, L vs), (12, I pre.length)] ∧ S' = S1 ++ [])
        ⟨_, _, rfl, ex0, get_own rfl, get_own rfl, at_mk ⟨rfl, rfl, rfl, rfl, rfl, rfl, rfl, trivial⟩, (List.append_nil _).symm⟩ ?_ ?_
      · rintro pre y r T' S' hxs ⟨T0, S1, hq, hE, f0, f1, rfl, rfl⟩
        have hgv := mid hxs
        have hlt := mid_lt hxs
        have hc0 : (pre.length : Int) < ((vs.map irow).length : Int) := by simp; omega
        have hy := hvok y (by rw [hxs]; simp)
        obtain ⟨j, rfl, hj⟩ := vOk_at hy
        have hjl : j < homes.length := by rw [hho]; exact (List.getElem?_eq_some_iff.1 hj).1
        have hgh := nget_at hjl
        have fk1 : S1[k]? = _ := (hE.old hkl).trans fk
        have fq1 : S1[q]? = _ := (hE.old hql).trans fq
        rw [List.all_cons] at hq
        cases q3 : hasG (labAt ls j).k h with
        | false =>
          have e3 : ∀ S, Ev Y spec_l1Has [I (labAt ls j).k, I h] S (.bool false) S := fun S => by
            have := k_spec_l1Has (labAt ls j).k h S
            rwa [q3] at this
          repeat' (first | refine c0 ?_ | refine c1 ?_ | refine c4 ?_ | refine c7 ?_ | refine d2 ?_ | refine c8 ?_ | refine c9 ?_ | refine d0 ?_ | refine d4 ?_ | refine d3' (h := ?_) | refine d4' ?_ | refine k0' (he := (by first | exact e3 _)) (hk := ?_) | refine a5 (hk := ?_) | refine e0' (hk := ?_) | refine e1' (hk := ?_) | refine e5' (hk := ?_) | refine f5' (hk := ?_) | refine f6' (hk := ?_) | refine f8' (hk := ?_) | refine d6 (ht := ?_) | refine u7 (hk := ?_))
          exact rBx hE (hv := by rw [hgo, hq]; simp [varG, q3])
        | true =>
          have e3 : ∀ S, Ev Y spec_l1Has [I (labAt ls j).k, I h] S (.bool true) S := fun S => by
            have := k_spec_l1Has (labAt ls j).k h S
            rwa [q3] at this
          cases q4 : hasG here.k (nget homes j) with
          | false =>
            have e4 : ∀ S, Ev Y spec_l1Has [I here.k, I (nget homes j)] S (.bool false) S := fun S => by
              have := k_spec_l1Has here.k (nget homes j) S
              rwa [q4] at this
            repeat' (first | refine c0 ?_ | refine c1 ?_ | refine c4 ?_ | refine c7 ?_ | refine d2 ?_ | refine c8 ?_ | refine c9 ?_ | refine d0 ?_ | refine d4 ?_ | refine d3' (h := ?_) | refine d4' ?_ | refine k0' (he := (by first | exact e3 _ | exact e4 _)) (hk := ?_) | refine a5 (hk := ?_) | refine e2' (hk := ?_) | refine e5' (hk := ?_) | refine f5' (hk := ?_) | refine f6' (hk := ?_) | refine f8' (hk := ?_) | refine d6 (ht := ?_) | refine u7 (hk := ?_))
            exact rBx hE (hv := by rw [hgo, hq]; simp [varG, q4])
          | true =>
            have e4 : ∀ S, Ev Y spec_l1Has [I here.k, I (nget homes j)] S (.bool true) S := fun S => by
              have := k_spec_l1Has here.k (nget homes j) S
              rwa [q4] at this
            repeat' (first | refine c0 ?_ | refine c3 ?_ | refine c7 ?_ | refine d2 ?_ | refine c8 ?_ | refine d0 ?_ | refine d4 ?_ | refine d3' (h := ?_) | refine d4' ?_ | refine k0' (he := (by first | exact e3 _ | exact e4 _)) (hk := ?_) | refine a5 (hk := ?_) | refine e2' (hk := ?_) | refine e5' (hk := ?_) | refine f5' (hk := ?_) | refine f6' (hk := ?_) | refine f8' (hk := ?_) | refine d7 (hf := ?_) | refine u7 (hk := ?_))
            exact ⟨_, _, by rw [hq]; simp [varG, q3, q4], ex1 hE, get_old f0, get_old f1, at_mk ⟨rfl, rfl, rfl, rfl, rfl, rfl, inc (by omega), trivial⟩, (List.append_nil _).symm⟩
      · rintro T' S' ⟨T0, S1, hq, hE, f0, f1, rfl, rfl⟩
        have hc0 : ¬ ((vs.length : Int) < ((vs.map irow).length : Int)) := by simp
        obtain ⟨j, rfl, hj⟩ := vOk_at hv
        have hjl : j < homes.length := by rw [hho]; exact (List.getElem?_eq_some_iff.1 hj).1
        have hgh := nget_at hjl
        by_cases k1 : sk = 1
        · have kb : (sk != 1) = false := by simpa using k1
          repeat' (first | refine c0 ?_ | refine c2 ?_ | refine c5 ?_ | refine c7 ?_ | refine d2 ?_ | refine c9 ?_ | refine d1 ?_ | refine d4 ?_ | refine d3' (h := ?_) | refine d4' ?_ | refine k0' (he := (by first | exact k_spec_l1Has _ _ _)) (hk := ?_) | refine a5 (hk := ?_) | refine u2' (hk := ?_) | refine e5' (hk := ?_) | refine f5' (hk := ?_) | refine f6' (hk := ?_) | refine f8' (hk := ?_) | refine u8 (hk := ?_))
          exact rBx hE (hv := by rw [hgo, hq, kb]; simp)
        · have kb : (sk != 1) = true := by simpa using k1
          repeat' (first | refine c0 ?_ | refine c2 ?_ | refine c5 ?_ | refine c7 ?_ | refine d2 ?_ | refine c9 ?_ | refine d1 ?_ | refine d4 ?_ | refine d3' (h := ?_) | refine d4' ?_ | refine a5 (hk := ?_) | refine e0' (hk := ?_) | refine u1' (hk := ?_) | refine e5' (hk := ?_) | refine f5' (hk := ?_) | refine u8 (hk := ?_))
          exact rBx hE (hv := by rw [hgo, hq, kb]; simp)
end Go.Proofs.X
end
section
namespace Go.Proofs.X
open Go Go.Proofs.XVai Go.Proofs Go.Proofs.XN
set_option linter.unusedVariables false
set_option linter.unusedSimpArgs false
set_option maxHeartbeats 4000000

theorem pairs_add (a b : Nat) : ∃ r, pairs (a + b) = pairs a ++ r := by
  rw [pairs, List.range_add, List.flatMap_append]
  exact ⟨_, rfl⟩
theorem find_at {D : Nat × Nat → Bool} {n k i : Nat} (hk : k < i) (hi : i < n) (h1 : ∀ i', i' < i → ∀ k', k' < i' → D (k', i') = false) (h2 : ∀ k', k' < k → D (k', i) = false) (h3 : D (k, i) = true) : (pairs n).find? D = some (k, i) := by
  obtain ⟨m, rfl⟩ : ∃ m, n = i + 1 + m := ⟨n - (i + 1), by omega⟩
  obtain ⟨r, hr⟩ := pairs_add (i + 1) m
  have e1 : pairs (i + 1) = pairs i ++ (List.range i).map fun k => (k, i) := by simp [pairs, List.range_succ]
  obtain ⟨j, rfl⟩ : ∃ j, i = k + 1 + j := ⟨i - (k + 1), by omega⟩
  have e2 : (List.range (k + 1 + j)).map (fun q => (q, k + 1 + j)) = (List.range k).map (fun q => (q, k + 1 + j)) ++ (k, k + 1 + j) :: ((List.range j).map (k + 1 + ·)).map fun q => (q, k + 1 + j) := by
    rw [List.range_add, List.range_succ, List.map_append, List.map_append]; simp
  rw [List.find?_eq_some_iff_append]
  refine ⟨h3, pairs (k + 1 + j) ++ (List.range k).map (fun q => (q, k + 1 + j)), ((List.range j).map (k + 1 + ·)).map (fun q => (q, k + 1 + j)) ++ r, ?_, ?_⟩
  · rw [hr, e1, e2]; simp
  · rintro ⟨a, b⟩ ha
    rcases List.mem_append.1 ha with ha | ha
    · rw [pairs_mem] at ha
      simp [h1 b ha.2 a ha.1]
    · simp only [List.mem_map, List.mem_range, Prod.mk.injEq] at ha
      obtain ⟨q, hq, rfl, rfl⟩ := ha
      simp [h2 q hq]
theorem find_no {D : Nat × Nat → Bool} {n : Nat} (h1 : ∀ i', i' < n → ∀ k', k' < i' → D (k', i') = false) : (pairs n).find? D = none := by
  rw [List.find?_eq_none]
  rintro ⟨a, b⟩ ha
  rw [pairs_mem] at ha
  simp [h1 b ha.2 a ha.1]
theorem shl4 {n : Nat} (h : n ≤ 4) : IntKind.i64.wrap (1 * 2 ^ min (Int.toNat (n : Int)) IntKind.i64.bits) = ((2 ^ n : Nat) : Int) := by
  have : n = 0 ∨ n = 1 ∨ n = 2 ∨ n = 3 ∨ n = 4 := by omega
  rcases this with rfl | rfl | rfl | rfl | rfl <;> decide
theorem incN {i : Nat} (h : i < 9223372036854775807) : HV.int .i64 (IntKind.i64.wrap ((i : Int) + 1)) = I ((i + 1 : Nat)) := by
  rw [i64_id (by omega) (by omega)]; simp
theorem pow4 {n : Nat} (h : n ≤ 4) : 2 ^ n ≤ 16 := by
  have : n = 0 ∨ n = 1 ∨ n = 2 ∨ n = 3 ∨ n = 4 := by omega
  rcases this with rfl | rfl | rfl | rfl | rfl <;> decide
/-- Two rows that are the same in some variables, but of which something else comes. -/
def foundAt (ls : List Lab) (ss : Stps) (vars : List Bool) (h : Int) (told : Bool) (p : Nat × Nat) : Bool :=
  let a := row2 p.1 ls.length; let b := row2 p.2 ls.length
  sameOn a b vars && (if told then !(runTo (runOf ls ss a).ss h == runTo (runOf ls ss b).ss h) else !(runSets (runOf ls ss a).ws vars == runSets (runOf ls ss b).ws vars))
def FND (n : Nat) : Option (Nat × Nat) → HV
  | some (k, i) => .tup [L (row2 k n), L (row2 i n), .bool true]
  | none => .tup [L [], L [], .bool false]
/-- What comes of a row of bits is small. -/
theorem runOf_sz {ls : List Lab} {ss : Stps} (hok : progOk ls ss = true) (a : List Int) : (runOf ls ss a).ws.length ≤ 8 ∧ (runOf ls ss a).ss.length ≤ 8 := by
  obtain ⟨p1, p2, p3, p4⟩ := progOk_in hok
  unfold runOf
  split
  · rename_i h
    obtain ⟨_, h2, h3⟩ := numsOk_in h
    have := runs_in ss 3 ⟨a, [], []⟩ (by rw [h2]; exact p3) h3
    simp only [List.length_nil] at this
    omega
  · simp
theorem runTo_len (a : List (Int × Int)) (h : Int) : (runTo a h).length ≤ a.length := by
  rw [runTo, List.length_map]; exact List.length_filter_le _ _
theorem runSets_len (a : List (Int × Int)) (vs : List Bool) : (runSets a vs).length ≤ a.length := List.length_filter_le _ _
theorem k_spec_l12Find (ls : List Lab) (ss : Stps) (vars : List Bool) (h : Int) (told : Bool) (S : St) (hok : progOk ls ss = true) (hv : vars.length = ls.length) : Ev Y spec_l12Find [PR ls ss, BL vars, I h, .bool told] S (FND ls.length ((pairs (2 ^ ls.length)).find? (foundAt ls ss vars h told))) S := by
  obtain ⟨p1, p2, p3, p4⟩ := progOk_in hok
  have hsh := shl4 p1
  have hp4 := pow4 p1
  have hrs := fun a => runOf_sz hok a
  have hrl := fun m => row2_len m ls.length
  refine E_start (h := ?_)
  repeat' (first | refine c0 ?_ | refine c7 ?_ | refine d2 ?_ | refine c8 ?_ | refine d4 ?_ | refine b1 (hk := ?_) | refine b3 (hk := ?_) | refine a5 (hk := ?_) | refine b5 (hk := ?_))
  refine C_loop (fun m T' S' => ∃ (T0 : Tm) (S1 : St) (i : Nat), i + m = 2 ^ ls.length ∧ (∀ i', i' < i → ∀ k', k' < i' → foundAt ls ss vars h told (k', i') = false) ∧ Ext S S1 ∧ S1[S.length + 0]? = some (.cells false [[LS ls, .lst ss.rows]]) ∧
      T' = putL T0 [(1, BL vars), (2, I h), (3, .bool told), (4, .ptr (S.length + 0) 1 0 0), (11, I ls.length), (12, I i)] ∧ S' = S1 ++ []) (2 ^ ls.length)
    ⟨_, _, 0, by omega, by omega, ex0, get_own rfl, at_mk ⟨rfl, rfl, rfl, rfl, by show HV.int _ _ = _; simp, rfl, trivial⟩, (List.append_nil _).symm⟩ ?_
  rintro m T' S' ⟨T0, S1, i, hm, hno, hE, f0, rfl, rfl⟩
  cases m with
  | zero =>
    have hc0 : ¬ ((i : Int) < IntKind.i64.wrap (1 * 2 ^ min (Int.toNat (ls.length : Int)) IntKind.i64.bits)) := by rw [hsh]; omega
    repeat' (first | refine c0 ?_ | refine c2 ?_ | refine c5 ?_ | refine c7 ?_ | refine d2 ?_ | refine c9 ?_ | refine d1 ?_ | refine d4 ?_ | refine b4 (hk := ?_) | refine a5 (hk := ?_) | refine u8 (hk := ?_))
    refine rG (vs := [.sl (S1.length + 0) 0, .sl (S1.length + 1) 0, .bool false]) (v := .tup [.lst [], .lst [], .bool false]) (hz := frzR_tup (fmS (fzV_sl rfl (by have := hE.le; omega) (get_own rfl) rfl rfl) (fmS (fzV_sl rfl (by have := hE.le; omega) (get_own rfl) rfl rfl) (fmS rfl fm0)))) (hl := by have := hE.le; simp; omega) (ho := fun j hj => by rw [List.getElem?_append_left (by have := hE.le; omega), hE.old hj]) (hv := ?_)
    rw [find_no (by have : i = 2 ^ ls.length := by omega
                    rw [← this]; exact hno)]
    rfl
  | succ m =>
    have hc0 : (i : Int) < IntKind.i64.wrap (1 * 2 ^ min (Int.toNat (ls.length : Int)) IntKind.i64.bits) := by rw [hsh]; omega
    repeat' (first | refine c0 ?_ | refine c7 ?_ | refine d2 ?_ | refine c8 ?_ | refine d0 ?_ | refine d4 ?_ | refine a5 (hk := ?_) | refine u7 (hk := ?_))
    refine C_loop (fun m' T' S' => ∃ (T0 : Tm) (S1 : St) (k : Nat), k + m' = i ∧ (∀ k', k' < k → foundAt ls ss vars h told (k', i) = false) ∧ Ext S S1 ∧ S1[S.length + 0]? = some (.cells false [[LS ls, .lst ss.rows]]) ∧
        T' = putL T0 [(1, BL vars), (2, I h), (3, .bool told), (4, .ptr (S.length + 0) 1 0 0), (11, I ls.length), (12, I i), (13, I k)] ∧ S' = S1 ++ []) i
      ⟨_, _, 0, by omega, by omega, ex1 hE, get_old f0, at_mk ⟨rfl, rfl, rfl, rfl, rfl, rfl, rfl, trivial⟩, (List.append_nil _).symm⟩ ?_
    clear hE f0 S1 T0
    rintro m' T' S' ⟨T0, S1, k, hm', hno', hE, f0, rfl, rfl⟩
    cases m' with
    | zero =>
      have hc1 : ¬ ((k : Int) < (i : Int)) := by omega
      repeat' (first | refine c0 ?_ | refine c2 ?_ | refine c3 ?_ | refine c5 ?_ | refine c7 ?_ | refine d2 ?_ | refine d1 ?_ | refine d4 ?_ | refine a5 (hk := ?_) | refine u8 (hk := ?_))
      refine ⟨m, by omega, _, _, i + 1, by omega, fun i' hi' => ?_, ex1 hE, get_old f0, at_mk ⟨rfl, rfl, rfl, rfl, rfl, incN (by omega), trivial⟩, (List.append_nil _).symm⟩
      by_cases he : i' = i
      · subst he
        have : k = i' := by omega
        subst this
        exact hno'
      · exact hno i' (by omega)
    | succ m' =>
      have hc1 : (k : Int) < (i : Int) := by omega
      have r1 := fun S => k_spec_RunOf ls ss (row2 k ls.length) S (by omega) (by omega) (by rw [hrl]; omega)
      have r2 := fun S => k_spec_RunOf ls ss (row2 i ls.length) S (by omega) (by omega) (by rw [hrl]; omega)
      have hk1 := hrs (row2 k ls.length)
      have hk2 := hrs (row2 i ls.length)
      have hD : foundAt ls ss vars h told (k, i) = (sameOn (row2 k ls.length) (row2 i ls.length) vars && (if told then !(runTo (runOf ls ss (row2 k ls.length)).ss h == runTo (runOf ls ss (row2 i ls.length)).ss h) else !(runSets (runOf ls ss (row2 k ls.length)).ws vars == runSets (runOf ls ss (row2 i ls.length)).ws vars))) := rfl
      have go : foundAt ls ss vars h told (k, i) = false → ∀ k', k' < k + 1 → foundAt ls ss vars h told (k', i) = false := fun hf k' hk' => by
        by_cases he : k' = k
        · subst he; exact hf
        · exact hno' k' (by omega)
      cases told with
      | true =>
        repeat' (first | refine c0 ?_ | refine c1 ?_ | refine c2 ?_ | refine c3 ?_ | refine c4 ?_ | refine c5 ?_ | refine c7 ?_ | refine d2 ?_ | refine c8 ?_ | refine c9 ?_ | refine d0 ?_ | refine d1 ?_ | refine d4 ?_ | refine d3' (h := ?_) | refine d4' ?_ | refine k0 (he := (by first | exact k_spec_l12Row _ _ _ (by omega) (by omega) | exact k_spec_l12Same _ _ _ _ (by rw [hrl]; omega) (by rw [hrl]; omega) (by omega) | exact r1 _ | exact r2 _ | exact k_spec_RunTo _ _ _ _ _ (by omega) | exact k_spec_l12Ints _ _ _ (by have := runTo_len (runOf ls ss (row2 k ls.length)).ss h; omega) (by have := runTo_len (runOf ls ss (row2 i ls.length)).ss h; omega))) (hk := ?_) | refine k0' (he := (by first | exact k_spec_l12Row _ _ _ (by omega) (by omega) | exact k_spec_l12Same _ _ _ _ (by rw [hrl]; omega) (by rw [hrl]; omega) (by omega) | exact r1 _ | exact r2 _ | exact k_spec_RunTo _ _ _ _ _ (by omega) | exact k_spec_l12Ints _ _ _ (by have := runTo_len (runOf ls ss (row2 k ls.length)).ss h; omega) (by have := runTo_len (runOf ls ss (row2 i ls.length)).ss h; omega))) (hk := ?_) | refine b0 (hk := ?_) | refine a5 (hk := ?_) | refine b5 (hk := ?_) | refine b7 (hk := ?_) | refine e0' (hk := ?_) | refine e1' (hk := ?_) | refine e2' (hk := ?_) | refine e4' (ht := ?_) (hf := ?_) | refine e5' (hk := ?_) | refine f5' (hk := ?_) | (with_reducible intro hc) | refine d6 (ht := ?_) | refine d7 (hf := ?_) | refine u7 (hk := ?_) | refine d9 (ht := ?_) (hf := ?_))
        · refine ⟨m', by omega, _, _, k + 1, by omega, go (by simp at hc; rw [hD, hc]; rfl), ex1 hE, get_old f0, at_mk ⟨rfl, rfl, rfl, rfl, rfl, rfl, incN (by omega), trivial⟩, (List.append_nil _).symm⟩
        · rename_i hs
          refine rVx hE (vs := [L (row2 k ls.length), L (row2 i ls.length), .bool true]) (v := .tup [L (row2 k ls.length), L (row2 i ls.length), .bool true]) (hv := ?_)
          rw [find_at (k := k) (i := i) (by omega) (by omega) hno hno' (by rw [hD]; clear hD go r1 r2; simp_all)]
          rfl
        · rename_i hs
          refine ⟨m', by omega, _, _, k + 1, by omega, go (by rw [hD]; clear hD go r1 r2; simp_all), ex1 hE, get_old f0, at_mk ⟨rfl, rfl, rfl, rfl, rfl, rfl, incN (by omega), trivial⟩, (List.append_nil _).symm⟩
      | false =>
        repeat' (first | refine c0 ?_ | refine c1 ?_ | refine c2 ?_ | refine c3 ?_ | refine c4 ?_ | refine c5 ?_ | refine c7 ?_ | refine d2 ?_ | refine c8 ?_ | refine c9 ?_ | refine d0 ?_ | refine d1 ?_ | refine d4 ?_ | refine d3' (h := ?_) | refine d4' ?_ | refine k0 (he := (by first | exact k_spec_l12Row _ _ _ (by omega) (by omega) | exact k_spec_l12Same _ _ _ _ (by rw [hrl]; omega) (by rw [hrl]; omega) (by omega) | exact r1 _ | exact r2 _ | exact k_spec_RunSets _ _ _ _ _ (by omega) (by omega) | exact k_spec_l12Writes _ _ _ (by have := runSets_len (runOf ls ss (row2 k ls.length)).ws vars; omega) (by have := runSets_len (runOf ls ss (row2 i ls.length)).ws vars; omega))) (hk := ?_) | refine k0' (he := (by first | exact k_spec_l12Row _ _ _ (by omega) (by omega) | exact k_spec_l12Same _ _ _ _ (by rw [hrl]; omega) (by rw [hrl]; omega) (by omega) | exact r1 _ | exact r2 _ | exact k_spec_RunSets _ _ _ _ _ (by omega) (by omega) | exact k_spec_l12Writes _ _ _ (by have := runSets_len (runOf ls ss (row2 k ls.length)).ws vars; omega) (by have := runSets_len (runOf ls ss (row2 i ls.length)).ws vars; omega))) (hk := ?_) | refine b0 (hk := ?_) | refine a5 (hk := ?_) | refine b5 (hk := ?_) | refine b7 (hk := ?_) | refine e0' (hk := ?_) | refine e1' (hk := ?_) | refine e2' (hk := ?_) | refine e5' (hk := ?_) | refine f5' (hk := ?_) | (with_reducible intro hc) | refine u7 (hk := ?_) | refine d9 (ht := ?_) (hf := ?_))
        · refine ⟨m', by omega, _, _, k + 1, by omega, go (by simp at hc; rw [hD, hc]; rfl), ex1 hE, get_old f0, at_mk ⟨rfl, rfl, rfl, rfl, rfl, rfl, incN (by omega), trivial⟩, (List.append_nil _).symm⟩
        · rename_i hs
          refine rVx hE (vs := [L (row2 k ls.length), L (row2 i ls.length), .bool true]) (v := .tup [L (row2 k ls.length), L (row2 i ls.length), .bool true]) (hv := ?_)
          rw [find_at (k := k) (i := i) (by omega) (by omega) hno hno' (by rw [hD]; clear hD go r1 r2; simp_all)]
          rfl
        · rename_i hs
          refine ⟨m', by omega, _, _, k + 1, by omega, go (by rw [hD]; clear hD go r1 r2; simp_all), ex1 hE, get_old f0, at_mk ⟨rfl, rfl, rfl, rfl, rfl, rfl, incN (by omega), trivial⟩, (List.append_nil _).symm⟩
end Go.Proofs.X
end
section
namespace Go.Proofs.X
open Go Go.Proofs.XVai Go.Proofs Go.Proofs.XN
set_option linter.unusedVariables false
set_option linter.unusedSimpArgs false
set_option maxHeartbeats 40000000
set_option maxRecDepth 100000

def firstH (p : Nat → Bool) : Option Nat := if p 0 then some 0 else if p 1 then some 1 else if p 2 then some 2 else none
/-- May a host do a step? -/
def stepAt (ls : List Lab) (ss : Stps) (a b c : Int) (homes : List Int) (n h : Nat) : Bool := match ss.all.list[n]?, (ats ls ss lany)[n]?, (setsL ls ss.all)[n]? with
  | some s, some here, some st => stepG ls a b c homes s here st h
  | _, _, _ => false
/-- The first host for each step, from one on. -/
def doesG (ls : List Lab) (ss : Stps) (a b c : Int) (homes : List Int) : Nat → Nat → Option (List Int)
  | _, 0 => some []
  | n, m + 1 => match firstH (stepAt ls ss a b c homes n) with
    | none => none
    | some h => (doesG ls ss a b c homes (n + 1) m).map ((h : Int) :: ·)
theorem flat_list {n : Nat} : ∀ (l : Stps), flatOk n l = true → ∀ s ∈ l.list, vOk n s.v = true ∧ (s.k = 1 → valOk n s.x = true)
  | .nil, _, s, hs => by simp [Stps.list] at hs
  | .cons k v x h t e r, hf, s, hs => by
    simp only [flatOk, Bool.and_eq_true] at hf
    obtain ⟨f1, f2, f3, f4, f5⟩ := hf
    simp only [Stps.list, List.mem_cons] at hs
    rcases hs with rfl | hs
    · exact ⟨f1, fun hk => by have hk' : k = 1 := hk; simpa [hk'] using f2⟩
    · exact flat_list r f5 s hs
theorem LookAt.keep {S S' : St} {k q : Nat} {ls : List Lab} {ss : Stps} {a b c : Int} (h : LookAt S k q ls ss a b c) (hk : S'[k]? = S[k]?) (hq : S'[q]? = S[q]?) : LookAt S' k q ls ss a b c := ⟨by rw [hk]; exact h.1, by rw [hq]; exact h.2⟩
theorem k_spec_stepAt {ls : List Lab} {ss : Stps} {a b c : Int} {k q n h : Nat} {homes : List Int} {S : St} (hok : progOk ls ss = true) (hL : LookAt S k q ls ss a b c) (hn : n < ss.sz) (hh : h < 3) (hho : homes.length = ls.length) : Ev Y spec_l21Look_step [.ptr k 1 0 0, L homes, I n, I h] S (.bool (stepAt ls ss a b c homes n h)) S := by
  obtain ⟨h1, h2, h3, h4⟩ := progOk_in hok
  have hl := ss.all_len
  have z1 : n < ss.all.list.length := by rw [Stps.list_len, hl]; exact hn
  have z2 : n < (ats ls ss lany).length := by rw [ats_len]; exact hn
  have z3 : n < (setsL ls ss.all).length := by rw [setsL_len, hl]; exact hn
  have g1 := List.getElem?_eq_getElem z1
  have g2 := List.getElem?_eq_getElem z2
  have g3 := List.getElem?_eq_getElem z3
  obtain ⟨w1, w2⟩ := flat_list _ (stepsOk_flat _ _ _ h3) _ (List.getElem_mem z1)
  have := k_spec_step ls ss a b c k q n h homes _ _ _ S hL hn (by omega) g1 g2 g3 hh hho w1 w2
  simp only [stepAt, g1, g2, g3]
  exact this
def Does (ls : List Lab) (ss : Stps) (a b c : Int) (homes : List Int) (S : St) (v : HV) (S' : St) : Prop := (∃ J, S' = S ++ J) ∧ match doesG ls ss a b c homes 0 ss.sz with
  | none => ∃ qd, v = .tup [.sl qd 0, .bool false]
  | some d => ∃ qd, v = .tup [.sl qd d.length, .bool true] ∧ S.length ≤ qd ∧ S'[qd]? = some (.cells false (d.map irow))
theorem k_spec_does (ls : List Lab) (ss : Stps) (a b c : Int) (k q : Nat) (homes : List Int) (S : St) (hok : progOk ls ss = true) (hL : LookAt S k q ls ss a b c) (hho : homes.length = ls.length) : EvR Y spec_l21Look_does [.ptr k 1 0 0, L homes] S (Does ls ss a b c homes S) := by
  obtain ⟨h1, h2, h3, h4⟩ := progOk_in hok
  have hkl : k < S.length := (List.getElem?_eq_some_iff.1 hL.1).1
  have hql : q < S.length := (List.getElem?_eq_some_iff.1 hL.2).1
  have hrl := ss.all.rows_len
  have hrz := ss.all_len
  refine E_startR (h := ?_)
  repeat' (first | refine c0 ?_ | refine c7 ?_ | refine d2 ?_ | refine c8 ?_ | refine d4 ?_ | refine b3 (hk := ?_) | refine b4 (hk := ?_) | refine a5 (hk := ?_))
  refine C_loop (fun m T' S' => ∃ (T0 : Tm) (S1 : St) (n : Nat) (d : List Int), n + m = ss.sz ∧ d.length = n ∧ doesG ls ss a b c homes 0 ss.sz = (doesG ls ss a b c homes n m).map (d ++ ·) ∧ Ext S S1 ∧ S1[S.length + 1]? = some (.cells false (d.map irow)) ∧
      T' = putL T0 [(0, .ptr k 1 0 0), (1, L homes), (6, .sl (S.length + 1) n), (7, I n)] ∧ S' = S1 ++ []) ss.sz
    ⟨_, _, 0, [], by omega, rfl, by simp, ex0, get_own rfl, at_mk ⟨rfl, rfl, rfl, rfl, trivial⟩, (List.append_nil _).symm⟩ ?_
  rintro m T' S' ⟨T0, S1, n, d, hnm, hd, hq, hE, fO, rfl, rfl⟩
  have fk : S1[k]? = _ := (hE.old hkl).trans hL.1
  have hL1 : LookAt (S1 ++ []) k q ls ss a b c := hL.keep (by rw [List.append_nil]; exact hE.old hkl) (by rw [List.append_nil]; exact hE.old hql)
  cases m with
  | zero =>
    have hc0 : ¬ ((n : Int) < (ss.all.rows.length : Int)) := by omega
    repeat' (first | refine c0 ?_ | refine c2 ?_ | refine c5 ?_ | refine c7 ?_ | refine d2 ?_ | refine c9 ?_ | refine d1 ?_ | refine d4 ?_ | refine a5 (hk := ?_) | refine b5 (hk := ?_) | refine u8 (hk := ?_))
    refine ⟨_, _, rKeep, ?_, ?_⟩
    · obtain ⟨J, rfl⟩ := hE
      exact ⟨J ++ [], by rw [List.append_assoc]⟩
    · rw [hq]
      simp only [doesG, Option.map_some, List.append_nil]
      exact ⟨S.length + 1, by rw [hd]; rfl, by omega, by first | exact fO | exact get_old fO⟩
  | succ m =>
    have hc0 : (n : Int) < (ss.all.rows.length : Int) := by omega
    have s0 := k_spec_stepAt (n := n) (h := 0) (homes := homes) hok hL1 (by omega) (by omega) hho
    have s1 := k_spec_stepAt (n := n) (h := 1) (homes := homes) hok hL1 (by omega) (by omega) hho
    have s2 := k_spec_stepAt (n := n) (h := 2) (homes := homes) hok hL1 (by omega) (by omega) hho
    have e1 : (d.map irow).length = n := by simp [hd]
    have e2 : (d.map irow).all (fun r => r.length == 1) = true := by simp
    simp only [doesG, firstH] at hq
    have next : ∀ (w : Nat), w < 3 → doesG ls ss a b c homes 0 ss.sz = Option.map (d ++ ·) (Option.map ((w : Int) :: ·) (doesG ls ss a b c homes (n + 1) m)) → doesG ls ss a b c homes 0 ss.sz = (doesG ls ss a b c homes (n + 1) m).map ((d ++ [(w : Int)]) ++ ·) := fun w _ h => by
      rw [h]; cases doesG ls ss a b c homes (n + 1) m <;> simp
    have hin := incN (i := n) (by omega)
    cases q0 : stepAt ls ss a b c homes n 0 with
    | true =>
      rw [q0] at s0
      repeat' (first | refine c0 ?_ | refine c2 ?_ | refine c3 ?_ | refine c5 ?_ | refine c7 ?_ | refine d2 ?_ | refine c8 ?_ | refine d0 ?_ | refine d1 ?_ | refine d4 ?_ | refine d5 ?_ | refine k0 (he := (by first | exact s0)) (hk := ?_) | refine a1 (hk := ?_) | refine a2 (hk := ?_) | refine a5 (hk := ?_) | refine b5 (hk := ?_) | refine p0 (hk := ?_) | refine d6 (ht := ?_) | refine d7 (hf := ?_) | refine u7 (hk := ?_))
      refine ⟨m, by omega, _, _, n + 1, d ++ [0], by omega, by simp [hd], next 0 (by omega) (by rw [hq, q0]; rfl), ex1 (ex2 hE (by omega)), ?_, at_mk ⟨rfl, rfl, rfl, hin, trivial⟩, (List.append_nil _).symm⟩
      rw [get_set fO, List.map_append]; rfl
    | false =>
      rw [q0] at s0
      cases q1 : stepAt ls ss a b c homes n 1 with
      | true =>
        rw [q1] at s1
        repeat' (first | refine c0 ?_ | refine c2 ?_ | refine c3 ?_ | refine c5 ?_ | refine c7 ?_ | refine d2 ?_ | refine c8 ?_ | refine d0 ?_ | refine d1 ?_ | refine d4 ?_ | refine d5 ?_ | refine k0 (he := (by first | exact s0 | exact s1)) (hk := ?_) | refine a1 (hk := ?_) | refine a2 (hk := ?_) | refine a5 (hk := ?_) | refine b5 (hk := ?_) | refine p0 (hk := ?_) | refine d6 (ht := ?_) | refine d7 (hf := ?_) | refine u7 (hk := ?_))
        refine ⟨m, by omega, _, _, n + 1, d ++ [1], by omega, by simp [hd], next 1 (by omega) (by rw [hq, q0, q1]; rfl), ex1 (ex2 hE (by omega)), ?_, at_mk ⟨rfl, rfl, rfl, hin, trivial⟩, (List.append_nil _).symm⟩
        rw [get_set fO, List.map_append]; rfl
      | false =>
        rw [q1] at s1
        cases q2 : stepAt ls ss a b c homes n 2 with
        | true =>
          rw [q2] at s2
          repeat' (first | refine c0 ?_ | refine c2 ?_ | refine c3 ?_ | refine c5 ?_ | refine c7 ?_ | refine d2 ?_ | refine c8 ?_ | refine d0 ?_ | refine d1 ?_ | refine d4 ?_ | refine d5 ?_ | refine a0 (hk := ?_) | refine k0 (he := (by first | exact s0 | exact s1 | exact s2)) (hk := ?_) | refine a1 (hk := ?_) | refine a2 (hk := ?_) | refine a5 (hk := ?_) | refine b5 (hk := ?_) | refine p0 (hk := ?_) | refine d6 (ht := ?_) | refine d7 (hf := ?_) | refine u7 (hk := ?_))
          refine ⟨m, by omega, _, _, n + 1, d ++ [2], by omega, by simp [hd], next 2 (by omega) (by rw [hq, q0, q1, q2]; rfl), ex1 (ex2 hE (by omega)), ?_, at_mk ⟨rfl, rfl, rfl, hin, trivial⟩, (List.append_nil _).symm⟩
          rw [get_set fO, List.map_append]; rfl
        | false =>
          rw [q2] at s2
          repeat' (first | refine c0 ?_ | refine c1 ?_ | refine c2 ?_ | refine c3 ?_ | refine c4 ?_ | refine c5 ?_ | refine c7 ?_ | refine d2 ?_ | refine c8 ?_ | refine c9 ?_ | refine d0 ?_ | refine d1 ?_ | refine d4 ?_ | refine d5 ?_ | refine a0 (hk := ?_) | refine k0 (he := (by first | exact s0 | exact s1 | exact s2)) (hk := ?_) | refine b4 (hk := ?_) | refine a1 (hk := ?_) | refine a2 (hk := ?_) | refine a5 (hk := ?_) | refine b5 (hk := ?_) | refine d6 (ht := ?_) | refine d7 (hf := ?_) | refine u7 (hk := ?_))
          refine ⟨_, _, rKeep, ?_, ?_⟩
          · obtain ⟨J, rfl⟩ := hE
            exact ⟨J ++ _, by rw [List.append_assoc]⟩
          · rw [hq, q0, q1, q2]
            exact ⟨_, rfl⟩
end Go.Proofs.X
end
