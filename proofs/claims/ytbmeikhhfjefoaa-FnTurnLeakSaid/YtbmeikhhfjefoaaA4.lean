/- The canonical machine on which the functions are run, and contracts of functions, part 4 of 5. Conditions: none. -/
import Derived.Test.YtbmeikhhfjefoaaA3
set_option linter.all false
section
namespace Go.Proofs.X
open Go Go.Proofs.XVai Go.Proofs Go.Proofs.XN
set_option linter.unusedVariables false
set_option linter.unusedSimpArgs false

theorem run_consQ (k v : Int) (x : Vl) (h : Int) (t e rest : Stps) (r : Rn) : run (.cons k v x h t e rest) r = run rest (if k = 1 then ⟨r.nums.set v.toNat (valNum x r.nums), r.ws ++ [(v, valNum x r.nums)], r.ss⟩
      else if k = 3 then ⟨r.nums, r.ws, r.ss ++ [(h, nget r.nums v)]⟩ else if nget r.nums v ≠ 0 then run t r else run e r) := rfl
theorem runTo_app (a b : List (Int × Int)) (h : Int) : runTo (a ++ b) h = runTo a h ++ runTo b h := by simp [runTo]
theorem runSets_app (a b : List (Int × Int)) (vs : List Bool) : runSets (a ++ b) vs = runSets a vs ++ runSets b vs := by simp [runSets]
/-- To whom nothing is told, nothing is said. -/
theorem run_tells : ∀ (l : Stps) (h : Int) (r : Rn), tells l h = false → runTo (run l r).ss h = runTo r.ss h
  | .nil, _, _, _ => rfl
  | .cons k v x hh t e rest, h, r, ht => by
    simp only [tells, Bool.or_eq_false_iff] at ht
    obtain ⟨⟨h1, h2, h3⟩, h4⟩ := ht
    rw [run_consQ, run_tells rest h _ h4]
    split
    · rfl
    · split
      · rename_i k3
        have : hh ≠ h := by
          intro e
          simp [k3, e] at h1
        simp [runTo, this]
      · split
        · exact run_tells t h r h2
        · exact run_tells e h r h3
theorem leak_found {ls : List Lab} {ss : Stps} {h : Int} {k i : Nat} (hp : leakOf ls ss h = some (k, i)) : progOk ls ss = true ∧ inB h 0 2 = true ∧ k < i ∧ i < 2 ^ ls.length ∧ sameOn (row2 k ls.length) (row2 i ls.length) (knowsOf ls h) = true ∧
    (runTo (runOf ls ss (row2 k ls.length)).ss h == runTo (runOf ls ss (row2 i ls.length)).ss h) = false := by
  simp only [leakOf] at hp
  split at hp
  · rename_i h0
    rw [Bool.and_eq_true] at h0
    have h1 := List.find?_some hp
    have h2 := List.mem_of_find?_eq_some hp
    rw [pairs_mem] at h2
    simp only [leakAt, Bool.and_eq_true, Bool.not_eq_true'] at h1
    exact ⟨h0.1, h0.2, h2.1, h2.2, h1.1, h1.2⟩
  · cases hp
theorem sway_found {ls : List Lab} {ss : Stps} {h : Int} {k i : Nat} (hp : swayOf ls ss h = some (k, i)) : progOk ls ss = true ∧ inB h 0 2 = true ∧ k < i ∧ i < 2 ^ ls.length ∧ sameOn (row2 k ls.length) (row2 i ls.length) (trustsOf ls h) = true ∧
    (runSets (runOf ls ss (row2 k ls.length)).ws (trustsOf ls h) == runSets (runOf ls ss (row2 i ls.length)).ws (trustsOf ls h)) = false := by
  simp only [swayOf] at hp
  split at hp
  · rename_i h0
    rw [Bool.and_eq_true] at h0
    have h1 := List.find?_some hp
    have h2 := List.mem_of_find?_eq_some hp
    rw [pairs_mem] at h2
    simp only [swayAt, Bool.and_eq_true, Bool.not_eq_true'] at h1
    exact ⟨h0.1, h0.2, h2.1, h2.2, h1.1, h1.2⟩
  · cases hp
theorem runOf_tells {ls : List Lab} {ss : Stps} {h : Int} (ht : tells ss h = false) (a : List Int) : runTo (runOf ls ss a).ss h = [] := by
  unfold runOf
  split
  · rw [run_tells _ _ _ ht]; rfl
  · rfl
/-- Who is told nothing learns nothing. -/
theorem leak_told {ls : List Lab} {ss : Stps} {h : Int} {p : Nat × Nat} (hp : leakOf ls ss h = some p) : tells ss h = true ∧ inB h 0 2 = true := by
  obtain ⟨k, i⟩ := p
  obtain ⟨_, h1, _, _, _, h2⟩ := leak_found hp
  refine ⟨?_, h1⟩
  cases ht : tells ss h with
  | true => rfl
  | false =>
    rw [runOf_tells ht, runOf_tells ht] at h2
    simp at h2
theorem row2_bits (m n : Nat) : ((row2 m n).all fun x => x == 0 || x == 1) = true := by
  rw [List.all_eq_true]
  intro x hx
  simp only [row2, List.mem_map, List.mem_range] at hx
  obtain ⟨i, _, rfl⟩ := hx
  have : m / 2 ^ i % 2 = 0 ∨ m / 2 ^ i % 2 = 1 := by omega
  rcases this with h | h <;> simp [h]
/-- Each row of bits is the row of a number. -/
theorem row2_of : ∀ a : List Int, (∀ x ∈ a, x = 0 ∨ x = 1) → ∃ m, m < 2 ^ a.length ∧ row2 m a.length = a
  | [], _ => ⟨0, by simp, rfl⟩
  | x :: a, h => by
    obtain ⟨m, h1, h2⟩ := row2_of a fun y hy => h y (by simp [hy])
    obtain ⟨b, hb, rfl⟩ : ∃ b : Nat, b < 2 ∧ x = (b : Int) := by
      rcases h x (by simp) with rfl | rfl
      · exact ⟨0, by omega, rfl⟩
      · exact ⟨1, by omega, rfl⟩
    refine ⟨b + 2 * m, by rw [List.length_cons, Nat.pow_succ]; omega, ?_⟩
    rw [List.length_cons, row2, List.range_succ_eq_map, List.map_cons, List.map_map]
    have e0 : ((b + 2 * m) / 2 ^ 0 % 2 : Nat) = b := by simp; omega
    rw [e0]
    have key : (List.range a.length).map (fun i => (((b + 2 * m) / 2 ^ (i + 1) % 2 : Nat) : Int)) = a := by
      refine Eq.trans ?_ h2
      rw [row2]
      refine List.map_congr_left fun i _ => ?_
      congr 2
      rw [Nat.pow_succ, Nat.mul_comm (2 ^ i) 2, ← Nat.div_div_eq_div_mul]
      congr 1; omega
    congr 1
theorem sameOn_symm {a b : List Int} {vs : List Bool} (h : sameOn a b vs = true) : sameOn b a vs = true :=
  (sameOn_get _ _ _).2 fun i hi hv => ((sameOn_get _ _ _).1 h i hi hv).symm
/-- If no rows are told there are none. -/
theorem sway_all {ls : List Lab} {ss : Stps} {h : Int} (hok : progOk ls ss = true) (hh : inB h 0 2 = true) (hn : swayOf ls ss h = none) {a b : List Int} (ha : a.length = ls.length) (hb : b.length = ls.length) (ba : ∀ x ∈ a, x = 0 ∨ x = 1) (bb : ∀ x ∈ b, x = 0 ∨ x = 1)
    (hs : sameOn a b (trustsOf ls h) = true) : runSets (runOf ls ss a).ws (trustsOf ls h) = runSets (runOf ls ss b).ws (trustsOf ls h) := by
  obtain ⟨m1, h1, e1⟩ := row2_of a ba
  obtain ⟨m2, h2, e2⟩ := row2_of b bb
  rw [ha] at h1 e1
  rw [hb] at h2 e2
  simp only [swayOf, hok, hh, Bool.and_self, if_true, List.find?_eq_none] at hn
  rcases Nat.lt_trichotomy m1 m2 with hlt | rfl | hlt
  · have := hn (m1, m2) (pairs_mem.2 ⟨hlt, h2⟩)
    simp only [swayAt, e1, e2, hs, Bool.true_and, Bool.not_eq_true', Bool.not_eq_false, beq_iff_eq] at this
    exact this
  · rw [← e1, ← e2]
  · have := hn (m2, m1) (pairs_mem.2 ⟨hlt, h1⟩)
    simp only [swayAt, e1, e2, sameOn_symm hs, Bool.true_and, Bool.not_eq_true', Bool.not_eq_false, beq_iff_eq] at this
    exact this.symm
end Go.Proofs.X
end
section
namespace Go.Proofs.X
open Go Go.Proofs.XVai Go.Proofs Go.Proofs.XN
set_option linter.unusedVariables false
set_option linter.unusedSimpArgs false
set_option maxHeartbeats 4000000

/-- Numbers are small. -/
def small (nums : List Int) : Prop := ∀ n ∈ nums, 0 ≤ n ∧ n ≤ 9
theorem nget_at {nums : List Int} {j : Nat} (h : j < nums.length) : nums[j]? = some (nget nums (j : Int)) := by
  simp [nget, h]
theorem small_nget {nums : List Int} (hs : small nums) (v : Int) : 0 ≤ nget nums v ∧ nget nums v ≤ 9 := by
  unfold nget
  rw [List.getD_eq_getElem?_getD]
  cases h : nums[v.toNat]? with
  | none => simp
  | some x => exact hs x (List.mem_of_getElem? h)
theorem vOk_nat {n : Nat} {v : Int} (h : vOk n v = true) : ∃ j : Nat, v = j ∧ j < n := by
  simp only [vOk, inB, decide_eq_true_eq] at h
  obtain ⟨j, rfl⟩ := Int.eq_ofNat_of_zero_le h.1
  exact ⟨j, rfl, by omega⟩
theorem k_spec_l3Num (x : Vl) (nums : List Int) (q : Nat) (fr : Bool) (S : St) (hx : valOk nums.length x = true) (hs : small nums) (hq : S[q]? = some (.cells fr (nums.map irow))) : Ev Y spec_l3Num [.agg (vrow x), .sl q nums.length] S (I (valNum x nums)) S := by
  obtain ⟨k, a, b⟩ := x
  have hn : (nums.map irow).length = nums.length := by simp
  simp only [valOk] at hx
  by_cases k1 : k = 1
  · subst k1
    refine E_start (h := ?_)
    repeat' (first | refine c0 ?_ | refine c1 ?_ | refine c4 ?_ | refine c7 ?_ | refine d2 ?_ | refine c8 ?_ | refine c9 ?_ | refine d4 ?_ | refine b1 (hk := ?_) | refine a5 (hk := ?_) | refine b5 (hk := ?_) | refine d6 (ht := ?_))
    exact rI (hv := by simp [valNum])
  by_cases k2 : k = 2
  · subst k2
    simp at hx
    obtain ⟨j, rfl, hj⟩ := vOk_nat hx.1
    have hg := nget_at hj
    have hg' := map_get (f := irow) hg
    refine E_start (h := ?_)
    repeat' (first | refine c0 ?_ | refine c1 ?_ | refine c4 ?_ | refine c7 ?_ | refine d2 ?_ | refine c8 ?_ | refine c9 ?_ | refine d4 ?_ | refine b1 (hk := ?_) | refine a5 (hk := ?_) | refine b5 (hk := ?_) | refine b9 (hk := ?_) | refine d6 (ht := ?_) | refine d7 (hf := ?_))
    exact rI (hv := by simp [valNum])
  have h34 : k = 3 ∨ k = 4 := by
    by_cases h : k = 3 ∨ k = 4
    · exact h
    · simp [k1, k2, h] at hx
  have hx2 : vOk nums.length a = true ∧ vOk nums.length b = true := by
    rcases h34 with rfl | rfl <;> simpa using hx
  obtain ⟨j, rfl, hj⟩ := vOk_nat hx2.1
  obtain ⟨i, rfl, hi⟩ := vOk_nat hx2.2
  have hg := nget_at hj
  have hg2 := nget_at hi
  have hg' := map_get (f := irow) hg
  have hg2' := map_get (f := irow) hg2
  have bu := small_nget hs (j : Int)
  have bw := small_nget hs (i : Int)
  rcases h34 with rfl | rfl
  · have e : valNum ⟨3, j, i⟩ nums = (nget nums j + nget nums i).tmod 10 := by simp [valNum]
    rw [e]
    generalize nget nums (j : Int) = u at *
    generalize nget nums (i : Int) = w at *
    refine E_start (h := ?_)
    repeat' (first | refine c0 ?_ | refine c1 ?_ | refine c4 ?_ | refine c7 ?_ | refine d2 ?_ | refine c8 ?_ | refine c9 ?_ | refine d4 ?_ | refine d3' (h := ?_) | refine d4' ?_ | refine b1 (hk := ?_) | refine a5 (hk := ?_) | refine b5 (hk := ?_) | refine e5' (hk := ?_) | refine f5' (hk := ?_) | refine f9' (hk := ?_) | refine d6 (ht := ?_) | refine d7 (hf := ?_))
    exact rI (hv := by rw [i64_id (by omega) (by omega)])
  · have e : valNum ⟨4, j, i⟩ nums = if nget nums j = nget nums i then 1 else 0 := by simp [valNum]
    rw [e]
    generalize nget nums (j : Int) = u at *
    generalize nget nums (i : Int) = w at *
    refine E_start (h := ?_)
    repeat' (first | refine c0 ?_ | refine c1 ?_ | refine c3 ?_ | refine c7 ?_ | refine d2 ?_ | refine c8 ?_ | refine c9 ?_ | refine d0 ?_ | refine d4 ?_ | refine d3' (h := ?_) | refine d4' ?_ | refine b1 (hk := ?_) | refine a5 (hk := ?_) | refine b5 (hk := ?_) | refine e5' (hk := ?_) | refine f5' (hk := ?_) | refine f9' (hk := ?_) | (with_reducible intro hc) | refine d7 (hf := ?_) | refine d9 (ht := ?_) (hf := ?_))
    · exact rI (hv := by simp at hc; simp [hc])
    · exact rI (hv := by simp at hc; simp [hc])
/-- The variables of a value. -/
def varsV (x : Vl) : List Int := if x.kind = 2 then [x.a] else if x.kind = 3 ∨ x.kind = 4 then [x.a, x.b] else []
theorem k_impl_Val_vars (x : Vl) (S : St) : Ev Y impl_Val_vars [.agg (vrow x)] S (L (varsV x)) S := by
  obtain ⟨k, a, b⟩ := x
  by_cases k2 : k = 2
  · subst k2
    refine E_start (h := ?_)
    repeat' (first | refine c0 ?_ | refine c1 ?_ | refine c4 ?_ | refine c7 ?_ | refine d2 ?_ | refine c8 ?_ | refine c9 ?_ | refine d4 ?_ | refine b1 (hk := ?_) | refine b3 (hk := ?_) | refine a5 (hk := ?_) | refine b5 (hk := ?_) | refine d6 (ht := ?_))
    exact rV
  by_cases k3 : k = 3
  · subst k3
    refine E_start (h := ?_)
    repeat' (first | refine c0 ?_ | refine c1 ?_ | refine c4 ?_ | refine c7 ?_ | refine d2 ?_ | refine c8 ?_ | refine c9 ?_ | refine d0 ?_ | refine d4 ?_ | refine b1 (hk := ?_) | refine b3 (hk := ?_) | refine a5 (hk := ?_) | refine b5 (hk := ?_) | refine d6 (ht := ?_) | refine d7 (hf := ?_))
    exact rV
  by_cases k4 : k = 4
  · subst k4
    refine E_start (h := ?_)
    repeat' (first | refine c0 ?_ | refine c1 ?_ | refine c4 ?_ | refine c7 ?_ | refine d2 ?_ | refine c8 ?_ | refine c9 ?_ | refine d4 ?_ | refine b1 (hk := ?_) | refine b3 (hk := ?_) | refine a5 (hk := ?_) | refine b5 (hk := ?_) | refine d6 (ht := ?_) | refine d7 (hf := ?_))
    exact rV
  have q2 : (k == 2) = false := by simpa using k2
  have q3 : (k == 3) = false := by simpa using k3
  have q4 : (k == 4) = false := by simpa using k4
  rw [show varsV ⟨k, a, b⟩ = [] by simp [varsV, k2, k3, k4]]
  refine E_start (h := ?_)
  repeat' (first | refine c0 ?_ | refine c3 ?_ | refine c7 ?_ | refine d2 ?_ | refine c8 ?_ | refine c9 ?_ | refine d0 ?_ | refine d4 ?_ | refine b1 (hk := ?_) | refine b3 (hk := ?_) | refine a5 (hk := ?_) | refine b5 (hk := ?_) | refine u6 (hk := ?_))
  exact rL (hp := rfl) (hv := rfl)
theorem k_impl_Val_of (x : Vl) (nums : List Int) (S : St) (hx : valOk nums.length x = true) (hs : small nums) : Ev Y impl_Val_of [.agg (vrow x), L ((varsV x).map (nget nums))] S (I (valNum x nums)) S := by
  obtain ⟨k, a, b⟩ := x
  simp only [valOk] at hx
  have bu := small_nget hs a
  have bw := small_nget hs b
  by_cases k1 : k = 1
  · subst k1
    refine E_start (h := ?_)
    repeat' (first | refine c0 ?_ | refine c1 ?_ | refine c4 ?_ | refine c7 ?_ | refine d2 ?_ | refine c8 ?_ | refine c9 ?_ | refine d4 ?_ | refine b1 (hk := ?_) | refine a5 (hk := ?_) | refine b5 (hk := ?_) | refine d6 (ht := ?_))
    exact rI (hv := by simp [valNum])
  by_cases k2 : k = 2
  · subst k2
    refine E_start (h := ?_)
    repeat' (first | refine c0 ?_ | refine c1 ?_ | refine c4 ?_ | refine c7 ?_ | refine d2 ?_ | refine c8 ?_ | refine c9 ?_ | refine d4 ?_ | refine b1 (hk := ?_) | refine a5 (hk := ?_) | refine b5 (hk := ?_) | refine d6 (ht := ?_) | refine d7 (hf := ?_))
    exact rI (hv := by simp [valNum])
  have h34 : k = 3 ∨ k = 4 := by
    by_cases h : k = 3 ∨ k = 4
    · exact h
    · simp [k1, k2, h] at hx
  rcases h34 with rfl | rfl
  · refine E_start (h := ?_)
    repeat' (first | refine c0 ?_ | refine c1 ?_ | refine c4 ?_ | refine c7 ?_ | refine d2 ?_ | refine c8 ?_ | refine c9 ?_ | refine d4 ?_ | refine d3' (h := ?_) | refine d4' ?_ | refine b1 (hk := ?_) | refine a5 (hk := ?_) | refine b5 (hk := ?_) | refine e5' (hk := ?_) | refine d6 (ht := ?_) | refine d7 (hf := ?_))
    exact rI (hv := by
      show (IntKind.i64.wrap (nget nums a + nget nums b)).tmod 10 = _
      rw [i64_id (by omega) (by omega)]; simp [valNum])
  · refine E_start (h := ?_)
    repeat' (first | refine c0 ?_ | refine c1 ?_ | refine c3 ?_ | refine c7 ?_ | refine d2 ?_ | refine c8 ?_ | refine c9 ?_ | refine d0 ?_ | refine d4 ?_ | refine d3' (h := ?_) | refine d4' ?_ | refine b1 (hk := ?_) | refine a5 (hk := ?_) | refine b5 (hk := ?_) | refine e5' (hk := ?_) | (with_reducible intro hc) | refine d7 (hf := ?_) | refine d9 (ht := ?_) (hf := ?_))
    · exact rI (hv := by simp at hc; simp [valNum, hc])
    · exact rI (hv := by simp at hc; simp [valNum, hc])
end Go.Proofs.X
end
section
namespace Go.Proofs.X
open Go Go.Proofs.XVai Go.Proofs Go.Proofs.XN
set_option linter.unusedVariables false
set_option linter.unusedSimpArgs false

theorem hasG_lt {a h : Int} (hh : hasG a h = true) : h = 0 ∨ h = 1 ∨ h = 2 := by
  simp only [hasG, Bool.and_eq_true, decide_eq_true_eq] at hh
  omega
theorem hasG_bits : ∀ p q r : Bool, hasG ((if p then 1 else 0) + (if q then 2 else 0) + (if r then 4 else 0)) 0 = p ∧ hasG ((if p then 1 else 0) + (if q then 2 else 0) + (if r then 4 else 0)) 1 = q ∧ hasG ((if p then 1 else 0) + (if q then 2 else 0) + (if r then 4 else 0)) 2 = r ∧
    setB ((if p then 1 else 0) + (if q then 2 else 0) + (if r then 4 else 0)) = true := by decide
theorem hasG_both (a b h : Int) : hasG (bothG a b) h = (hasG a h && hasG b h) := by
  obtain ⟨h0, h1, h2, _⟩ := hasG_bits (hasG a 0 && hasG b 0) (hasG a 1 && hasG b 1) (hasG a 2 && hasG b 2)
  by_cases hh : h = 0 ∨ h = 1 ∨ h = 2
  · rcases hh with rfl | rfl | rfl
    · exact h0
    · exact h1
    · exact h2
  · have n : ∀ c, hasG c h = false := fun c => by
      cases hc : hasG c h with
      | false => rfl
      | true => exact absurd (hasG_lt hc) hh
    rw [n, n, n]; rfl
theorem setB_both (a b : Int) : setB (bothG a b) = true := (hasG_bits _ _ _).2.2.2
theorem labOk_both (a b : Lab) : labOk (lboth a b) = true := by
  unfold lboth
  split
  · simp [labOk, setB_both]
  · decide
theorem labOk_any : labOk lany = true := by decide
theorem labAt_ok {ls : List Lab} (h : ls.all labOk = true) (v : Int) : labOk (labAt ls v) = true := by
  unfold labAt
  rw [List.getD_eq_getElem?_getD]
  cases hg : ls[v.toNat]? with
  | none => decide
  | some x => exact List.all_eq_true.1 h x (List.mem_of_getElem? hg)
theorem valLab_ok {ls : List Lab} (x : Vl) : labOk (valLab ls x) = true := by
  unfold valLab
  simp only
  split
  · exact labOk_both _ _
  · split
    · exact labOk_any
    · exact labOk_both _ _
theorem within_has {a b h : Int} (hw : withinG a b = true) (ha : hasG a h = true) : hasG b h = true := by
  simp only [withinG, Bool.and_eq_true, Bool.not_eq_true', Bool.and_eq_false_iff, Bool.not_eq_false'] at hw
  obtain ⟨w0, w1, w2⟩ := hw
  rcases hasG_lt ha with rfl | rfl | rfl
  · rcases w0 with w | w
    · rw [w] at ha; cases ha
    · exact w
  · rcases w1 with w | w
    · rw [w] at ha; cases ha
    · exact w
  · rcases w2 with w | w
    · rw [w] at ha; cases ha
    · exact w
def fineS (ls : List Lab) : Stps → Lab → Bool
  | .nil, _ => true
  | .cons k v x h t e r, here => fineG ls k v x h here && (fineS ls t (lboth here (labAt ls v)) && (fineS ls e (lboth here (labAt ls v)) && fineS ls r here))
theorem why_fine (ls : List Lab) : ∀ (l m : Stps) (here : Lab) (hs : List Lab) (i : Nat), whyL ls (l.all.app m) (ats ls l here ++ hs) i = none → fineS ls l here = true ∧ ∃ j, whyL ls m hs j = none
  | .nil, m, here, hs, i, h => ⟨rfl, i, h⟩
  | .cons k v x hh t e r, m, here, hs, i, h => by
    simp only [Stps.all, Stps.app, ats, List.cons_append, whyL] at h
    split at h
    · rename_i hf
      rw [Stps.app_assoc, Stps.app_assoc, List.append_assoc, List.append_assoc] at h
      obtain ⟨f1, j1, h1⟩ := why_fine ls t _ _ _ _ h
      obtain ⟨f2, j2, h2⟩ := why_fine ls e _ _ _ _ h1
      obtain ⟨f3, j3, h3⟩ := why_fine ls r _ _ _ _ h2
      exact ⟨by simp [fineS, hf, f1, f2, f3], j3, h3⟩
    · cases h
theorem whyP_fine {ls : List Lab} {ss : Stps} (hok : progOk ls ss = true) (h : whyP ls ss = none) : fineS ls ss lany = true := by
  simp only [whyP, hok, if_true] at h
  refine (why_fine ls ss .nil lany [] 0 ?_).1
  rw [Stps.app_nil, List.append_nil]; exact h
/-- What one looks at: who may know, or who trusts. -/
structure Side (ls : List Lab) (h : Int) (π : Lab → Int) {α : Type} (O : Rn → α) : Prop where
  both : ∀ a b, labOk a = true → labOk b = true → hasG (π (lboth a b)) h = (hasG (π a) h && hasG (π b) h)
  flows : ∀ a b, flowsG a b = true → hasG (π b) h = true → hasG (π a) h = true
  setHi : ∀ (r : Rn) (n : List Int) (v y : Int), vOk ls.length v = true → hasG (π (labAt ls v)) h = false → O ⟨n, r.ws ++ [(v, y)], r.ss⟩ = O r
  setEq : ∀ (ra rb : Rn) (na nb : List Int) (v y : Int), O ra = O rb → O ⟨na, ra.ws ++ [(v, y)], ra.ss⟩ = O ⟨nb, rb.ws ++ [(v, y)], rb.ss⟩
  tellHi : ∀ (r : Rn) (here : Lab) (v : Int) (x : Vl) (hh : Int), fineG ls 3 v x hh here = true → hasG (π here) h = false → O ⟨r.nums, r.ws, r.ss ++ [(hh, nget r.nums v)]⟩ = O r
  tellEq : ∀ (ra rb : Rn) (here : Lab) (v : Int) (x : Vl) (hh : Int), fineG ls 3 v x hh here = true → (hasG (π (labAt ls v)) h = true → nget ra.nums v = nget rb.nums v) → O ra = O rb →
    O ⟨ra.nums, ra.ws, ra.ss ++ [(hh, nget ra.nums v)]⟩ = O ⟨rb.nums, rb.ws, rb.ss ++ [(hh, nget rb.nums v)]⟩
def LE (ls : List Lab) (h : Int) (π : Lab → Int) (a b : List Int) : Prop := a.length = b.length ∧ ∀ j : Nat, hasG (π (labAt ls (j : Int))) h = true → a[j]? = b[j]?
section
variable {ls : List Lab} {h : Int} {π : Lab → Int} {α : Type} {O : Rn → α}
theorem LE.refl (a : List Int) : LE ls h π a a := ⟨rfl, fun _ _ => rfl⟩
theorem LE.symm {a b : List Int} (e : LE ls h π a b) : LE ls h π b a := ⟨e.1.symm, fun j hj => (e.2 j hj).symm⟩
theorem LE.trans {a b c : List Int} (e : LE ls h π a b) (f : LE ls h π b c) : LE ls h π a c := ⟨e.1.trans f.1, fun j hj => (e.2 j hj).trans (f.2 j hj)⟩
theorem LE.num {a b : List Int} (e : LE ls h π a b) {v : Int} (hv : vOk ls.length v = true) (hl : hasG (π (labAt ls v)) h = true) : nget a v = nget b v := by
  obtain ⟨j, rfl, _⟩ := vOk_nat hv
  have := e.2 j hl
  simp only [nget, List.getD_eq_getElem?_getD, Int.toNat_natCast]
  rw [this]
theorem LE.hi {a : List Int} {v y : Int} (hv : vOk ls.length v = true) (hl : hasG (π (labAt ls v)) h = false) : LE ls h π a (a.set v.toNat y) := by
  obtain ⟨j, rfl, _⟩ := vOk_nat hv
  refine ⟨by simp, fun i hi => ?_⟩
  rw [Int.toNat_natCast, List.getElem?_set_ne]
  rintro rfl
  rw [hl] at hi; cases hi
theorem LE.lo {a b : List Int} (e : LE ls h π a b) (i : Nat) (y : Int) : LE ls h π (a.set i y) (b.set i y) := by
  refine ⟨by simp [e.1], fun j hj => ?_⟩
  rw [List.getElem?_set, List.getElem?_set, e.1, e.2 j hj]
theorem Side.val (s : Side ls h π O) (hls : ls.all labOk = true) {x : Vl} {a b : List Int} (hx : valOk ls.length x = true) (hl : hasG (π (valLab ls x)) h = true) (e : LE ls h π a b) : valNum x a = valNum x b := by
  obtain ⟨k, p, q⟩ := x
  simp only [valOk] at hx
  by_cases k1 : k = 1
  · subst k1; simp [valNum]
  by_cases k2 : k = 2
  · subst k2
    simp at hx
    rw [show valLab ls ⟨2, p, q⟩ = lboth lany (labAt ls p) by simp [valLab], s.both _ _ labOk_any (labAt_ok hls _), Bool.and_eq_true] at hl
    have := e.num hx.1 hl.2
    simp [valNum, this]
  have h34 : k = 3 ∨ k = 4 := by
    by_cases h : k = 3 ∨ k = 4
    · exact h
    · simp [k1, k2, h] at hx
  have hx2 : vOk ls.length p = true ∧ vOk ls.length q = true := by
    rcases h34 with rfl | rfl <;> simpa using hx
  rw [show valLab ls ⟨k, p, q⟩ = lboth (lboth lany (labAt ls p)) (labAt ls q) by simp [valLab, k1, h34], s.both _ _ (labOk_both _ _) (labAt_ok hls _), s.both _ _ labOk_any (labAt_ok hls _), Bool.and_eq_true, Bool.and_eq_true] at hl
  have e1 := e.num hx2.1 hl.1.2
  have e2 := e.num hx2.2 hl.2
  simp only [valNum, e1, e2]
theorem run_hi (s : Side ls h π O) (hls : ls.all labOk = true) : ∀ (l : Stps) (here : Lab) (d : Int) (r : Rn), labOk here = true → stepsOk ls.length l d = true → fineS ls l here = true → hasG (π here) h = false → LE ls h π r.nums (run l r).nums ∧ O (run l r) = O r
  | .nil, _, _, r, _, _, _, _ => ⟨LE.refl _, rfl⟩
  | .cons k v x hh t e rest, here, d, r, hok, ho, hf, hn => by
    rw [stepsOk_cons, Bool.and_eq_true] at ho
    obtain ⟨hv1, hv2, _, ⟨ht, he⟩, _⟩ := stepOk_in ho.1
    simp only [fineS, Bool.and_eq_true] at hf
    obtain ⟨f0, f1, f2, f3⟩ := hf
    have hin : hasG (π (lboth here (labAt ls v))) h = false := by rw [s.both _ _ hok (labAt_ok hls _), hn]; rfl
    rw [run_consQ]
    split
    · rename_i k1
      subst k1
      have hlv : hasG (π (labAt ls v)) h = false := by
        cases hc : hasG (π (labAt ls v)) h with
        | false => rfl
        | true =>
          have := s.flows _ _ (by simpa [fineG] using f0) hc
          rw [s.both _ _ hok (valLab_ok x), hn] at this
          cases this
      obtain ⟨a, b⟩ := run_hi s hls rest here d ⟨r.nums.set v.toNat (valNum x r.nums), r.ws ++ [(v, valNum x r.nums)], r.ss⟩ hok ho.2 f3 hn
      exact ⟨(LE.hi hv1 hlv).trans a, b.trans (s.setHi _ _ _ _ hv1 hlv)⟩
    · split
      · rename_i k3
        subst k3
        obtain ⟨a, b⟩ := run_hi s hls rest here d ⟨r.nums, r.ws, r.ss ++ [(hh, nget r.nums v)]⟩ hok ho.2 f3 hn
        exact ⟨a, b.trans (s.tellHi _ here _ x _ f0 hn)⟩
      · split
        · obtain ⟨a1, b1⟩ := run_hi s hls t _ (d - 1) r (labOk_both _ _) ht f1 hin
          obtain ⟨a, b⟩ := run_hi s hls rest here d (run t r) hok ho.2 f3 hn
          exact ⟨a1.trans a, b.trans b1⟩
        · obtain ⟨a1, b1⟩ := run_hi s hls e _ (d - 1) r (labOk_both _ _) he f2 hin
          obtain ⟨a, b⟩ := run_hi s hls rest here d (run e r) hok ho.2 f3 hn
          exact ⟨a1.trans a, b.trans b1⟩
theorem run_lo (s : Side ls h π O) (hls : ls.all labOk = true) : ∀ (l : Stps) (here : Lab) (d : Int) (ra rb : Rn), labOk here = true → stepsOk ls.length l d = true → fineS ls l here = true → LE ls h π ra.nums rb.nums → O ra = O rb → LE ls h π (run l ra).nums (run l rb).nums ∧ O (run l ra) = O (run l rb)
  | .nil, _, _, _, _, _, _, _, e, q => ⟨e, q⟩
  | .cons k v x hh t e rest, here, d, ra, rb, hok, ho, hf, hE, hq => by
    by_cases hn : hasG (π here) h = false
    · obtain ⟨a1, b1⟩ := run_hi s hls (.cons k v x hh t e rest) here d ra hok ho hf hn
      obtain ⟨a2, b2⟩ := run_hi s hls (.cons k v x hh t e rest) here d rb hok ho hf hn
      exact ⟨a1.symm.trans (hE.trans a2), b1.trans (hq.trans b2.symm)⟩
    rw [stepsOk_cons, Bool.and_eq_true] at ho
    obtain ⟨hv1, hv2, _, ⟨ht, he⟩, _⟩ := stepOk_in ho.1
    simp only [fineS, Bool.and_eq_true] at hf
    obtain ⟨f0, f1, f2, f3⟩ := hf
    rw [run_consQ, run_consQ]
    by_cases k1 : k = 1
    · rw [if_pos k1, if_pos k1]
      subst k1
      by_cases hlv : hasG (π (labAt ls v)) h = false
      · exact run_lo s hls rest here d _ _ hok ho.2 f3 ((LE.hi hv1 hlv).symm.trans (hE.trans (LE.hi hv1 hlv))) ((s.setHi _ _ _ _ hv1 hlv).trans (hq.trans (s.setHi _ _ _ _ hv1 hlv).symm))
      · have hfl := s.flows _ _ (by simpa [fineG] using f0) (by simpa using hlv)
        rw [s.both _ _ hok (valLab_ok x), Bool.and_eq_true] at hfl
        rw [s.val hls (hv2 rfl) hfl.2 hE]
        exact run_lo s hls rest here d _ _ hok ho.2 f3 (hE.lo _ _) (s.setEq _ _ _ _ _ _ hq)
    · rw [if_neg k1, if_neg k1]
      by_cases k3 : k = 3
      · rw [if_pos k3, if_pos k3]
        subst k3
        exact run_lo s hls rest here d _ _ hok ho.2 f3 hE (s.tellEq _ _ here v x hh f0 (fun hl => hE.num hv1 hl) hq)
      · rw [if_neg k3, if_neg k3]
        by_cases hlv : hasG (π (labAt ls v)) h = false
        · have hin : hasG (π (lboth here (labAt ls v))) h = false := by rw [s.both _ _ hok (labAt_ok hls _), hlv, Bool.and_false]
          have one : ∀ r : Rn, LE ls h π r.nums (if nget r.nums v ≠ 0 then run t r else run e r).nums ∧ O (if nget r.nums v ≠ 0 then run t r else run e r) = O r := fun r => by
            split
            · exact run_hi s hls t _ (d - 1) r (labOk_both _ _) ht f1 hin
            · exact run_hi s hls e _ (d - 1) r (labOk_both _ _) he f2 hin
          exact run_lo s hls rest here d _ _ hok ho.2 f3 ((one ra).1.symm.trans (hE.trans (one rb).1)) ((one ra).2.trans (hq.trans (one rb).2.symm))
        · rw [hE.num hv1 (by simpa using hlv)]
          split
          · obtain ⟨a, b⟩ := run_lo s hls t _ (d - 1) ra rb (labOk_both _ _) ht f1 hE hq
            exact run_lo s hls rest here d _ _ hok ho.2 f3 a b
          · obtain ⟨a, b⟩ := run_lo s hls e _ (d - 1) ra rb (labOk_both _ _) he f2 hE hq
            exact run_lo s hls rest here d _ _ hok ho.2 f3 a b
end
theorem sideK (ls : List Lab) (h : Int) : Side ls h (·.k) (fun r => runTo r.ss h) where
  both a b ha hb := by simp [lboth, ha, hb, hasG_both]
  flows a b hf hb := by
    simp only [flowsG, Bool.and_eq_true] at hf
    exact within_has hf.1.2 hb
  setHi _ _ _ _ _ _ := rfl
  setEq _ _ _ _ _ _ hq := hq
  tellHi r here v x hh hf hn := by
    have hne : hh ≠ h := by
      rintro rfl
      simp [fineG, hasG_both, hn] at hf
    simp [runTo, hne]
  tellEq ra rb here v x hh hf hv hq := by
    simp only [fineG, hasG_both] at hf
    simp at hf
    rw [runTo_app, runTo_app, hq]
    by_cases hne : hh = h
    · subst hne
      rw [hv hf.2]
    · simp [runTo, hne]
theorem sideT (ls : List Lab) (h : Int) : Side ls h (·.t) (fun r => runSets r.ws (trustsOf ls h)) where
  both a b ha hb := by simp [lboth, ha, hb, hasG_both]
  flows a b hf hb := by
    simp only [flowsG, Bool.and_eq_true] at hf
    exact within_has hf.2 hb
  setHi r n v y hv hl := by
    obtain ⟨j, rfl, hj⟩ := vOk_nat hv
    have : (trustsOf ls h).getD j false = false := by
      rw [List.getD_eq_getElem?_getD, trustsOf, List.getElem?_map, List.getElem?_eq_getElem hj]
      simpa [labAt, hj] using hl
    rw [runSets_app]
    rw [List.getD_eq_getElem?_getD] at this
    simp [runSets]
    intro _
    exact this
  setEq ra rb na nb v y hq := by rw [runSets_app, runSets_app, hq]
  tellHi _ _ _ _ _ _ _ := rfl
  tellEq _ _ _ _ _ _ _ _ hq := hq
theorem LE_rows {ls : List Lab} {h : Int} {π : Lab → Int} {m n : Nat} (hs : sameOn (row2 m ls.length) (row2 n ls.length) (ls.map fun l => hasG (π l) h) = true) : LE ls h π (row2 m ls.length) (row2 n ls.length) := by
  refine ⟨by simp [row2_len], fun j hj => ?_⟩
  by_cases hl : j < ls.length
  · have := (sameOn_get _ _ _).1 hs j (by simpa using hl) (by
      rw [List.getD_eq_getElem?_getD, List.getElem?_map, List.getElem?_eq_getElem hl]
      simpa [labAt, hl] using hj)
    rw [row2_num hl, row2_num hl]
    rw [List.getD_eq_getElem?_getD, List.getD_eq_getElem?_getD, row2_num hl, row2_num hl] at this
    simpa using this
  · rw [List.getElem?_eq_none (by simp [row2_len]; omega), List.getElem?_eq_none (by simp [row2_len]; omega)]
theorem row2_ok {ls : List Lab} {ss : Stps} (hok : progOk ls ss = true) (m : Nat) : numsOk ls ss (row2 m ls.length) = true := by
  simp only [numsOk, hok, row2_len, beq_self_eq_true, Bool.and_self, Bool.true_and, List.all_eq_true]
  intro x hx
  have := List.all_eq_true.1 (row2_bits m ls.length) x hx
  simp at this
  rcases this with rfl | rfl <;> decide
/-- A fine program tells nobody too much. -/
theorem leak_none {ls : List Lab} {ss : Stps} {h : Int} (hw : whyP ls ss = none) : leakOf ls ss h = none := by
  cases hp : leakOf ls ss h with
  | none => rfl
  | some p =>
    exfalso
    obtain ⟨k, i⟩ := p
    obtain ⟨h1, h2, h3, h4, h5, h6⟩ := leak_found hp
    obtain ⟨a1, a2, a3, a4⟩ := progOk_in h1
    have := (run_lo (sideK ls h) a2 ss lany 3 ⟨row2 k ls.length, [], []⟩ ⟨row2 i ls.length, [], []⟩ labOk_any a3 (whyP_fine h1 hw) (LE_rows h5) rfl).2
    simp only [runOf, row2_ok h1, if_true] at h6
    rw [this] at h6
    simp at h6
/-- A fine program deceives nobody. -/
theorem sway_none {ls : List Lab} {ss : Stps} {h : Int} (hw : whyP ls ss = none) : swayOf ls ss h = none := by
  cases hp : swayOf ls ss h with
  | none => rfl
  | some p =>
    exfalso
    obtain ⟨k, i⟩ := p
    obtain ⟨h1, h2, h3, h4, h5, h6⟩ := sway_found hp
    obtain ⟨a1, a2, a3, a4⟩ := progOk_in h1
    have := (run_lo (sideT ls h) a2 ss lany 3 ⟨row2 k ls.length, [], []⟩ ⟨row2 i ls.length, [], []⟩ labOk_any a3 (whyP_fine h1 hw) (LE_rows h5) rfl).2
    simp only [runOf, row2_ok h1, if_true] at h6
    rw [this] at h6
    simp at h6
end Go.Proofs.X
end
section
namespace Go.Proofs.X
open Go Go.Proofs.XVai Go.Proofs Go.Proofs.XN
set_option linter.unusedVariables false
set_option linter.unusedSimpArgs false
set_option maxHeartbeats 4000000

/-! ### bytes that are read -/
abbrev brow (b : UInt8) : List HV := [.int .u8 (b.toNat : Int)]
abbrev BY (bs : List UInt8) : HV := .lst (bs.map brow)
abbrev RD (bs : List UInt8) (p : Nat) : Ob := .cells false [[BY bs, I p]]
theorem xor_pos {a b : Int} (ha : 0 ≤ a) (ha' : a < 4611686018427387904) (hb : 0 ≤ b) (hb' : b < 4611686018427387904) : 0 ≤ IntKind.i64.wrap (BitVec.ofInt 64 a ^^^ BitVec.ofInt 64 b).toNat := by
  obtain ⟨n, rfl⟩ := Int.eq_ofNat_of_zero_le ha
  obtain ⟨m, rfl⟩ := Int.eq_ofNat_of_zero_le hb
  have : (BitVec.ofInt 64 (n : Int) ^^^ BitVec.ofInt 64 (m : Int)).toNat < 2 ^ 62 := by
    rw [BitVec.toNat_xor]
    refine Nat.xor_lt_two_pow ?_ ?_ <;> simp <;> omega
  rw [i64_id (by omega) (by omega)]
  omega
theorem RD_ok {n0 : Nat} (bs : List UInt8) (p : Nat) : idO n0 (RD bs p) = true := by simp [idO, idC]
/-- A value, and an old object that is another one. -/
theorem rKV {Y : XVai.Sys} {f : Nat} {fn : Func} {T' : Tm} {S0 S1 L : St} {k : Nat} {o o' o0 : Ob} {vs : List HV} {v v' : HV} (h0 : S0[k]? = some o0) (hE : ExtK S0 k o S1) (hio : idO S0.length o = true)
    (hkp : Y.keep f = false := by rfl) (hr : resVs Y T' (S1 ++ L) fn.results.toList = some vs := by rfl) (hz : ∀ S, frzR S0.length (resTup vs) S = some (v, S) := by exact fun _ => rfl) (hi : idR S0.length v = true := by rfl) (hv : v = v' := by rfl) (ho : o = o' := by rfl) : RT Y f fn S0 v' (S0.set k o') .ret T' (S1 ++ L) := by
  subst hv; subst ho
  obtain ⟨J, rfl⟩ := hE
  rw [List.append_assoc] at hr ⊢
  exact rS hkp hr (hz _) hi rfl (by simp) (rS1 (o := o) h0 hio)
/-- The same, of a row of one's own. -/
theorem rKL {Y : XVai.Sys} {f : Nat} {fn : Func} {T' : Tm} {S0 S1 L : St} {k q n : Nat} {o o' o0 : Ob} {rows rows' : List (List HV)} (h0 : S0[k]? = some o0) (hE : ExtK S0 k o S1) (hio : idO S0.length o = true)
    (hkp : Y.keep f = false := by rfl) (hr : resVs Y T' (S1 ++ L) fn.results.toList = some [.sl q n] := by rfl) (hq : S0.length ≤ q := by exact Nat.le_add_right _ _) (hL : (S1 ++ L)[q]? = some (.cells true rows)) (hn : rows.length = n := by rfl) (hp : rows.all (fun r => r.all pureC) = true) (hv : rows = rows') (ho : o = o' := by rfl) : RT Y f fn S0 (.lst rows') (S0.set k o') .ret T' (S1 ++ L) := by
  subst hv; subst ho
  obtain ⟨J, rfl⟩ := hE
  rw [List.append_assoc] at hr hL ⊢
  exact rS hkp hr (fz_sl rfl hq hL hn hp |> fun h => by simp only [resTup, frzR, frzV]; exact h) rfl rfl (by simp) (rS1 (o := o) h0 hio)
theorem xkS {S L : St} {k : Nat} {o : Ob} : ExtK S k o (S.set k o ++ L) := ⟨L, rfl⟩
theorem xkZ {S : St} {k : Nat} {o : Ob} : ExtK S k o (S.set k o) := ⟨[], by simp⟩
theorem big (a b c p : Nat) (ha : a < 256) (hb : b < 256) (hc : c ≤ 100000000) (hp : p ≤ 100000000) :
    0 ≤ IntKind.i64.wrap (IntKind.i64.wrap (IntKind.i64.wrap (IntKind.i64.wrap (IntKind.i64.wrap (a : Int) * 131) + IntKind.i64.wrap (IntKind.i64.wrap (b : Int) * 1117)) + IntKind.i64.wrap ((p : Int) * 29)) + IntKind.i64.wrap (IntKind.i64.wrap (c : Int) * 53)) ∧
    IntKind.i64.wrap (IntKind.i64.wrap (IntKind.i64.wrap (IntKind.i64.wrap (IntKind.i64.wrap (a : Int) * 131) + IntKind.i64.wrap (IntKind.i64.wrap (b : Int) * 1117)) + IntKind.i64.wrap ((p : Int) * 29)) + IntKind.i64.wrap (IntKind.i64.wrap (c : Int) * 53)) < 4611686018427387904 := by
  rw [i64_id (n := (a : Int)) (by omega) (by omega), i64_id (n := (b : Int)) (by omega) (by omega), i64_id (n := (c : Int)) (by omega) (by omega), i64_id (n := (a : Int) * 131) (by omega) (by omega), i64_id (n := (b : Int) * 1117) (by omega) (by omega), i64_id (n := (p : Int) * 29) (by omega) (by omega), i64_id (n := (c : Int) * 53) (by omega) (by omega),
    i64_id (n := (a : Int) * 131 + (b : Int) * 1117) (by omega) (by omega), i64_id (n := (a : Int) * 131 + (b : Int) * 1117 + (p : Int) * 29) (by omega) (by omega), i64_id (by omega) (by omega)]
  omega
theorem pick_ex (bs : List UInt8) (p : Nat) (n : Int) (hb : bs.length ≤ 2000) (hp : p ≤ 100000000) : ∃ v : Int, (0 ≤ v ∧ (1 ≤ n → v < n) ∧ (n < 1 → v = 0)) ∧ ∀ (k : Nat) (S : St), S[k]? = some (RD bs p) → Ev Y spec_l6Rd_pick [.ptr k 1 0 0, I n] S (I v) (S.set k (RD bs (p + 1))) := by
  have e1 : IntKind.i64.wrap ((p : Int) + 1) = ((p + 1 : Nat) : Int) := by rw [i64_id (by omega) (by omega)]; simp
  have e2 : IntKind.i64.wrap (((p + 1 : Nat) : Int) - 1) = (p : Int) := by rw [i64_id (by omega) (by omega)]; simp
  by_cases h1 : n < 1
  · refine ⟨0, ⟨by omega, by omega, fun _ => rfl⟩, fun k S hk => ?_⟩
    refine E_start (h := ?_)
    repeat' (first | refine c0 ?_ | refine c1 ?_ | refine c7 ?_ | refine d2 ?_ | refine c9 ?_ | refine d4 ?_ | refine a0 (hk := ?_) | refine u3 (hk := ?_) | refine a5 (hk := ?_) | refine b5 (hk := ?_) | refine b7 (hk := ?_) | refine d6 (ht := ?_))
    rw [e1]
    exact rKV (o := RD _ (p + 1)) hk xkZ (RD_ok _ _)
  cases bs with
  | nil =>
    refine ⟨0, ⟨by omega, by omega, fun _ => rfl⟩, fun k S hk => ?_⟩
    refine E_start (h := ?_)
    repeat' (first | refine c0 ?_ | refine c1 ?_ | refine c7 ?_ | refine d2 ?_ | refine c9 ?_ | refine d4 ?_ | refine u4 (hk := ?_) | refine a5 (hk := ?_) | refine b5 (hk := ?_) | refine b7 (hk := ?_) | refine d6 (ht := ?_))
    rw [e1]
    exact rKV (o := RD _ (p + 1)) hk xkZ (RD_ok _ _)
  | cons b0 bt =>
    generalize hbs : b0 :: bt = bs at *
    have hlen : 0 < bs.length := by rw [← hbs]; simp
    have hne : ((bs.map brow).length : Int) ≠ 0 := by rw [List.length_map]; omega
    by_cases h2 : p < bs.length
    · have hget : bs[p]? = some bs[p] := by simp [h2]
      have hlt : bs[p].toNat < 256 := bs[p].toNat_lt
      refine ⟨((bs[p].toNat : Int)).tmod n, ⟨Int.tmod_nonneg _ (Int.natCast_nonneg _), fun h => Int.tmod_lt_of_pos _ (by omega), fun h => absurd h h1⟩, fun k S hk => ?_⟩
      have h3 : (p : Int) < ((bs.map brow).length : Int) := by simp; omega
      have e3 : IntKind.i64.wrap (bs[p].toNat : Int) = (bs[p].toNat : Int) := i64_id (by omega) (by omega)
      have h4 : n ≠ 0 := by omega
      have h5 : (((bs.map brow).length : Int) == 0) = false := by simpa using hne
      have h6 : ∀ q : Int, q = (p : Int) → (decide (q < ((bs.map brow).length : Int)) = true) := fun q hq => by rw [hq]; simpa using h2
      refine E_start (h := ?_)
      repeat' (first | refine c0 ?_ | refine c7 ?_ | refine d2 ?_ | refine d0 ?_ | refine d4 ?_ | refine d3' (h := ?_) | refine u4 (hk := ?_) | refine a5 (hk := ?_) | refine b5 (hk := ?_) | refine b7 (hk := ?_) | refine e5' (hk := ?_) | refine f5' (hk := ?_) | refine h4'' (hw := ?_) | (with_reducible intro hc) | refine u6 (hk := ?_) | refine d8 (ht := ?_) (hf := ?_))
      all_goals rw [e1, e2] at *
      · repeat' (first | refine c0 ?_ | refine c1 ?_ | refine c9 ?_ | refine d4 ?_ | refine a5 (hk := ?_) | refine b6 (hk := ?_) | refine b8 (hk := ?_) | refine g4 (hw := ?_))
        rw [e3]
        skip
        exact rKV (o := RD _ (p + 1)) hk xkZ (RD_ok _ _)
      · contradiction
    · have h3 : ¬ ((p : Int) < ((bs.map brow).length : Int)) := by simp; omega
      have h5 : (((bs.map brow).length : Int) == 0) = false := by simpa using hne
      have hm : ∀ q : Nat, ((q : Int).tmod ((bs.map brow).length : Int)) = ((q % bs.length : Nat) : Int) := fun q => by rw [List.length_map]; rfl
      have hq : ∀ q : Nat, bs[q % bs.length]? = some (bs[q % bs.length]'(Nat.mod_lt _ hlen)) := fun q => by simp [Nat.mod_lt _ hlen]
      have e7 : IntKind.i64.wrap ((p : Int) * 7) = ((p * 7 : Nat) : Int) := by rw [i64_id (by omega) (by omega)]; simp
      have e8 : IntKind.i64.wrap (((p * 7 : Nat) : Int) + 3) = ((p * 7 + 3 : Nat) : Int) := by rw [i64_id (by omega) (by omega)]; simp
      have hq1 := hq p
      have hq2 := hq (p * 7 + 3)
      have h4 : n ≠ 0 := by omega
      let w := IntKind.i64.wrap
      let x : Int := w (w (w (w (w ((bs[p % bs.length]'(Nat.mod_lt _ hlen)).toNat : Int) * 131) + w (w ((bs[(p * 7 + 3) % bs.length]'(Nat.mod_lt _ hlen)).toNat : Int) * 1117)) + w ((p : Int) * 29)) + w (w ((p : Int).tdiv ((bs.map brow).length : Int)) * 53))
      have hx : 0 ≤ x ∧ x < 4611686018427387904 := by
        have l1 : (bs[p % bs.length]'(Nat.mod_lt _ hlen)).toNat < 256 := UInt8.toNat_lt _
        have l2 : (bs[(p * 7 + 3) % bs.length]'(Nat.mod_lt _ hlen)).toNat < 256 := UInt8.toNat_lt _
        have l3 : (p : Int).tdiv ((bs.map brow).length : Int) = ((p / bs.length : Nat) : Int) := by rw [List.length_map]; rfl
        have l4 : p / bs.length ≤ p := Nat.div_le_self _ _
        simp only [x, w, l3]
        exact big _ _ _ _ l1 l2 (Nat.le_trans l4 hp) hp
      refine ⟨(w (BitVec.ofInt 64 x ^^^ BitVec.ofInt 64 (w (x.tdiv 64))).toNat).tmod n, ⟨?_, fun _ => Int.tmod_lt_of_pos _ (by omega), fun h => absurd h h1⟩, ?_⟩
      · have hd : x.tdiv 64 = x / 64 := Int.tdiv_eq_ediv_of_nonneg hx.1
        have hw : w (x.tdiv 64) = x / 64 := by rw [hd]; exact i64_id (by omega) (by omega)
        refine Int.tmod_nonneg _ ?_
        rw [hw]
        exact xor_pos hx.1 hx.2 (by omega) (by omega)
      · intro k S hk
        refine E_start (h := ?_)
        repeat' (first | refine c0 ?_ | refine c7 ?_ | refine d2 ?_ | refine d0 ?_ | refine d4 ?_ | refine d3' (h := ?_) | refine u4 (hk := ?_) | refine a5 (hk := ?_) | refine b5 (hk := ?_) | refine b7 (hk := ?_) | refine e5' (hk := ?_) | refine f5' (hk := ?_) | refine h4'' (hw := ?_) | (with_reducible intro hc) | refine u6 (hk := ?_) | refine d8 (ht := ?_) (hf := ?_))
        all_goals rw [e1, e2] at *
        · contradiction
        · skip
          refine f8' (h5 := hm p) (h6 := map_get hq1) (hk := ?_)
          repeat' (first | refine e5' (hk := ?_) | refine f5' (hk := ?_) | refine f6' (hk := ?_) | refine h4'' (hw := ?_))
          rw [e7, e8]
          skip
          refine f8' (h5 := hm (p * 7 + 3)) (h6 := map_get hq2) (hk := ?_)
          repeat' (first | refine c0 ?_ | refine c7 ?_ | refine d2 ?_ | refine c9 ?_ | refine d4 ?_ | refine d4' ?_ | refine a5 (hk := ?_) | refine g4 (hw := ?_) | refine e5' (hk := ?_) | refine f5' (hk := ?_) | refine f6' (hk := ?_) | refine h3'' (hw := ?_))
          exact rKV (o := RD _ (p + 1)) hk xkZ (RD_ok _ _)
/-- The number that is drawn. -/
noncomputable def pickv (bs : List UInt8) (p : Nat) (n : Int) : Int := if h : bs.length ≤ 2000 ∧ p ≤ 100000000 then Classical.choose (pick_ex bs p n h.1 h.2) else 0
theorem k_pick {bs : List UInt8} {p : Nat} {n : Int} {k : Nat} {S : St} (hb : bs.length ≤ 2000) (hp : p ≤ 100000000) (hk : S[k]? = some (RD bs p)) : Ev Y spec_l6Rd_pick [.ptr k 1 0 0, I n] S (I (pickv bs p n)) (S.set k (RD bs (p + 1))) := by
  have h : bs.length ≤ 2000 ∧ p ≤ 100000000 := ⟨hb, hp⟩
  simp only [pickv, h, dif_pos, and_self]
  exact (Classical.choose_spec (pick_ex bs p n h.1 h.2)).2 k S hk
theorem pickv_bd (bs : List UInt8) (p : Nat) (n : Int) : 0 ≤ pickv bs p n ∧ (1 ≤ n → pickv bs p n < n) ∧ (n < 1 → pickv bs p n = 0) := by
  unfold pickv
  split
  · rename_i h; exact (Classical.choose_spec (pick_ex bs p n h.1 h.2)).1
  · exact ⟨by omega, by omega, fun _ => rfl⟩
end Go.Proofs.X
end
section
namespace Go.Proofs.X
open Go Go.Proofs.XVai Go.Proofs Go.Proofs.XN
set_option linter.unusedVariables false
set_option linter.unusedSimpArgs false
set_option maxHeartbeats 4000000

/-- What is drawn: at most so many bytes on, a value of which something holds. -/
def Dr (g : Nat) (args : List HV) (c : Nat) (R : HV → Prop) : Prop := ∀ (bs : List UInt8) (p k : Nat) (S : St), bs.length ≤ 2000 → p + c ≤ 100000000 → S[k]? = some (RD bs p) →
  ∃ v p', p ≤ p' ∧ p' ≤ p + c ∧ R v ∧ Ev Y g (.ptr k 1 0 0 :: args) S v (S.set k (RD bs p'))
section
variable {fid : Nat} {T : Tm} {S : St} {K : Tm → St → Prop} {ops : Array Oper} {l : List Oper} {dst : Option Tmp} {ty : TypeId} {pos : String} {after : Array Edge} {g0 : Option (Nat × Bool)} {bs ix : Nat} {es : List (Nat × (Nat → Prop))} {ns : List (Nat × Nat)}
theorem kD {f : Operand} {args : Array Operand} {ats : Array TypeId} {g c k p : Nat} {S0 L : St} {args' : List HV} {R : HV → Prop} {by' : List UInt8} {o : Ob} (hg : wantG ops g0 T = true := by rfl) (hf : ev T f = .fn g [] := by rfl) (hb : Y.byref g = false := by rfl)
    (ha : mapMS (frzV 0) (args.toList.map (ev T)) (S0.set k o ++ L) = some (.ptr k 1 0 0 :: args', S0.set k o ++ L) := by rfl) (hd : Dr g args' c R) (h0 : ∃ o1, S0[k]? = some o1) (ho : o = RD by' p := by rfl) (hl : by'.length ≤ 2000) (hp : p + c ≤ 100000000)
    (hk : ∀ v p', p ≤ p' → p' ≤ p + c → R v → OW Y fid ops none l (put T dst v) (S0.set k (RD by' p') ++ L) K) : OW Y fid ops none (⟨dst, .call ⟨.value f, args, ats⟩, ty, pos, after, g0⟩ :: l) T (S0.set k o ++ L) K := by
  subst ho
  obtain ⟨o1, h0⟩ := h0
  obtain ⟨v, p', h1, h2, h3, h4⟩ := hd by' p k _ hl hp (get_set h0)
  rw [set_set h0] at h4
  exact k0 hg hf hb ha (by rw [List.append_nil]; exact h4) rfl (by rw [fv_eq]; exact hk v p' h1 h2 h3)
theorem kD' {f : Operand} {args : Array Operand} {ats : Array TypeId} {g c k p : Nat} {S0 L : St} {args' : List HV} {R : HV → Prop} {by' : List UInt8} {o : Ob} (hg : wantG ops g0 T = true := by rfl) (hf : ev T f = .fn g [] := by rfl) (hb : Y.byref g = false := by rfl)
    (ha : mapMS (frzV 0) (args.toList.map (ev T)) (S0.set k o ++ L) = some (.ptr k 1 0 0 :: args', S0.set k o ++ L) := by rfl) (hd : Dr g args' c R) (h0 : ∃ o1, S0[k]? = some o1) (ho : o = RD by' p := by rfl) (hl : by'.length ≤ 2000) (hp : p + c ≤ 100000000) (hn : Nc ops ns ix (fun j => j = k) := by first | exact nc0 | ((repeat' (first | exact nc0 | refine nc1 (by first | assumption | omega) ?_ | refine nc2 (by decide +kernel) ?_)) <;> fail))
    (hk : ∀ v p', p ≤ p' → p' ≤ p + c → R v → DW Y fid ops bs (ix + 1) ((ix, fun j => j = k) :: es) ns l (put T dst v) (S0.set k (RD by' p') ++ L) K) : DW Y fid ops bs ix es ns (⟨dst, .call ⟨.value f, args, ats⟩, ty, pos, after, g0⟩ :: l) T (S0.set k o ++ L) K := by
  subst ho
  obtain ⟨o1, h0⟩ := h0
  obtain ⟨v, p', h1, h2, h3, h4⟩ := hd by' p k _ hl hp (get_set h0)
  exact k2' hg hf hb ha (by rw [List.append_nil]; exact h4) (set_set h0) hn (by rw [fv_eq]; exact hk v p' h1 h2 h3)
end
theorem k_pick' {bs : List UInt8} {p : Nat} {n : Int} {k : Nat} {S : St} (hk : S[k]? = some (RD bs p)) (hb : bs.length ≤ 2000) (hp : p ≤ 100000000) : Ev Y spec_l6Rd_pick [.ptr k 1 0 0, I n] S (I (pickv bs p n)) (S.set k (RD bs (p + 1))) := k_pick hb hp hk
theorem pick_nat (bs : List UInt8) (p : Nat) {n : Nat} (h : 1 ≤ n) : ∃ j : Nat, pickv bs p n = j ∧ j < n := by
  obtain ⟨h1, h2, _⟩ := pickv_bd bs p n
  have := h2 (by omega)
  exact ⟨(pickv bs p n).toNat, by omega, by omega⟩
theorem lit_get (xs : List Int) {j : Nat} (h : j < xs.length) : xs[j]? = some (xs.getD j 0) := by simp [h]
/-- A value out of a cell of one's own, and an old object that is another one. -/
theorem rKC {Y : XVai.Sys} {f : Nat} {fn : Func} {T' : Tm} {S0 S1 L : St} {k : Nat} {o o' o0 : Ob} {v v' : HV} (h0 : S0[k]? = some o0) (hE : ExtK S0 k o S1) (hio : idO S0.length o = true) (hkp : Y.keep f = false := by rfl) {a : Tmp} {t : TypeId} (hres : fn.results.toList = [.cell a t] := by rfl) {ti : TI} (h1 : Y.tab t = some ti := by rfl) {q n i of' : Nat} {fr : Bool} {rows : List (List HV)} {row : List HV}
    (h2 : T' a = .ptr q n i of' := by rfl) (h3 : (S1 ++ L)[q]? = some (.cells fr rows)) (h4 : rows.length = n := by rfl) (h5 : rows[i]? = some row := by rfl) (h6 : XVai.part ti.agg ti.size row of' = some v := by rfl) (hz : ∀ S, frzR S0.length v S = some (v', S) := by exact fun _ => rfl) (hi : idR S0.length v' = true := by rfl) (ho : o = o' := by rfl) : RT Y f fn S0 v' (S0.set k o') .ret T' (S1 ++ L) := by
  refine rKV (vs := [v]) h0 hE hio hkp ?_ hz hi rfl ho
  rw [hres]
  simp only [resVs, resV, cload, h1, getRow, h2, h3, h4, if_true, h5, Option.map_some, h6]

theorem d_l71Label : Dr spec_l71Label [] 2 (fun v => ∃ l, v = .agg (lrow l) ∧ labOk l = true) := by
  intro bs p k S hb hp hk
  obtain ⟨j1, e1, hj1⟩ := pick_nat bs p (n := 9) (by omega)
  obtain ⟨j2, e2, hj2⟩ := pick_nat bs (p + 1) (n := 9) (by omega)
  have g1 := lit_get [7, 7, 3, 5, 6, 1, 2, 4, 0] (j := j1) hj1
  have g2 := lit_get [0, 0, 1, 2, 4, 3, 7, 5, 6] (j := j2) hj2
  refine ⟨_, p + 2, by omega, by omega, ⟨⟨[7, 7, 3, 5, 6, 1, 2, 4, 0].getD j1 0, [0, 0, 1, 2, 4, 3, 7, 5, 6].getD j2 0⟩, rfl, ?_⟩, ?_⟩
  · have a1 : ∀ j ∈ List.range 9, setB ([7, 7, 3, 5, 6, 1, 2, 4, 0].getD j 0) = true := by decide
    have a2 : ∀ j ∈ List.range 9, setB ([0, 0, 1, 2, 4, 3, 7, 5, 6].getD j 0) = true := by decide
    simp only [labOk, a1 j1 (by simpa using hj1), a2 j2 (by simpa using hj2), Bool.and_self]
  · refine E_start (h := ?_)
    repeat' (first | refine c0 ?_ | refine c7 ?_ | refine d2 ?_ | refine d4 ?_ | refine d3' (h := ?_) | refine k2' (he := (by first | exact k_pick' (by first | assumption | exact get_old (by assumption) | exact get_set (by assumption)) hb (by omega))) (hk := ?_) | refine b0 (hk := ?_) | refine b4' (hk := ?_) | refine e5' (hk := ?_))
    refine f8' (h5 := e1) (h6 := map_get (f := irow) g1) (hk := ?_)
    repeat' (first | refine k2' (he := (by first | exact k_pick' (by first | assumption | exact get_old (by assumption) | exact get_set (by assumption)) hb (by omega))) (hk := ?_) | refine b4' (hk := ?_) | refine e5' (hk := ?_) | refine f6' (hk := ?_))
    refine f8' (h5 := e2) (h6 := map_get (f := irow) g2) (hk := ?_)
    repeat' (first | refine c0 ?_ | refine c7 ?_ | refine d2 ?_ | refine c9 ?_ | refine d4 ?_ | refine d4' ?_ | refine b5 (hk := ?_) | refine b7 (hk := ?_) | refine b0' (hk := ?_) | refine b7b (hk := ?_) | refine f6' (hk := ?_) | refine b7' (hk := ?_))
    exact rKC hk xkZ (RD_ok _ _) (h3 := get_setO rfl)

theorem d_l71Val (n : Int) : Dr spec_l71Val [I n] 3 (fun v => ∃ x : Vl, v = .agg (vrow x)) := by
  intro bs p k S hb hp hk
  obtain ⟨j1, e1, hj1⟩ := pick_nat bs p (n := 5) (by omega)
  have e1 : pickv bs p 5 = j1 := e1
  by_cases w0 : j1 = 0
  · subst w0
    refine ⟨_, p + 2, by omega, by omega, ⟨⟨1, pickv bs (p + 1) 10, 0⟩, rfl⟩, ?_⟩
    have q0 : (pickv bs p 5 == 0) = true := by simpa using e1
    refine E_start (h := ?_)
    repeat' (first | refine c0 ?_ | refine c1 ?_ | refine c4 ?_ | refine c7 ?_ | refine d2 ?_ | refine c8 ?_ | refine c9 ?_ | refine d4 ?_ | refine k0 (he := (by first | exact k_pick' (by first | assumption | exact get_old (by assumption) | exact get_set (by assumption)) hb (by omega))) (hk := ?_) | refine b0 (hk := ?_) | refine a5 (hk := ?_) | refine b7 (hk := ?_) | refine u5 (hk := ?_))
    exact rKC hk (by first | exact xkS | exact xkZ) (RD_ok _ _) (h3 := by first | exact get_setO rfl | exact get_own rfl)
  by_cases w1 : j1 = 1 ∨ j1 = 2
  · refine ⟨_, p + 2, by omega, by omega, ⟨⟨2, pickv bs (p + 1) n, 0⟩, rfl⟩, ?_⟩
    have q0 : (pickv bs p 5 == 0) = false := by simp; omega
    refine E_start (h := ?_)
    repeat' (first | refine c0 ?_ | refine c1 ?_ | refine c3 ?_ | refine c4 ?_ | refine c7 ?_ | refine d2 ?_ | refine c8 ?_ | refine c9 ?_ | refine d0 ?_ | refine d4 ?_ | refine k0 (he := (by first | exact k_pick' (by first | assumption | exact get_old (by assumption) | exact get_set (by assumption)) hb (by omega))) (hk := ?_) | refine b0 (hk := ?_) | refine a5 (hk := ?_) | refine b7 (hk := ?_) | (with_reducible intro hc) | refine u5 (hk := ?_) | refine u6 (hk := ?_) | refine d9 (ht := ?_) (hf := ?_))
    · exact rKC hk (by first | exact xkS | exact xkZ) (RD_ok _ _) (h3 := by first | exact get_setO rfl | exact get_own rfl)
    · exact rKC hk (by first | exact xkS | exact xkZ) (RD_ok _ _) (h3 := by first | exact get_setO rfl | exact get_own rfl)
    all_goals (exfalso; simp at *; omega)
  by_cases w3 : j1 = 3
  · refine ⟨_, p + 3, by omega, by omega, ⟨⟨3, pickv bs (p + 1) n, pickv bs (p + 1 + 1) n⟩, rfl⟩, ?_⟩
    have q0 : (pickv bs p 5 == 0) = false := by simp; omega
    have q1 : (pickv bs p 5 == 1) = false := by simp; omega
    have q2 : (pickv bs p 5 == 2) = false := by simp; omega
    have q3 : (pickv bs p 5 == 3) = true := by simp; omega
    refine E_start (h := ?_)
    repeat' (first | refine c0 ?_ | refine c1 ?_ | refine c4 ?_ | refine c7 ?_ | refine d2 ?_ | refine c8 ?_ | refine c9 ?_ | refine d4 ?_ | refine k0 (he := (by first | exact k_pick' (by first | assumption | exact get_old (by assumption) | exact get_set (by assumption)) hb (by omega))) (hk := ?_) | refine b0 (hk := ?_) | refine a5 (hk := ?_) | refine b7 (hk := ?_) | refine u5 (hk := ?_) | refine u6 (hk := ?_))
    exact rKC hk (by first | exact xkS | exact xkZ) (RD_ok _ _) (h3 := by first | exact get_setO rfl | exact get_own rfl)
  · refine ⟨_, p + 3, by omega, by omega, ⟨⟨4, pickv bs (p + 1) n, pickv bs (p + 1 + 1) n⟩, rfl⟩, ?_⟩
    have q0 : (pickv bs p 5 == 0) = false := by simp; omega
    have q1 : (pickv bs p 5 == 1) = false := by simp; omega
    have q2 : (pickv bs p 5 == 2) = false := by simp; omega
    have q3 : (pickv bs p 5 == 3) = false := by simp; omega
    refine E_start (h := ?_)
    repeat' (first | refine c0 ?_ | refine c3 ?_ | refine c7 ?_ | refine d2 ?_ | refine c8 ?_ | refine c9 ?_ | refine d0 ?_ | refine d4 ?_ | refine k0 (he := (by first | exact k_pick' (by first | assumption | exact get_old (by assumption) | exact get_set (by assumption)) hb (by omega))) (hk := ?_) | refine b0 (hk := ?_) | refine a5 (hk := ?_) | refine b7 (hk := ?_) | refine u6 (hk := ?_))
    exact rKC hk (by first | exact xkS | exact xkZ) (RD_ok _ _) (h3 := by first | exact get_setO rfl | exact get_own rfl)
end Go.Proofs.X
end
section
namespace Go.Proofs.X
open Go Go.Proofs.XVai Go.Proofs Go.Proofs.XN
set_option linter.unusedVariables false
set_option linter.unusedSimpArgs false
set_option maxHeartbeats 4000000

/-- A return of which only something is told. -/
structure RTX (Y : XVai.Sys) (f : Nat) (fn : Func) (S : St) (R : HV → St → Prop) (ex : Ex) (T' : Tm) (S1 : St) : Prop where
  of : ∃ v S', RT Y f fn S v S' ex T' S1 ∧ R v S'
theorem E_startR {Y : XVai.Sys} {S : St} {R : HV → St → Prop} {f : Nat} {fn : Func} {c : Code} {args : List HV} (hf : Y.fn f = some fn := by rfl) (hb : fn.body = some c := by rfl) (hl : args.length ≤ fn.ntmps := by exact Nat.le_of_ble_eq_true rfl)
    (h : CW Y f c (tm0 args) (S ++ []) (RTX Y f fn S R)) : EvR Y f args S R := by
  obtain ⟨m, ex, T', S1, h1, h2⟩ := h.of
  obtain ⟨v, S', h3, h4⟩ := h2.of
  exact ⟨v, S', E_start hf hb hl ⟨⟨m, ex, T', S1, h1, h3⟩⟩, h4⟩
theorem Dr_of {g : Nat} {args : List HV} {c : Nat} {R : HV → Prop} (h : ∀ (bs : List UInt8) (p k : Nat) (S : St), bs.length ≤ 2000 → p + c ≤ 100000000 → S[k]? = some (RD bs p) → EvR Y g (.ptr k 1 0 0 :: args) S (fun v S' => ∃ p', p ≤ p' ∧ p' ≤ p + c ∧ R v ∧ S' = S.set k (RD bs p'))) : Dr g args c R := by
  intro bs p k S h1 h2 h3
  obtain ⟨v, S', h4, p', h5, h6, h7, rfl⟩ := h bs p k S h1 h2 h3
  exact ⟨v, p', h5, h6, h7, h4⟩
theorem Stps.app_sz : ∀ a b : Stps, (a.app b).sz = a.sz + b.sz
  | .nil, _ => by simp [Stps.app, Stps.sz]
  | .cons _ _ _ _ _ _ r, b => by simp [Stps.app, Stps.sz, Stps.app_sz r b]; omega
theorem xk3 {S S1 L : St} {k j : Nat} {o o' o2 o0 : Ob} (h0 : S[k]? = some o0) (hE : ExtK S k o S1) (hj : S.length ≤ j) : ExtK S k o' ((S1.set k o').set j o2 ++ L) := by
  obtain ⟨J, rfl⟩ := hE
  have hk : k < S.length := (List.getElem?_eq_some_iff.1 h0).1
  refine ⟨J.set (j - S.length) o2 ++ L, ?_⟩
  rw [List.set_append_left _ _ (by simpa using hk), List.set_set, List.set_append_right _ _ (by simpa using hj), List.append_assoc]
  simp
set_option maxHeartbeats 2000000 in
theorem d_l71Steps (deep c B : Nat) (vars : Int) (ih : deep > 1 → Dr spec_l71Steps [I 2, .int .i64 (IntKind.i64.wrap ((deep : Int) - 1)), I vars] c (fun v => ∃ l : Stps, v = .lst l.rows ∧ l.sz ≤ B)) (most : Nat) (hm : most ≤ 4) (hd : deep ≤ 3) (hc : c ≤ 1000) (hB : B ≤ 1000) :
    Dr spec_l71Steps [I most, I deep, I vars] (1 + most * (6 + 2 * c)) (fun v => ∃ l : Stps, v = .lst l.rows ∧ l.sz ≤ most * (1 + 2 * B)) := by
  refine Dr_of fun bs p k S hb hp hk => ?_
  have hkl : k < S.length := (List.getElem?_eq_some_iff.1 hk).1
  have e0 : IntKind.i64.wrap ((most : Int) + 1) = ((most + 1 : Nat) : Int) := by rw [i64_id (by omega) (by omega)]; simp
  refine E_startR (h := ?_)
  repeat' (first | refine c0 ?_ | refine c7 ?_ | refine d2 ?_ | refine c8 ?_ | refine d4 ?_ | refine k0 (he := (by first | exact k_pick' (by first | assumption | exact get_old (by assumption) | exact get_set (by assumption)) hb (by omega))) (hk := ?_) | refine b3 (hk := ?_) | refine b4 (hk := ?_) | refine a5 (hk := ?_))
  rw [e0]
  obtain ⟨n0, hn0, hn1⟩ := pick_nat bs p (n := most + 1) (by omega)
  rw [hn0]
  refine C_loop (fun n T' S' => ∃ (T0 : Tm) (S1 : St) (l : Stps) (q : Nat), n ≤ most ∧ p ≤ q ∧ q + n * (6 + 2 * c) ≤ p + 1 + most * (6 + 2 * c) ∧ l.sz + n * (1 + 2 * B) ≤ most * (1 + 2 * B) ∧ ExtK S k (RD bs q) S1 ∧ S1[S.length + 1]? = some (.cells true l.rows) ∧
      T' = putL T0 [(0, .ptr k 1 0 0), (2, I deep), (3, I vars), (9, .sl (S.length + 1) l.rows.length), (10, I n)] ∧ S' = S1 ++ []) n0
    ⟨_, _, .nil, p + 1, by omega, by omega, ?_, ?_, xkS, get_setO rfl, at_mk ⟨rfl, rfl, rfl, rfl, rfl, trivial⟩, (List.append_nil _).symm⟩ ?_
  · have := Nat.mul_le_mul_right (6 + 2 * c) (show n0 ≤ most by omega); omega
  · have := Nat.mul_le_mul_right (1 + 2 * B) (show n0 ≤ most by omega); simp [Stps.sz]; omega
  rintro n T' S' ⟨T0, S1, l, q, hnm, hpq, hq, hsz, hE, h0, rfl, rfl⟩
  have hcur := xk_get hk hE
  cases n with
  | zero =>
    have h00 : ¬ ((0 : Nat) : Int) > 0 := by omega
    repeat' (first | refine c0 ?_ | refine c2 ?_ | refine c5 ?_ | refine c7 ?_ | refine d2 ?_ | refine c9 ?_ | refine d1 ?_ | refine d4 ?_ | refine a5 (hk := ?_) | refine d7 (hf := ?_))
    exact ⟨_, _, rKL hk hE (RD_ok _ _) (hL := get_old h0) (hp := l.rows_pure) (hv := rfl), q, hpq, by omega, ⟨l, rfl, by omega⟩, rfl⟩
  | succ n =>
    rw [Nat.succ_mul] at hq hsz
    have h00 : ((n + 1 : Nat) : Int) > 0 := by omega
    have hnk : S.length + 1 ≠ k := by omega
    have h8 := l.rows_eight
    have hll := l.rows_len
    have hls := l.len_sz
    have hbig : most * (1 + 2 * B) ≤ 4 * 2001 := Nat.mul_le_mul hm (by omega)
    have hbig2 : most * (6 + 2 * c) ≤ 4 * 2006 := Nat.mul_le_mul hm (by omega)
    have dec : HV.int .i64 (IntKind.i64.wrap (((n + 1 : Nat) : Int) - 1)) = I n := by rw [i64_id (by omega) (by omega)]; simp
    obtain ⟨j, hj, hj5⟩ := pick_nat bs (q + 1) (n := 5) (by omega)
    have hj : pickv bs (q + 1) 5 = j := hj
    have h8' : ∀ row : List HV, row.length = 8 → (l.rows ++ [row]).all (fun r => r.length == 8) = true := fun row h => all8 h8 (by simp [h])
    by_cases w0 : j = 0
    · have q0 : (pickv bs (q + 1) 5 == 0) = true := by simp; omega
      repeat' (first | refine c0 ?_ | refine c3 ?_ | refine c7 ?_ | refine d2 ?_ | refine c8 ?_ | refine d0 ?_ | refine d4 ?_ | refine k0 (he := (by first | exact k_pick' (by first | assumption | exact get_old (by assumption) | exact get_set (by assumption)) hb (by omega))) (hk := ?_) | refine b0 (hk := ?_) | refine a5 (hk := ?_) | refine b5 (hk := ?_) | refine b7 (hk := ?_) | refine p0 (hk := ?_) | refine d7 (hf := ?_) | refine u5 (hk := ?_) | refine u7 (hk := ?_))
      refine ⟨n, by omega, _, _, l.app (.cons 3 (pickv bs q vars) ⟨0, 0, 0⟩ (pickv bs (q + 1 + 1) 3) .nil .nil .nil), q + 3, by omega, by omega, by omega, ?_, ?_, ?_, at_mk ⟨rfl, rfl, rfl, ?_, dec, trivial⟩, (List.append_nil _).symm⟩
      · simp [Stps.app_sz, Stps.sz]; omega
      · exact xk3 hk hE (Nat.le_add_right _ _)
      · rw [get_set2 h0, Stps.app_rows]; rfl
      · show HV.sl _ _ = _; simp [Stps.app_rows, Stps.rows]
    have q0 : (pickv bs (q + 1) 5 == 0) = false := by simp; omega
    by_cases w1 : (j = 1 ∨ j = 2) ∧ deep > 1
    · obtain ⟨w1, wd⟩ := w1
      have hd1 : (deep : Int) > 1 := by omega
      rcases w1 with rfl | rfl
      · have q1 : (pickv bs (q + 1) 5 == 1) = true := by simp; omega
        repeat' (first | refine c0 ?_ | refine c7 ?_ | refine d2 ?_ | refine c8 ?_ | refine d0 ?_ | refine d4 ?_ | refine k0 (he := (by first | exact k_pick' (by first | assumption | exact get_old (by assumption) | exact get_set (by assumption)) hb (by omega))) (hk := ?_) | refine b0 (hk := ?_) | refine a5 (hk := ?_) | refine b7 (hk := ?_) | refine u5 (hk := ?_) | refine u6 (hk := ?_) | refine u7 (hk := ?_))
        refine kD (hd := ih wd) (h0 := ⟨_, hcur⟩) (hl := hb) (hp := by omega) (hk := ?_)
        rintro v p1 hp1 hp1' ⟨l1, rfl, hl1⟩
        repeat' (first | refine c0 ?_ | refine d2 ?_ | refine d4 ?_ | refine a5 (hk := ?_) | refine b7 (hk := ?_))
        refine kD (hd := ih wd) (h0 := ⟨_, hcur⟩) (hl := hb) (hp := by omega) (hk := ?_)
        rintro v p2 hp2 hp2' ⟨l2, rfl, hl2⟩
        repeat' (first | refine c0 ?_ | refine c3 ?_ | refine c7 ?_ | refine d2 ?_ | refine d0 ?_ | refine d4 ?_ | refine a5 (hk := ?_) | refine b5 (hk := ?_) | refine b7 (hk := ?_) | refine p0 (hk := ?_) | refine d7 (hf := ?_))
        refine ⟨n, by omega, _, _, l.app (.cons 2 (pickv bs q vars) ⟨0, 0, 0⟩ 0 l1 l2 .nil), p2, by omega, by omega, by omega, ?_, ?_, ?_, at_mk ⟨rfl, rfl, rfl, ?_, dec, trivial⟩, (List.append_nil _).symm⟩
        · simp [Stps.app_sz, Stps.sz]; omega
        · exact xk3 hk hE (Nat.le_add_right _ _)
        · rw [get_set2 h0, Stps.app_rows]; rfl
        · show HV.sl _ _ = _; simp [Stps.app_rows, Stps.rows]
      · have q1 : (pickv bs (q + 1) 5 == 1) = false := by simp; omega
        have q2 : (pickv bs (q + 1) 5 == 2) = true := by simp; omega
        repeat' (first | refine c0 ?_ | refine c7 ?_ | refine d2 ?_ | refine c8 ?_ | refine d0 ?_ | refine d4 ?_ | refine k0 (he := (by first | exact k_pick' (by first | assumption | exact get_old (by assumption) | exact get_set (by assumption)) hb (by omega))) (hk := ?_) | refine b0 (hk := ?_) | refine a5 (hk := ?_) | refine b7 (hk := ?_) | refine u5 (hk := ?_) | refine u6 (hk := ?_) | refine u7 (hk := ?_))
        refine kD (hd := ih wd) (h0 := ⟨_, hcur⟩) (hl := hb) (hp := by omega) (hk := ?_)
        rintro v p1 hp1 hp1' ⟨l1, rfl, hl1⟩
        repeat' (first | refine c0 ?_ | refine d2 ?_ | refine d4 ?_ | refine a5 (hk := ?_) | refine b7 (hk := ?_))
        refine kD (hd := ih wd) (h0 := ⟨_, hcur⟩) (hl := hb) (hp := by omega) (hk := ?_)
        rintro v p2 hp2 hp2' ⟨l2, rfl, hl2⟩
        repeat' (first | refine c0 ?_ | refine c3 ?_ | refine c7 ?_ | refine d2 ?_ | refine d0 ?_ | refine d4 ?_ | refine a5 (hk := ?_) | refine b5 (hk := ?_) | refine b7 (hk := ?_) | refine p0 (hk := ?_) | refine d7 (hf := ?_))
        refine ⟨n, by omega, _, _, l.app (.cons 2 (pickv bs q vars) ⟨0, 0, 0⟩ 0 l1 l2 .nil), p2, by omega, by omega, by omega, ?_, ?_, ?_, at_mk ⟨rfl, rfl, rfl, ?_, dec, trivial⟩, (List.append_nil _).symm⟩
        · simp [Stps.app_sz, Stps.sz]; omega
        · exact xk3 hk hE (Nat.le_add_right _ _)
        · rw [get_set2 h0, Stps.app_rows]; rfl
        · show HV.sl _ _ = _; simp [Stps.app_rows, Stps.rows]
    have w2 : (j = 1 ∨ j = 2) → ¬ (deep : Int) > 1 := fun h hd => w1 ⟨h, by omega⟩
    by_cases w3 : j = 1
    · have q1 : (pickv bs (q + 1) 5 == 1) = true := by simp; omega
      have hd1 := w2 (.inl w3)
      repeat' (first | refine c0 ?_ | refine c3 ?_ | refine c7 ?_ | refine d2 ?_ | refine c8 ?_ | refine d0 ?_ | refine d4 ?_ | refine k0 (he := (by first | exact k_pick' (by first | assumption | exact get_old (by assumption) | exact get_set (by assumption)) hb (by omega))) (hk := ?_) | refine b0 (hk := ?_) | refine a5 (hk := ?_) | refine b5 (hk := ?_) | refine b7 (hk := ?_) | refine d6 (ht := ?_) | refine u5 (hk := ?_) | refine u6 (hk := ?_) | refine u7 (hk := ?_) | refine u8 (hk := ?_))
      refine kD (hd := d_l71Val vars) (h0 := ⟨_, hcur⟩) (hl := hb) (hp := by omega) (hk := ?_)
      rintro v p1 hp1 hp1' ⟨x, rfl⟩
      repeat' (first | refine c0 ?_ | refine c3 ?_ | refine d2 ?_ | refine d4 ?_ | refine a5 (hk := ?_) | refine b5 (hk := ?_) | refine b7 (hk := ?_) | refine p0 (hk := ?_))
      refine ⟨n, by omega, _, _, l.app (.cons 1 (pickv bs q vars) x 0 .nil .nil .nil), p1, by omega, by omega, by omega, ?_, ?_, ?_, at_mk ⟨rfl, rfl, rfl, ?_, dec, trivial⟩, (List.append_nil _).symm⟩
      · simp [Stps.app_sz, Stps.sz]; omega
      · exact xk3 hk hE (Nat.le_add_right _ _)
      · rw [get_set2 h0, Stps.app_rows]; rfl
      · show HV.sl _ _ = _; simp [Stps.app_rows, Stps.rows]
    have q1 : (pickv bs (q + 1) 5 == 1) = false := by simp; omega
    by_cases w4 : j = 2
    · have q2 : (pickv bs (q + 1) 5 == 2) = true := by simp; omega
      have hd1 := w2 (.inr w4)
      repeat' (first | refine c0 ?_ | refine c3 ?_ | refine c7 ?_ | refine d2 ?_ | refine c8 ?_ | refine d0 ?_ | refine d4 ?_ | refine k0 (he := (by first | exact k_pick' (by first | assumption | exact get_old (by assumption) | exact get_set (by assumption)) hb (by omega))) (hk := ?_) | refine b0 (hk := ?_) | refine a5 (hk := ?_) | refine b5 (hk := ?_) | refine b7 (hk := ?_) | refine d6 (ht := ?_) | refine u5 (hk := ?_) | refine u6 (hk := ?_) | refine u7 (hk := ?_) | refine u8 (hk := ?_))
      refine kD (hd := d_l71Val vars) (h0 := ⟨_, hcur⟩) (hl := hb) (hp := by omega) (hk := ?_)
      rintro v p1 hp1 hp1' ⟨x, rfl⟩
      repeat' (first | refine c0 ?_ | refine c3 ?_ | refine d2 ?_ | refine d4 ?_ | refine a5 (hk := ?_) | refine b5 (hk := ?_) | refine b7 (hk := ?_) | refine p0 (hk := ?_))
      refine ⟨n, by omega, _, _, l.app (.cons 1 (pickv bs q vars) x 0 .nil .nil .nil), p1, by omega, by omega, by omega, ?_, ?_, ?_, at_mk ⟨rfl, rfl, rfl, ?_, dec, trivial⟩, (List.append_nil _).symm⟩
      · simp [Stps.app_sz, Stps.sz]; omega
      · exact xk3 hk hE (Nat.le_add_right _ _)
      · rw [get_set2 h0, Stps.app_rows]; rfl
      · show HV.sl _ _ = _; simp [Stps.app_rows, Stps.rows]
    have q2 : (pickv bs (q + 1) 5 == 2) = false := by simp; omega
    repeat' (first | refine c0 ?_ | refine c3 ?_ | refine c7 ?_ | refine d2 ?_ | refine c8 ?_ | refine d0 ?_ | refine d4 ?_ | refine k0 (he := (by first | exact k_pick' (by first | assumption | exact get_old (by assumption) | exact get_set (by assumption)) hb (by omega))) (hk := ?_) | refine b0 (hk := ?_) | refine a5 (hk := ?_) | refine b5 (hk := ?_) | refine b7 (hk := ?_) | refine d6 (ht := ?_) | refine u6 (hk := ?_) | refine u7 (hk := ?_))
    refine kD (hd := d_l71Val vars) (h0 := ⟨_, hcur⟩) (hl := hb) (hp := by omega) (hk := ?_)
    rintro v p1 hp1 hp1' ⟨x, rfl⟩
    repeat' (first | refine c0 ?_ | refine c3 ?_ | refine d2 ?_ | refine d4 ?_ | refine a5 (hk := ?_) | refine b5 (hk := ?_) | refine b7 (hk := ?_) | refine p0 (hk := ?_))
    refine ⟨n, by omega, _, _, l.app (.cons 1 (pickv bs q vars) x 0 .nil .nil .nil), p1, by omega, by omega, by omega, ?_, ?_, ?_, at_mk ⟨rfl, rfl, rfl, ?_, dec, trivial⟩, (List.append_nil _).symm⟩
    · simp [Stps.app_sz, Stps.sz]; omega
    · exact xk3 hk hE (Nat.le_add_right _ _)
    · rw [get_set2 h0, Stps.app_rows]; rfl
    · show HV.sl _ _ = _; simp [Stps.app_rows, Stps.rows]
end Go.Proofs.X
end
section
namespace Go.Proofs.X
open Go Go.Proofs.XVai Go.Proofs Go.Proofs.XN
set_option linter.unusedVariables false
set_option linter.unusedSimpArgs false
set_option maxHeartbeats 4000000
set_option maxRecDepth 10000

section
variable {fid : Nat} {T : Tm} {S : St} {K : Tm → St → Prop} {ops : Array Oper} {l : List Oper} {dst : Option Tmp} {ty : TypeId} {pos : String} {after : Array Edge} {g0 : Option (Nat × Bool)} {bs ix : Nat} {es : List (Nat × (Nat → Prop))} {ns : List (Nat × Nat)}
theorem kE {f : Operand} {args : Array Operand} {ats : Array TypeId} {g c k p : Nat} {S0 L : St} {args' : List HV} {R : HV → Prop} {by' : List UInt8} (hg : wantG ops g0 T = true := by rfl) (hf : ev T f = .fn g [] := by rfl) (hb : Y.byref g = false := by rfl)
    (ha : mapMS (frzV 0) (args.toList.map (ev T)) (S0 ++ L) = some (.ptr k 1 0 0 :: args', S0 ++ L) := by rfl) (hd : Dr g args' c R) (h0 : S0[k]? = some (RD by' p)) (hl : by'.length ≤ 2000) (hp : p + c ≤ 100000000)
    (hk : ∀ v p', p ≤ p' → p' ≤ p + c → R v → OW Y fid ops none l (put T dst v) (S0.set k (RD by' p') ++ L) K) : OW Y fid ops none (⟨dst, .call ⟨.value f, args, ats⟩, ty, pos, after, g0⟩ :: l) T (S0 ++ L) K := by
  obtain ⟨v, p', h1, h2, h3, h4⟩ := hd by' p k _ hl hp (get_old h0)
  rw [set_old h0] at h4
  exact k0 hg hf hb ha (by rw [List.append_nil]; exact h4) rfl (by rw [fv_eq]; exact hk v p' h1 h2 h3)
theorem kE' {f : Operand} {args : Array Operand} {ats : Array TypeId} {g c k p : Nat} {S0 L : St} {args' : List HV} {R : HV → Prop} {by' : List UInt8} (hg : wantG ops g0 T = true := by rfl) (hf : ev T f = .fn g [] := by rfl) (hb : Y.byref g = false := by rfl)
    (ha : mapMS (frzV 0) (args.toList.map (ev T)) (S0 ++ L) = some (.ptr k 1 0 0 :: args', S0 ++ L) := by rfl) (hd : Dr g args' c R) (h0 : S0[k]? = some (RD by' p)) (hl : by'.length ≤ 2000) (hp : p + c ≤ 100000000) (hn : Nc ops ns ix (fun j => j = k) := by first | exact nc0 | ((repeat' (first | exact nc0 | refine nc1 (by first | assumption | omega) ?_ | refine nc2 (by decide +kernel) ?_)) <;> fail))
    (hk : ∀ v p', p ≤ p' → p' ≤ p + c → R v → DW Y fid ops bs (ix + 1) ((ix, fun j => j = k) :: es) ns l (put T dst v) (S0.set k (RD by' p') ++ L) K) : DW Y fid ops bs ix es ns (⟨dst, .call ⟨.value f, args, ats⟩, ty, pos, after, g0⟩ :: l) T (S0 ++ L) K := by
  obtain ⟨v, p', h1, h2, h3, h4⟩ := hd by' p k _ hl hp (get_old h0)
  exact k2' hg hf hb ha (by rw [List.append_nil]; exact h4) (set_old h0) hn (by rw [fv_eq]; exact hk v p' h1 h2 h3)
end
theorem setN {S : St} {k j : Nat} {o o' : Ob} (hj : j ≠ k) (h : S[j]? = some o') : (S.set k o)[j]? = some o' := by rw [List.getElem?_set_ne (Ne.symm hj)]; exact h
theorem setE {S : St} {k : Nat} {o o' : Ob} (h : S[k]? = some o') : (S.set k o)[k]? = some o := by
  have := get_set (L := []) (o := o) h
  simpa using this
theorem xk4 {S S1 : St} {k j : Nat} {o o2 o0 : Ob} (h0 : S[k]? = some o0) (hE : ExtK S k o S1) (hj : S.length ≤ j) : ExtK S k o (S1.set j o2) := by
  obtain ⟨J, rfl⟩ := hE
  refine ⟨J.set (j - S.length) o2, ?_⟩
  rw [List.set_append_right _ _ (by simpa using hj)]
  simp
theorem xk5 {S S1 : St} {k : Nat} {o o' o0 : Ob} (h0 : S[k]? = some o0) (hE : ExtK S k o S1) : ExtK S k o' (S1.set k o') := by
  have := xk1 (o' := o') (L := []) h0 hE
  simpa using this
theorem frzR_agg {n0 : Nat} {S : St} {cs cs' : List HV} (h : mapMS (frzC n0 6) cs S = some (cs', S)) : frzR n0 (.agg cs) S = some (.agg cs', S) := by
  simp only [frzR, frzV, h]
/-- The same as rKC, with what the state holds. -/
theorem rKC2 {Y : XVai.Sys} {f : Nat} {fn : Func} {T' : Tm} {S0 S1 L : St} {k : Nat} {o o' o0 : Ob} {v v' : HV} (h0 : S0[k]? = some o0) (hE : ExtK S0 k o S1) (hio : idO S0.length o = true) (hkp : Y.keep f = false := by rfl) {a : Tmp} {t : TypeId} (hres : fn.results.toList = [.cell a t] := by rfl) {ti : TI} (h1 : Y.tab t = some ti := by rfl) {q n i of' : Nat} {fr : Bool} {rows : List (List HV)} {row : List HV}
    (h2 : T' a = .ptr q n i of' := by rfl) (h3 : (S1 ++ L)[q]? = some (.cells fr rows)) (h4 : rows.length = n := by rfl) (h5 : rows[i]? = some row := by rfl) (h6 : XVai.part ti.agg ti.size row of' = some v := by rfl) (hz : frzR S0.length v (S1 ++ L) = some (v', S1 ++ L)) (hi : idR S0.length v' = true := by rfl) (ho : o = o' := by rfl) : RT Y f fn S0 v' (S0.set k o') .ret T' (S1 ++ L) := by
  subst ho
  obtain ⟨J, rfl⟩ := hE
  have hr : resVs Y T' (S0.set k o ++ J ++ L) fn.results.toList = some [v] := by
    rw [hres]
    simp only [resVs, resV, cload, h1, getRow, h2, h3, h4, if_true, h5, Option.map_some, h6]
  rw [List.append_assoc] at hr hz ⊢
  exact rS hkp hr hz hi rfl (by simp) (rS1 (o := o) h0 hio)
theorem d_steps1 (vars : Int) : Dr spec_l71Steps [I 2, I 1, I vars] 13 (fun v => ∃ l : Stps, v = .lst l.rows ∧ l.sz ≤ 2) :=
  d_l71Steps 1 0 0 vars (fun h => absurd h (by omega)) 2 (by omega) (by omega) (by omega) (by omega)
theorem d_steps2 (vars : Int) : Dr spec_l71Steps [I 2, I 2, I vars] 65 (fun v => ∃ l : Stps, v = .lst l.rows ∧ l.sz ≤ 10) :=
  d_l71Steps 2 13 2 vars (fun _ => d_steps1 vars) 2 (by omega) (by omega) (by omega) (by omega)
theorem d_steps3 (vars : Int) : Dr spec_l71Steps [I 4, I 3, I vars] 545 (fun v => ∃ l : Stps, v = .lst l.rows ∧ l.sz ≤ 84) :=
  d_l71Steps 3 65 10 vars (fun _ => d_steps2 vars) 4 (by omega) (by omega) (by omega) (by omega)
set_option maxHeartbeats 2000000 in
theorem d_l71Prog : Dr spec_l71Prog [] 12000 (fun v => ∃ ls ss, v = PR ls ss ∧ progOk ls ss = true ∧ 1 ≤ ls.length) := by
  refine Dr_of fun bs p k S hb hp hk => ?_
  have hkl : k < S.length := (List.getElem?_eq_some_iff.1 hk).1
  refine E_startR (h := ?_)
  repeat' (first | refine c0 ?_ | refine c7 ?_ | refine d2 ?_ | refine c8 ?_ | refine d4 ?_ | refine b0 (hk := ?_) | refine a5 (hk := ?_))
  refine C_loop (fun m T' S' => ∃ (T0 : Tm) (S1 : St) (i q : Nat), i + m = 20 ∧ p ≤ q ∧ q + m * 600 ≤ p + 12000 ∧ ExtK S k (RD bs q) S1 ∧ (∃ z y, S1[S.length + 0]? = some (.cells false [[z, y]])) ∧
      T' = putL T0 [(0, .ptr k 1 0 0), (2, .ptr (S.length + 0) 1 0 0), (3, I i)] ∧ S' = S1 ++ []) 20
    ⟨_, _, 0, p, by omega, by omega, by omega, xk0 hk, ⟨_, _, get_own rfl⟩, at_mk ⟨rfl, rfl, rfl, trivial⟩, (List.append_nil _).symm⟩ ?_
  rintro m T' S' ⟨T0, S1, i, q, hi, hpq, hq, hE, ⟨z, y, h0⟩, rfl, rfl⟩
  have hcur := xk_get hk hE
  have hkl1 : k < S1.length := (List.getElem?_eq_some_iff.1 hcur).1
  have hS1 : S.length ≤ S1.length := by obtain ⟨J, rfl⟩ := hE; simp
  have hS0 : S.length + 0 < S1.length := (List.getElem?_eq_some_iff.1 h0).1
  cases m with
  | zero =>
    have hc0 : ¬ ((i : Int) < 20) := by omega
    repeat' (first | refine c0 ?_ | refine c2 ?_ | refine c5 ?_ | refine c7 ?_ | refine d2 ?_ | refine c9 ?_ | refine d1 ?_ | refine d4 ?_ | refine a5 (hk := ?_) | refine b7 (hk := ?_) | refine u8 (hk := ?_))
    exact ⟨_, _, rKC hk (xk4 hk hE (Nat.le_add_right _ _)) (RD_ok _ _) (h3 := get_set h0), q, hpq, by omega, ⟨[⟨7, 0⟩], .nil, rfl, by decide, by simp⟩, rfl⟩
  | succ m =>
    have hc0 : (i : Int) < 20 := by omega
    rw [Nat.succ_mul] at hq
    repeat' (first | refine c0 ?_ | refine c7 ?_ | refine d2 ?_ | refine c8 ?_ | refine d0 ?_ | refine d4 ?_ | refine k0 (he := (by first | exact k_pick' (by first | assumption | exact get_old (by assumption) | exact get_set (by assumption)) hb (by omega))) (hk := ?_) | refine b0 (hk := ?_) | refine b4 (hk := ?_) | refine a5 (hk := ?_) | refine b7 (hk := ?_) | refine u7 (hk := ?_))
    obtain ⟨n0, hn0, hn1⟩ := pick_nat bs q (n := 4) (by omega)
    have hn0 : pickv bs q 4 = n0 := hn0
    rw [hn0, show IntKind.i64.wrap (1 + (n0 : Int)) = ((n0 + 1 : Nat) : Int) by rw [i64_id (by omega) (by omega)]; omega]
    have hbk : S1.length + 1 ≠ k := by omega
    have hak : S1.length + 0 ≠ k := by omega
    have hab : S1.length + 0 ≠ S1.length + 1 := by omega
    have hba : S1.length + 1 ≠ S1.length + 0 := by omega
    have h0k : S.length + 0 ≠ k := by omega
    have h0a : S.length + 0 ≠ S1.length + 0 := by omega
    have h0b : S.length + 0 ≠ S1.length + 1 := by omega
    refine C_loop (fun n T' S' => ∃ (T0 : Tm) (S2 : St) (ls : List Lab) (q2 : Nat), q ≤ q2 ∧ q2 + n * 2 ≤ q + 9 ∧ ls.length + n = n0 + 1 ∧ ExtK S k (RD bs q2) S2 ∧ (∃ z y, S2[S.length + 0]? = some (.cells false [[z, y]])) ∧
        S2[S1.length + 0]? = some (.cells true (ls.map lrow)) ∧ S2[S1.length + 1]? = some (.cells false [[.sl (S1.length + 0) ls.length, .nils]]) ∧
        T' = putL T0 [(0, .ptr k 1 0 0), (2, .ptr (S.length + 0) 1 0 0), (3, I i), (4, .ptr (S1.length + 1) 1 0 0), (5, I n)] ∧ S' = S2 ++ []) (n0 + 1)
      ⟨_, _, [], q + 1, by omega, by omega, by simp, xk1 hk hE, ⟨z, y, get_setN h0k h0⟩, get_setO rfl, get_setO rfl, at_mk ⟨rfl, rfl, rfl, rfl, rfl, trivial⟩, (List.append_nil _).symm⟩ ?_
    rintro n T' S' ⟨T0, S2, ls, q2, hq2, hq2', hls, hE2, ⟨z', y', f0⟩, fa, fb, rfl, rfl⟩
    have hcur2 := xk_get hk hE2
    have ha2 := lrow2 ls
    have han : (ls.map lrow).length = ls.length := by simp
    cases n with
    | zero =>
      have h00 : ¬ ((0 : Nat) : Int) > 0 := by omega
      repeat' (first | refine c0 ?_ | refine c2 ?_ | refine c5 ?_ | refine c7 ?_ | refine d2 ?_ | refine d1 ?_ | refine d4 ?_ | refine a5 (hk := ?_) | refine b5 (hk := ?_) | refine d7 (hf := ?_))
      refine kE (hd := d_steps3 _) (h0 := hcur2) (hl := hb) (hp := by omega) (hk := ?_)
      rintro v p' hp1 hp2 ⟨ss, rfl, hss⟩
      have f0' := setN (o := RD bs p') h0k f0
      have fa' := setN (o := RD bs p') hak fa
      have fb' := setN (o := RD bs p') hbk fb
      have hpu := lrow_pure ls
      repeat' (first | refine c0 ?_ | refine c7 ?_ | refine d2 ?_ | refine d4 ?_ | refine a5 (hk := ?_) | refine b5 (hk := ?_) | refine b7 (hk := ?_))
      refine k0 (ha := fm1 (fzV_agg rfl (fm1 (fz_sl rfl (Nat.zero_le _) (get_setN hab fa') han hpu) (fm1 rfl fm0))) fm0) (he := k_spec_ProgOk ls ss _ (by omega) (by omega)) (hk := ?_)
      repeat' (first | refine c0 ?_ | refine c1 ?_ | refine c3 ?_ | refine c4 ?_ | refine c7 ?_ | refine d2 ?_ | refine c9 ?_ | refine d0 ?_ | refine d4 ?_ | refine a5 (hk := ?_) | refine b5 (hk := ?_) | refine b7 (hk := ?_) | (with_reducible intro hc) | refine d9 (ht := ?_) (hf := ?_))
      · refine ⟨_, _, rKC2 hk (xk4 hk (xk4 hk (xk5 hk hE2) (by omega)) (Nat.le_add_right _ _)) (RD_ok _ _) (h3 := get_set (setN h0b f0')) (hz := frzR_agg (fm1 (fz_sl rfl (by omega) (get_setN (Ne.symm h0a) (setN hab fa')) han hpu) (fm1 rfl fm0))) (hi := rfl), p', by omega, by omega, ⟨ls, ss, rfl, hc, by omega⟩, rfl⟩
      · refine ⟨m, by omega, _, _, i + 1, p', by omega, by omega, by omega, xk2 (xk4 hk (xk5 hk hE2) (by omega)), ⟨z', y', get_setN h0b f0'⟩, at_mk ⟨rfl, rfl, ?_, trivial⟩, (List.append_nil _).symm⟩
        show HV.int _ _ = _
        rw [i64_id (by omega) (by omega)]; simp
    | succ n =>
      have h00 : ((n + 1 : Nat) : Int) > 0 := by omega
      have dec : HV.int .i64 (IntKind.i64.wrap (((n + 1 : Nat) : Int) - 1)) = I n := by rw [i64_id (by omega) (by omega)]; simp
      repeat' (first | refine c0 ?_ | refine c7 ?_ | refine d2 ?_ | refine c8 ?_ | refine d0 ?_ | refine d4 ?_ | refine d3' (h := ?_) | refine a5 (hk := ?_) | refine e5' (hk := ?_) | refine f5' (hk := ?_) | refine u7 (hk := ?_))
      refine kE' (hd := d_l71Label) (h0 := hcur2) (hl := hb) (hp := by omega) (hk := ?_)
      rintro v p' hp1 hp2 ⟨lab, rfl, hlab⟩
      have f0' := setN (o := RD bs p') h0k f0
      have fa' := setN (o := RD bs p') hak fa
      have fb' := setN (o := RD bs p') hbk fb
      repeat' (first | refine c0 ?_ | refine c3 ?_ | refine d2 ?_ | refine d4 ?_ | refine d4' ?_ | refine a5 (hk := ?_) | refine b4' (hk := ?_) | refine e5' (hk := ?_) | refine b7' (hk := ?_) | refine p0' (hk := ?_))
      refine ⟨n, by omega, _, _, ls ++ [lab], p', by omega, by omega, by simp; omega, xk2 (xk4 hk (xk4 hk (xk5 hk hE2) (by omega)) (by omega)), ⟨z', y', get_setN h0b (setN h0a f0')⟩, ?_, ?_, at_mk ⟨rfl, rfl, rfl, rfl, dec, trivial⟩, (List.append_nil _).symm⟩
      · rw [get_setN hab (setE fa'), List.map_append]; rfl
      · rw [get_set (setN hba fb')]; simp; rfl
end Go.Proofs.X
end
section
namespace Go.Proofs.X
open Go Go.Proofs.XVai Go.Proofs Go.Proofs.XN
set_option linter.unusedVariables false
set_option linter.unusedSimpArgs false
set_option maxHeartbeats 4000000

def without : Stps → Int → Stps
  | .nil, _ => .nil
  | .cons k v x h t e r, n => if n = 0 then without r (-1) else
      if 0 < n ∧ n < 1 + t.sz + e.sz then (if n - 1 < t.sz then .cons k v x h (without t (n - 1)) e (without r (-1)) else .cons k v x h t (without e (n - 1 - t.sz)) (without r (-1)))
      else if n ≥ 1 + t.sz + e.sz then .cons k v x h t e (without r (n - (1 + t.sz + e.sz))) else .cons k v x h t e (without r n)
theorem without_sz : ∀ (l : Stps) (n : Int), (without l n).sz ≤ l.sz
  | .nil, _ => Nat.le_refl _
  | .cons k v x h t e r, n => by
    have := without_sz t (n - 1)
    have := without_sz e (n - 1 - t.sz)
    have := without_sz r (-1)
    have := without_sz r n
    have := without_sz r (n - (1 + t.sz + e.sz))
    simp only [without]
    repeat' split
    all_goals simp only [Stps.sz]; omega
theorem k_spec_l71Without (N : Nat) : ∀ (l : Stps) (n : Int) (S : St), l.sz ≤ N → l.sz ≤ 1048576 → -1 ≤ n → n ≤ 1048576 → Ev Y spec_l71Without [.lst l.rows, I n] S (.lst (without l n).rows) S := by
  induction N with
  | zero =>
    intro l n S h _ _ _
    cases l with
    | cons => simp [Stps.sz] at h
    | nil =>
      refine E_start (h := ?_)
      repeat' (first | refine c0 ?_ | refine c7 ?_ | refine d2 ?_ | refine c8 ?_ | refine d4 ?_ | refine b3 (hk := ?_) | refine b4 (hk := ?_) | refine a5 (hk := ?_))
      refine d5 ?_
      repeat' (first | refine c0 ?_ | refine c2 ?_ | refine c5 ?_ | refine c7 ?_ | refine d2 ?_ | refine c9 ?_ | refine d1 ?_ | refine d4 ?_ | refine a5 (hk := ?_) | refine d7 (hf := ?_))
      exact rL (hp := rfl) (hv := rfl)
  | succ N ih =>
    intro l n S h hb hn0 hn1
    refine E_start (h := ?_)
    repeat' (first | refine c0 ?_ | refine c7 ?_ | refine d2 ?_ | refine c8 ?_ | refine d4 ?_ | refine b3 (hk := ?_) | refine b4 (hk := ?_) | refine a5 (hk := ?_))
    refine C_stps l (fun pre r T' S' => ∃ (T0 : Tm) (S1 : St) (d : Stps) (n' : Int), without l n = d.app (without r n') ∧ -1 ≤ n' ∧ n' ≤ 1048576 ∧ d.len ≤ pre.length ∧ Ext S S1 ∧ S1[S.length + 1]? = some (.cells true d.rows) ∧
        T' = putL T0 [(0, .lst l.rows), (1, I n'), (5, .sl (S.length + 1) d.rows.length), (6, I pre.length)] ∧ S' = S1 ++ [])
      ⟨_, _, .nil, n, rfl, hn0, hn1, by simp [Stps.len], ex0, get_own rfl, at_mk ⟨rfl, rfl, rfl, rfl, trivial⟩, (List.append_nil _).symm⟩ ?_ ?_
    · rintro pre k v x hh t e r T' S' hl hz ⟨T0, S1, d, n', hq, hn0, hn1, hdl, hE, h0, rfl, rfl⟩
      have hg := mid hl
      have hp := mid_lt hl
      have hll := l.rows_len
      have hls := l.len_sz
      have h8 := d.rows_eight
      have hdr := d.rows_len
      simp only [without] at hq
      by_cases w0 : n' = 0
      · subst w0
        rw [if_pos rfl] at hq
        have hlt : (pre.length : Int) < (l.rows.length : Int) := by omega
        repeat' (first | refine c0 ?_ | refine c2 ?_ | refine c5 ?_ | refine c7 ?_ | refine d2 ?_ | refine c8 ?_ | refine d0 ?_ | refine d1 ?_ | refine d4 ?_ | refine b0 (hk := ?_) | refine a5 (hk := ?_) | refine b6 (hk := ?_) | refine b8 (hk := ?_) | refine b7 (hk := ?_) | refine d6 (ht := ?_) | refine u7 (hk := ?_))
        exact ⟨_, _, d, -1, hq, by omega, by omega, by simp; omega, ex1 hE, get_old h0, at_mk ⟨rfl, rfl, rfl, inc (by omega), trivial⟩, (List.append_nil _).symm⟩
      rw [if_neg w0] at hq
      have q0 : (n' == 0) = false := by simpa using w0
      have hlt : (pre.length : Int) < (l.rows.length : Int) := by omega
      have s1 : IntKind.i64.wrap (1 + (t.sz : Int)) = 1 + t.sz := i64_id (by omega) (by omega)
      have s2 : IntKind.i64.wrap (1 + (t.sz : Int) + e.sz) = 1 + t.sz + e.sz := i64_id (by omega) (by omega)
      have s3 : IntKind.i64.wrap (n' - 1) = n' - 1 := i64_id (by omega) (by omega)
      by_cases wA : 0 < n' ∧ n' < 1 + t.sz + e.sz
      · rw [if_pos wA] at hq
        have hA1 : n' > 0 := wA.1
        have hA2 : n' < IntKind.i64.wrap (IntKind.i64.wrap (1 + (t.sz : Int)) + e.sz) := by rw [s1, s2]; exact wA.2
        by_cases wB : n' - 1 < t.sz
        · rw [if_pos wB] at hq
          have hA3 : IntKind.i64.wrap (n' - 1) < (t.sz : Int) := by rw [s3]; exact wB
          have ihT : ∀ S, Ev Y spec_l71Without [.lst t.rows, .int .i64 (IntKind.i64.wrap (n' - 1))] S (.lst (without t (n' - 1)).rows) S := fun S => by rw [s3]; exact ih t _ S (by omega) (by omega) (by omega) (by omega)
          repeat' (first | refine c0 ?_ | refine c3 ?_ | refine c7 ?_ | refine d2 ?_ | refine c8 ?_ | refine d0 ?_ | refine d4 ?_ | refine d3' (h := ?_) | refine d4' ?_ | refine k0 (he := (by first | exact k_spec_l2Count' _ _ (by omega) | exact ihT _)) (hk := ?_) | refine k0' (he := (by first | exact k_spec_l2Count' _ _ (by omega) | exact ihT _)) (hk := ?_) | refine b0 (hk := ?_) | refine u3 (hk := ?_) | refine a5 (hk := ?_) | refine b5 (hk := ?_) | refine b6 (hk := ?_) | refine b8 (hk := ?_) | refine b7 (hk := ?_) | refine p0 (hk := ?_) | refine e5' (hk := ?_) | refine f5' (hk := ?_) | refine u6 (hk := ?_) | refine u7 (hk := ?_))
          refine ⟨_, _, d.app (.cons k v x hh (without t (n' - 1)) e .nil), -1, by rw [hq, Stps.app_assoc]; rfl, by omega, by omega, by simp [Stps.app_len, Stps.len]; omega, ex1 (ex2 hE (Nat.le_add_right _ _)), ?_, at_mk ⟨rfl, rfl, ?_, inc (by omega), trivial⟩, (List.append_nil _).symm⟩
          · rw [get_set h0, Stps.app_rows]; rfl
          · show HV.sl _ _ = _; simp [Stps.app_rows, Stps.rows]
        · rw [if_neg wB] at hq
          have hA3 : ¬ IntKind.i64.wrap (n' - 1) < (t.sz : Int) := by rw [s3]; exact wB
          have ihE : ∀ S, Ev Y spec_l71Without [.lst e.rows, .int .i64 (IntKind.i64.wrap (IntKind.i64.wrap (n' - 1) - t.sz))] S (.lst (without e (n' - 1 - t.sz)).rows) S := fun S => by
            rw [s3, i64_id (n := n' - 1 - t.sz) (by omega) (by omega)]; exact ih e _ S (by omega) (by omega) (by omega) (by omega)
          repeat' (first | refine c0 ?_ | refine c3 ?_ | refine c7 ?_ | refine d2 ?_ | refine c8 ?_ | refine d0 ?_ | refine d4 ?_ | refine d3' (h := ?_) | refine d4' ?_ | refine k0 (he := (by first | exact k_spec_l2Count' _ _ (by omega) | exact ihE _)) (hk := ?_) | refine k0' (he := (by first | exact k_spec_l2Count' _ _ (by omega) | exact ihE _)) (hk := ?_) | refine b0 (hk := ?_) | refine u3 (hk := ?_) | refine a5 (hk := ?_) | refine b5 (hk := ?_) | refine b6 (hk := ?_) | refine b8 (hk := ?_) | refine b7 (hk := ?_) | refine p0 (hk := ?_) | refine e5' (hk := ?_) | refine f5' (hk := ?_) | refine u6 (hk := ?_) | refine u7 (hk := ?_) | refine u8 (hk := ?_))
          refine ⟨_, _, d.app (.cons k v x hh t (without e (n' - 1 - t.sz)) .nil), -1, by rw [hq, Stps.app_assoc]; rfl, by omega, by omega, by simp [Stps.app_len, Stps.len]; omega, ex1 (ex2 hE (Nat.le_add_right _ _)), ?_, at_mk ⟨rfl, rfl, ?_, inc (by omega), trivial⟩, (List.append_nil _).symm⟩
          · rw [get_set h0, Stps.app_rows]; rfl
          · show HV.sl _ _ = _; simp [Stps.app_rows, Stps.rows]
      · rw [if_neg wA] at hq
        by_cases wB : n' ≥ 1 + t.sz + e.sz
        · rw [if_pos wB] at hq
          have hA1 : n' > 0 := by omega
          have hA2 : ¬ n' < IntKind.i64.wrap (IntKind.i64.wrap (1 + (t.sz : Int)) + e.sz) := by rw [s1, s2]; omega
          have hA3 : n' ≥ IntKind.i64.wrap (IntKind.i64.wrap (1 + (t.sz : Int)) + e.sz) := by rw [s1, s2]; omega
          have s4 : IntKind.i64.wrap (n' - IntKind.i64.wrap (IntKind.i64.wrap (1 + (t.sz : Int)) + e.sz)) = n' - (1 + t.sz + e.sz) := by rw [s1, s2]; exact i64_id (by omega) (by omega)
          repeat' (first | refine c0 ?_ | refine c3 ?_ | refine c7 ?_ | refine d2 ?_ | refine c8 ?_ | refine d0 ?_ | refine d4 ?_ | refine d3' (h := ?_) | refine d4' ?_ | refine k0' (he := (by first | exact k_spec_l2Count' _ _ (by omega))) (hk := ?_) | refine b0 (hk := ?_) | refine u3 (hk := ?_) | refine a5 (hk := ?_) | refine b5 (hk := ?_) | refine b6 (hk := ?_) | refine b8 (hk := ?_) | refine b7 (hk := ?_) | refine p0 (hk := ?_) | refine e5' (hk := ?_) | refine f5' (hk := ?_) | refine u6 (hk := ?_) | refine u7 (hk := ?_) | refine u8 (hk := ?_))
          refine ⟨_, _, d.app (.cons k v x hh t e .nil), n' - (1 + t.sz + e.sz), by rw [hq, Stps.app_assoc]; rfl, by omega, by omega, by simp [Stps.app_len, Stps.len]; omega, ex1 (ex2 hE (Nat.le_add_right _ _)), ?_, at_mk ⟨rfl, ?_, ?_, inc (by omega), trivial⟩, (List.append_nil _).symm⟩
          · rw [get_set h0, Stps.app_rows]; rfl
          · rw [← s4]; rfl
          · show HV.sl _ _ = _; simp [Stps.app_rows, Stps.rows]
        · rw [if_neg wB] at hq
          have hA1 : ¬ n' > 0 := by omega
          have hA3 : ¬ n' ≥ IntKind.i64.wrap (IntKind.i64.wrap (1 + (t.sz : Int)) + e.sz) := by rw [s1, s2]; omega
          repeat' (first | refine c0 ?_ | refine c3 ?_ | refine c7 ?_ | refine d2 ?_ | refine c8 ?_ | refine d0 ?_ | refine d4 ?_ | refine d3' (h := ?_) | refine d4' ?_ | refine a0 (hk := ?_) | refine k0' (he := (by first | exact k_spec_l2Count' _ _ (by omega))) (hk := ?_) | refine b0 (hk := ?_) | refine u4 (hk := ?_) | refine a5 (hk := ?_) | refine b5 (hk := ?_) | refine b6 (hk := ?_) | refine b8 (hk := ?_) | refine b7 (hk := ?_) | refine p0 (hk := ?_) | refine e5' (hk := ?_) | refine f5' (hk := ?_) | refine d7 (hf := ?_) | refine u6 (hk := ?_) | refine u7 (hk := ?_) | refine u8 (hk := ?_))
          refine ⟨_, _, d.app (.cons k v x hh t e .nil), n', by rw [hq, Stps.app_assoc]; rfl, by omega, by omega, by simp [Stps.app_len, Stps.len]; omega, ex1 (ex2 hE (Nat.le_add_right _ _)), ?_, at_mk ⟨rfl, rfl, ?_, inc (by omega), trivial⟩, (List.append_nil _).symm⟩
          · rw [get_set h0, Stps.app_rows]; rfl
          · show HV.sl _ _ = _; simp [Stps.app_rows, Stps.rows]
    · rintro pre T' S' hl ⟨T0, S1, d, n', hq, hn0, hn1, hdl, hE, h0, rfl, rfl⟩
      repeat' (first | refine c0 ?_ | refine c2 ?_ | refine c5 ?_ | refine c7 ?_ | refine d2 ?_ | refine c8 ?_ | refine c9 ?_ | refine d0 ?_ | refine d1 ?_ | refine d4 ?_ | refine a5 (hk := ?_) | (with_reducible intro hc) | refine d8 (ht := ?_) (hf := ?_))
      · simp [hl] at hc
      · exact rLx hE (hp := d.rows_pure) (hv := by rw [hq]; simp [without, Stps.app_nil])

theorem whyL_le (ls : List Lab) : ∀ (l : Stps) (hs : List Lab) (i j : Nat), whyL ls l hs i = some j → j < i + l.len
  | .nil, _, _, _, h => by simp [whyL] at h
  | .cons k v x h t e r, [], _, _, hh => by simp [whyL] at hh
  | .cons k v x h t e r, here :: hs, i, j, hh => by
    simp only [whyL] at hh
    split at hh
    · have := whyL_le ls r hs (i + 1) j hh
      simp [Stps.len]; omega
    · simp only [Option.some.injEq] at hh
      subst hh; simp [Stps.len]
theorem whyP_le {ls : List Lab} {ss : Stps} {j : Nat} (h : whyP ls ss = some j) : j < ss.sz := by
  simp only [whyP] at h
  split at h
  · have := whyL_le _ _ _ _ _ h
    rw [Stps.all_len] at this; omega
  · cases h
theorem d_l71Fine : Dr spec_l71Fine [] 12000 (fun v => ∃ ls ss, v = PR ls ss ∧ ss.sz ≤ 8 ∧ ls.length ≤ 4 ∧ 1 ≤ ls.length) := by
  refine Dr_of fun bs p k S hb hp hk => ?_
  have hkl : k < S.length := (List.getElem?_eq_some_iff.1 hk).1
  refine E_startR (h := ?_)
  repeat' (first | refine c0 ?_ | refine c7 ?_ | refine d2 ?_ | refine d4 ?_ | refine b0 (hk := ?_) | refine a5 (hk := ?_))
  refine kE (hd := d_l71Prog) (h0 := hk) (hl := hb) (hp := hp) (hk := ?_)
  rintro v q hq1 hq2 ⟨ls, ss0, rfl, hok, hl1⟩
  obtain ⟨h1, h2, h3, h4⟩ := progOk_in hok
  repeat' (first | refine c0 ?_ | refine c7 ?_ | refine d2 ?_ | refine c8 ?_ | refine d4 ?_ | refine b0 (hk := ?_) | refine a5 (hk := ?_) | refine b7 (hk := ?_))
  refine C_loop (fun m T' S' => ∃ (T0 : Tm) (S1 : St) (i : Nat) (ss : Stps), i + m = 6 ∧ ss.sz ≤ 8 ∧ ExtK S k (RD bs q) S1 ∧ (∃ z y, S1[S.length + 0]? = some (.cells false [[z, y]])) ∧ S1[S.length + 1]? = some (.cells false [[LS ls, .lst ss.rows]]) ∧
      T' = putL T0 [(2, .ptr (S.length + 0) 1 0 0), (3, .ptr (S.length + 1) 1 0 0), (4, I i)] ∧ S' = S1 ++ []) 6
    ⟨_, _, 0, ss0, by omega, h4, xkS, ⟨_, _, get_setO rfl⟩, get_setO rfl, at_mk ⟨rfl, by simp [put, upd]; rfl, rfl, trivial⟩, (List.append_nil _).symm⟩ ?_
  rintro m T' S' ⟨T0, S1, i, ss, hi, hss, hE, ⟨z, y, f0⟩, f1, rfl, rfl⟩
  have hab : S.length + 0 ≠ S.length + 1 := by omega
  have hba : S.length + 1 ≠ S.length + 0 := by omega
  cases m with
  | zero =>
    have hc0 : ¬ ((i : Int) < 6) := by omega
    repeat' (first | refine c0 ?_ | refine c2 ?_ | refine c5 ?_ | refine c7 ?_ | refine d2 ?_ | refine c9 ?_ | refine d1 ?_ | refine d4 ?_ | refine a5 (hk := ?_) | refine b5 (hk := ?_) | refine b7 (hk := ?_) | refine u8 (hk := ?_))
    exact ⟨_, _, rKC hk (xk4 hk hE (Nat.le_add_right _ _)) (RD_ok _ _) (h3 := get_set f0), q, hq1, hq2, ⟨ls, ss, rfl, hss, h1, hl1⟩, rfl⟩
  | succ m =>
    have hc0 : (i : Int) < 6 := by omega
    have hstep : HV.int .i64 (IntKind.i64.wrap ((i : Int) + 1)) = I ((i + 1 : Nat)) := by rw [i64_id (by omega) (by omega)]; simp
    cases hw : whyP ls ss with
    | none =>
      have hT : ∀ S, Ev Y spec_TypeWhy [PR ls ss] S (.tup [I 0, .bool false]) S := fun S => by
        have := k_spec_TypeWhy ls ss S (by omega) (by omega)
        rw [hw] at this; exact this
      repeat' (first | refine c0 ?_ | refine c1 ?_ | refine c4 ?_ | refine c7 ?_ | refine d2 ?_ | refine c8 ?_ | refine c9 ?_ | refine d0 ?_ | refine d4 ?_ | refine k0 (he := (by first | exact hT _)) (hk := ?_) | refine a2 (hk := ?_) | refine a5 (hk := ?_) | refine b5 (hk := ?_) | refine b7 (hk := ?_) | refine d6 (ht := ?_) | refine u7 (hk := ?_))
      exact ⟨_, _, rKC hk (xk4 hk hE (Nat.le_add_right _ _)) (RD_ok _ _) (h3 := get_set f0), q, hq1, hq2, ⟨ls, ss, rfl, hss, h1, hl1⟩, rfl⟩
    | some j =>
      have hj := whyP_le hw
      have hT : ∀ S, Ev Y spec_TypeWhy [PR ls ss] S (.tup [I j, .bool true]) S := fun S => by
        have := k_spec_TypeWhy ls ss S (by omega) (by omega)
        rw [hw] at this; exact this
      have hsz := without_sz ss j
      repeat' (first | refine c0 ?_ | refine c3 ?_ | refine c7 ?_ | refine d2 ?_ | refine c8 ?_ | refine d0 ?_ | refine d4 ?_ | refine k0 (he := (by first | exact hT _ | exact k_spec_l71Without _ _ _ _ (Nat.le_refl _) (by omega) (by omega) (by omega))) (hk := ?_) | refine a1 (hk := ?_) | refine a5 (hk := ?_) | refine b5 (hk := ?_) | refine b7 (hk := ?_) | refine d7 (hf := ?_) | refine u7 (hk := ?_))
      exact ⟨m, by omega, _, _, i + 1, without ss j, by omega, by omega, xk2 (xk4 hk hE (Nat.le_add_right _ _)), ⟨z, y, get_setN hab f0⟩, get_set f1, at_mk ⟨rfl, rfl, hstep, trivial⟩, (List.append_nil _).symm⟩
end Go.Proofs.X
end
section
namespace Go.Proofs.X
open Go Go.Proofs.XVai Go.Proofs Go.Proofs.XN
set_option linter.unusedVariables false
set_option linter.unusedSimpArgs false
set_option maxHeartbeats 4000000

/-- A return that keeps all. -/
theorem rKeep {Y : XVai.Sys} {f : Nat} {fn : Func} {T' : Tm} {S S1 : St} {vs : List HV} {v : HV} (hkp : Y.keep f = true := by rfl) (hr : resVs Y T' S1 fn.results.toList = some vs := by rfl) (hv : resTup vs = v := by rfl) : RT Y f fn S v S1 .ret T' S1 :=
  ⟨by simp only [cret, hr, hkp, if_true, hv]⟩
section
variable {fid : Nat} {T : Tm} {S : St} {K : Tm → St → Prop} {ops : Array Oper} {l : List Oper} {dst : Option Tmp} {ty : TypeId} {pos : String} {after : Array Edge} {g0 : Option (Nat × Bool)} {bs ix : Nat} {es : List (Nat × (Nat → Prop))} {ns : List (Nat × Nat)}
/-- A slice of one value that holds rows of one's own. -/
theorem bs1 {t el : Nat} {x : Operand} {ti te : TI} {cs cs' : List HV} (hg : wantG ops g0 T = true := by rfl) (h1 : Y.tab t = some ti := by rfl) (h2 : ti.sh = .slice el := by rfl) (h3 : Y.tab el = some te := by rfl) (hx : ev T x = .agg cs := by rfl) (hl : cs.length = te.size := by rfl) (hz : 1 * te.size ≤ 16777216 := by decide)
    (hm2 : Y.muta fid 1002 = false := by rfl) (hf : mapMS (frzC 0 6) cs S = some (cs', S)) (hp : cs'.all pureC = true := by rfl) (hk : OW Y fid ops none l (put T dst (.lst [cs'])) S K) : OW Y fid ops none (⟨dst, .buildSlice t 1 #[(0, x)], ty, pos, after, g0⟩ :: l) T S K := by
  refine ⟨A_op hg (v := .lst [cs']) ?_ hk.of⟩
  have hz' : te.size ≤ 16777216 := by omega
  simp [cop, h1, h2, h3, fillS, hx, HV.cells, hl, hz', mapMS, hf, hp, hm2]
/-- A call that keeps what it made. -/
theorem kX {f : Operand} {args : Array Operand} {ats : Array TypeId} {g : Nat} {args' : List HV} {R : HV → St → Prop} (hg : wantG ops g0 T = true := by rfl) (hf : ev T f = .fn g [] := by rfl) (hb : Y.byref g = false := by rfl)
    (ha : mapMS (frzV 0) (args.toList.map (ev T)) S = some (args', S) := by rfl) (he : EvR Y g args' S R) (hk : ∀ v S', R v S' → OW Y fid ops none l (put T dst v) S' K) : OW Y fid ops none (⟨dst, .call ⟨.value f, args, ats⟩, ty, pos, after, g0⟩ :: l) T S K := by
  obtain ⟨v, S', h1, h2⟩ := he
  exact k0 hg hf hb ha (by rw [List.append_nil]; exact h1) rfl (by rw [fv_eq]; exact hk v S' h2)
end
theorem own_get {S1 X : St} {k1 j : Nat} {o o' : Ob} (h : (S1 ++ X)[k1]? = some o') (hj : k1 ≠ S1.length + j) : (S1 ++ X.set j o)[k1]? = some o' := by
  rw [← set_own, List.getElem?_set_ne (Ne.symm hj)]; exact h
/-- A row of one's own that may still be stored into becomes immutable. -/
theorem fz_slF {n0 : Nat} {S : St} {x : HV} {k n : Nat} {rows : List (List HV)} (h0 : x = .sl k n) (hk : n0 ≤ k) (h1 : S[k]? = some (.cells false rows)) (hn : rows.length = n) (hp : rows.all (fun r => r.all pureC) = true) : frzC n0 6 x S = some (.lst rows, S.set k (.cells true rows)) := by
  subst h0
  have hm : mapMS (mapMS (frzC n0 5)) rows S = some (rows, S) := mapMS_same fun r hr => mapMS_same fun c hc => frzC_pure (List.all_eq_true.1 (List.all_eq_true.1 hp r hr) c hc)
  simp only [frzC]
  rw [if_neg (by omega), h1]
  simp [hn, hm, hp]
theorem fmS {α : Type} {f : α → St → Option (α × St)} {S S1 S2 : St} {x x' : α} {xs xs' : List α} (h : f x S = some (x', S1)) (hs : mapMS f xs S1 = some (xs', S2)) : mapMS f (x :: xs) S = some (x' :: xs', S2) := by
  simp only [mapMS, h, hs]
theorem frzR_aggS {n0 : Nat} {S S' : St} {cs cs' : List HV} (h : mapMS (frzC n0 6) cs S = some (cs', S')) : frzR n0 (.agg cs) S = some (.agg cs', S') := by
  simp only [frzR, frzV, h]
/-- A row of steps of one's own, behind all that was there. -/
def Kept (l : Stps) (S : St) (v : HV) (S' : St) : Prop := ∃ J k, S' = S ++ J ∧ v = .sl k l.rows.length ∧ S'[k]? = some (.cells true l.rows) ∧ S.length ≤ k
theorem k_spec_l2Copy (n : Nat) : ∀ (l : Stps) (S : St), l.sz ≤ n → l.sz ≤ 1048576 → EvR Y spec_l2Copy [.lst l.rows] S (Kept l S) := by
  induction n with
  | zero =>
    intro l S h _
    cases l with
    | cons => simp [Stps.sz] at h
    | nil =>
      refine E_startR (h := ?_)
      repeat' (first | refine c0 ?_ | refine c7 ?_ | refine d2 ?_ | refine c8 ?_ | refine d4 ?_ | refine b3 (hk := ?_) | refine b4 (hk := ?_) | refine a5 (hk := ?_))
      refine d5 ?_
      repeat' (first | refine c0 ?_ | refine c2 ?_ | refine c5 ?_ | refine c7 ?_ | refine d2 ?_ | refine c9 ?_ | refine d1 ?_ | refine d4 ?_ | refine a5 (hk := ?_) | refine d7 (hf := ?_))
      exact ⟨_, _, rKeep, _, _, rfl, rfl, get_own rfl, Nat.le_add_right _ _⟩
  | succ n ih =>
    intro l S h hb
    refine E_startR (h := ?_)
    repeat' (first | refine c0 ?_ | refine c7 ?_ | refine d2 ?_ | refine c8 ?_ | refine d4 ?_ | refine b3 (hk := ?_) | refine b4 (hk := ?_) | refine a5 (hk := ?_))
    refine C_stps l (fun pre r T' S' => ∃ (T0 : Tm) (S1 : St), pre.all (fun r => r.length == 8) = true ∧ Ext S S1 ∧ S1[S.length + 1]? = some (.cells true pre) ∧ T' = putL T0 [(0, .lst l.rows), (3, .sl (S.length + 1) pre.length), (4, I pre.length)] ∧ S' = S1 ++ [])
      ⟨_, _, rfl, ex0, get_own rfl, at_mk ⟨rfl, rfl, rfl, trivial⟩, (List.append_nil _).symm⟩ ?_ ?_
    · rintro pre k v x hh t e r T' S' hl hz ⟨T0, S1, hq, hE, f0, rfl, rfl⟩
      have hg := mid hl
      have hp := mid_lt hl
      have := l.rows_len
      have := l.len_sz
      have hlt : (pre.length : Int) < (l.rows.length : Int) := by omega
      repeat' (first | refine c0 ?_ | refine c7 ?_ | refine d2 ?_ | refine c8 ?_ | refine d0 ?_ | refine d4 ?_ | refine b0 (hk := ?_) | refine a5 (hk := ?_) | refine b5 (hk := ?_) | refine b6 (hk := ?_) | refine b8 (hk := ?_) | refine b7 (hk := ?_) | refine u7 (hk := ?_))
      refine kX (he := ih t _ (by omega) (by omega)) (hk := ?_)
      rintro v1 S2 ⟨J1, k1, rfl, rfl, hk1, hle1⟩
      rw [List.append_assoc] at hk1 ⊢
      have hne1 : k1 ≠ S1.length + 0 := by simp at hle1; omega
      have hk1 := own_get (j := 0) (o := .cells false [[I k, I v, I x.kind, I x.a, I x.b, I hh, .sl k1 t.rows.length, .lst e.rows]]) hk1 hne1
      repeat' (first | refine c0 ?_ | refine c7 ?_ | refine d2 ?_ | refine d4 ?_ | refine a5 (hk := ?_) | refine b5 (hk := ?_) | refine b7 (hk := ?_))
      refine kX (he := ih e _ (by omega) (by omega)) (hk := ?_)
      rintro v2 S3 ⟨J2, k2, rfl, rfl, hk2, hle2⟩
      have hk1 := get_old (L := J2) hk1
      rw [List.append_assoc] at hk1 hk2 ⊢
      have hne2 : k2 ≠ S1.length + 0 := by simp at hle2; omega
      have hk1 := own_get (j := 0) (o := .cells false [[I k, I v, I x.kind, I x.a, I x.b, I hh, .sl k1 t.rows.length, .sl k2 e.rows.length]]) hk1 hne1
      have hk2 := own_get (j := 0) (o := .cells false [[I k, I v, I x.kind, I x.a, I x.b, I hh, .sl k1 t.rows.length, .sl k2 e.rows.length]]) hk2 hne2
      have pt := t.rows_pure
      have pe := e.rows_pure
      repeat' (first | refine c0 ?_ | refine d2 ?_ | refine d4 ?_ | refine a5 (hk := ?_) | refine b5 (hk := ?_) | refine b7 (hk := ?_))
      refine bs1 (hf := fm1 rfl (fm1 rfl (fm1 rfl (fm1 rfl (fm1 rfl (fm1 rfl (fm1 (fz_sl rfl (Nat.zero_le _) hk1 rfl pt) (fm1 (fz_sl rfl (Nat.zero_le _) hk2 rfl pe) fm0)))))))) (hk := ?_)
      repeat' (first | refine c0 ?_ | refine c3 ?_ | refine d2 ?_ | refine d4 ?_ | refine a5 (hk := ?_) | refine p0 (hk := ?_))
      refine ⟨_, _, all8 hq rfl, ex1 (ex2 hE (Nat.le_add_right _ _)), get_set f0, at_mk ⟨rfl, ?_, inc (by omega), trivial⟩, (List.append_nil _).symm⟩
      show HV.sl _ _ = _
      simp
    · rintro pre T' S' hl ⟨T0, S1, hq, hE, f0, rfl, rfl⟩
      repeat' (first | refine c0 ?_ | refine c2 ?_ | refine c5 ?_ | refine c7 ?_ | refine d2 ?_ | refine c8 ?_ | refine c9 ?_ | refine d0 ?_ | refine d1 ?_ | refine d4 ?_ | refine a5 (hk := ?_) | (with_reducible intro hc) | refine d8 (ht := ?_) (hf := ?_))
      · simp [hl] at hc
      · subst hl
        obtain ⟨J, rfl⟩ := hE
        exact ⟨.sl (S.length + 1) l.rows.length, _, rKeep, J ++ [], S.length + 1, by rw [List.append_assoc], rfl, get_old f0, by omega⟩
end Go.Proofs.X
end
section
namespace Go.Proofs.X
open Go Go.Proofs.XVai Go.Proofs Go.Proofs.XN
set_option linter.unusedVariables false
set_option linter.unusedSimpArgs false
set_option maxHeartbeats 4000000

/-- A row of one's own, or nil. -/
def Col (fr : Bool) (S : St) (c : HV) (rows : List (List HV)) : Prop := (c = .nils ∧ rows = []) ∨ ∃ q, c = .sl q rows.length ∧ S[q]? = some (.cells fr rows)
/-- Rows that are not the same one. -/
def Apa (a b : HV) : Prop := ∀ k n k' n', a = .sl k n → b = .sl k' n' → k ≠ k'
theorem Apa.symm {a b : HV} (h : Apa a b) : Apa b a := fun k n k' n' h1 h2 e => h k' n' k n h2 h1 e.symm
theorem apa0 {b : HV} : Apa .nils b := fun k n k' n' h1 _ => by cases h1
theorem Col.keep {fr : Bool} {S S' : St} {c : HV} {rows : List (List HV)} (h : Col fr S c rows) (hf : ∀ k n, c = .sl k n → S'[k]? = S[k]?) : Col fr S' c rows := by
  rcases h with ⟨rfl, rfl⟩ | ⟨q, rfl, h⟩
  · exact .inl ⟨rfl, rfl⟩
  · exact .inr ⟨q, rfl, by rw [hf q _ rfl]; exact h⟩
theorem Col.lt {fr : Bool} {S : St} {c : HV} {rows : List (List HV)} (h : Col fr S c rows) {k n : Nat} (hc : c = .sl k n) : k < S.length := by
  rcases h with ⟨rfl, rfl⟩ | ⟨q, rfl, h⟩
  · cases hc
  · cases hc; exact (List.getElem?_eq_some_iff.1 h).1
theorem Col.app {fr : Bool} {S L : St} {c : HV} {rows : List (List HV)} (h : Col fr S c rows) : Col fr (S ++ L) c rows := h.keep fun k n hc => by rw [List.getElem?_append_left (h.lt hc)]
theorem Col.set {fr : Bool} {S : St} {c : HV} {rows : List (List HV)} {j : Nat} {o : Ob} (h : Col fr S c rows) (hj : ∀ k n, c = .sl k n → k ≠ j) : Col fr (S.set j o) c rows := h.keep fun k n hc => by rw [List.getElem?_set_ne (Ne.symm (hj k n hc))]
/-- The rows of a run. -/
structure Run3 (S : St) (r : Rn) (c1 c2 c3 : HV) : Prop where
  a : Col false S c1 (r.nums.map irow)
  b : Col true S c2 (r.ws.map wrow)
  c : Col true S c3 (r.ss.map wrow)
  ab : Apa c1 c2
  ac : Apa c1 c3
  bc : Apa c2 c3
/-- A row that is the old one, or new. -/
def New (b : Nat) (c c' : HV) : Prop := ∀ k n, c' = .sl k n → (∃ m, c = .sl k m) ∨ b ≤ k
/-- All else is as it was. -/
def Frm (S S' : St) (c1 c2 c3 : HV) : Prop := ∀ j, j < S.length → (∀ n, c1 ≠ .sl j n) → (∀ n, c2 ≠ .sl j n) → (∀ n, c3 ≠ .sl j n) → S'[j]? = S[j]?
theorem new0 {b : Nat} {c : HV} : New b c c := fun k n h => .inl ⟨n, h⟩
def Ran (S : St) (l : Stps) (r : Rn) (c1 c2 c3 v : HV) (S' : St) : Prop := ∃ c2' c3', v = .agg [c1, c2', c3'] ∧ Run3 S' (run l r) c1 c2' c3' ∧ New S.length c2 c2' ∧ New S.length c3 c3' ∧ S.length ≤ S'.length ∧ Frm S S' c1 c2 c3
theorem run_cons (k v : Int) (x : Vl) (h : Int) (t e rest : Stps) (r : Rn) : run (.cons k v x h t e rest) r = run rest (if k = 1 then ⟨r.nums.set v.toNat (valNum x r.nums), r.ws ++ [(v, valNum x r.nums)], r.ss⟩
      else if k = 3 then ⟨r.nums, r.ws, r.ss ++ [(h, nget r.nums v)]⟩ else if nget r.nums v ≠ 0 then run t r else run e r) := rfl
theorem valNum_small {x : Vl} {nums : List Int} (hx : valOk nums.length x = true) (hs : small nums) : 0 ≤ valNum x nums ∧ valNum x nums ≤ 9 := by
  have b1 := small_nget hs x.a
  have b2 := small_nget hs x.b
  simp only [valOk] at hx
  unfold valNum
  split at hx
  · rename_i k1
    simp [inB] at hx
    simp [k1]; omega
  · split at hx
    · rename_i k1 k2
      simp [k2]; omega
    · rename_i k1 k2
      split at hx
      · rename_i k3
        simp only [k1, k2, if_false]
        split
        · constructor
          · exact Int.tmod_nonneg _ (by omega)
          · have := Int.tmod_lt_of_pos (nget nums x.a + nget nums x.b) (show (0:Int) < 10 by omega); omega
        · split <;> omega
      · cases hx
theorem small_set {nums : List Int} (hs : small nums) {j : Nat} {x : Int} (h0 : 0 ≤ x ∧ x ≤ 9) : small (nums.set j x) := by
  intro n hn
  rcases List.mem_or_eq_of_mem_set hn with h | rfl
  · exact hs n h
  · exact h0
/-- What stays so in a run. -/
theorem runs_in : ∀ (l : Stps) (d : Int) (r : Rn), stepsOk r.nums.length l d = true → small r.nums → (run l r).nums.length = r.nums.length ∧ small (run l r).nums ∧ (run l r).ws.length ≤ r.ws.length + l.sz ∧ (run l r).ss.length ≤ r.ss.length + l.sz
  | .nil, _, r, _, hs => ⟨rfl, hs, Nat.le_refl _, Nat.le_refl _⟩
  | .cons k v x h t e rest, d, r, ho, hs => by
    rw [stepsOk_cons, Bool.and_eq_true] at ho
    obtain ⟨h1, h2, _, ⟨h3, h4⟩, _⟩ := stepOk_in ho.1
    rw [run_cons]
    simp only [Stps.sz]
    split
    · rename_i hk
      have := runs_in rest d ⟨r.nums.set v.toNat (valNum x r.nums), r.ws ++ [(v, valNum x r.nums)], r.ss⟩ (by simpa using ho.2) (small_set hs (valNum_small (h2 hk) hs))
      simp at this
      exact ⟨this.1, this.2.1, by omega, by omega⟩
    · split
      · have := runs_in rest d ⟨r.nums, r.ws, r.ss ++ [(h, nget r.nums v)]⟩ ho.2 hs
        simp at this
        exact ⟨this.1, this.2.1, by omega, by omega⟩
      · split
        · have a := runs_in t _ r h3 hs
          have b := runs_in rest d (run t r) (by rw [a.1]; exact ho.2) a.2.1
          exact ⟨by omega, b.2.1, by omega, by omega⟩
        · have a := runs_in e _ r h4 hs
          have b := runs_in rest d (run e r) (by rw [a.1]; exact ho.2) a.2.1
          exact ⟨by omega, b.2.1, by omega, by omega⟩
section
variable {fid : Nat} {T : Tm} {S : St} {K : Tm → St → Prop} {ops : Array Oper} {l : List Oper} {dst : Option Tmp} {ty : TypeId} {pos : String} {after : Array Edge} {g0 : Option (Nat × Bool)} {bs ix : Nat} {es : List (Nat × (Nat → Prop))} {ns : List (Nat × Nat)}
/-- A call that gets its rows as they are, and keeps what it made. -/
theorem kR {f : Operand} {args : Array Operand} {ats : Array TypeId} {g : Nat} {args' : List HV} {R : HV → St → Prop} (hg : wantG ops g0 T = true := by rfl) (hf : ev T f = .fn g [] := by rfl) (hb : Y.byref g = true := by rfl)
    (ha : args.toList.map (ev T) = args' := by rfl) (he : EvR Y g args' S R) (hk : ∀ v S', R v S' → OW Y fid ops none l (put T dst v) S' K) : OW Y fid ops none (⟨dst, .call ⟨.value f, args, ats⟩, ty, pos, after, g0⟩ :: l) T S K := by
  obtain ⟨v, S', h1, h2⟩ := he
  subst ha
  exact k1 hg hf hb (by rw [List.append_nil]) h1 rfl (by rw [fv_eq]; exact hk v S' h2)
end
/-- A return that keeps all, out of a cell. -/
theorem rKeepC {Y : XVai.Sys} {f : Nat} {fn : Func} {T' : Tm} {S S1 : St} {v : HV} (hkp : Y.keep f = true := by rfl) {a : Tmp} {t : TypeId} (hres : fn.results.toList = [.cell a t] := by rfl) {ti : TI} (h1 : Y.tab t = some ti := by rfl) {q n i of' : Nat} {fr : Bool} {rows : List (List HV)} {row : List HV}
    (h2 : T' a = .ptr q n i of' := by rfl) (h3 : S1[q]? = some (.cells fr rows)) (h4 : rows.length = n := by rfl) (h5 : rows[i]? = some row := by rfl) (h6 : XVai.part ti.agg ti.size row of' = some v := by rfl) : RT Y f fn S v S1 .ret T' S1 := by
  have hr : resVs Y T' S1 fn.results.toList = some [v] := by
    rw [hres]
    simp only [resVs, resV, cload, h1, getRow, h2, h3, h4, if_true, h5, Option.map_some, h6]
  exact rKeep hkp hr rfl
theorem Col.cell {fr : Bool} {S : St} {c : HV} {rows : List (List HV)} (h : Col fr S c rows) : isCell c = true := by
  rcases h with ⟨rfl, rfl⟩ | ⟨q, rfl, h⟩ <;> rfl
theorem get_ownL {S1 L : St} {n j : Nat} {o : Ob} (hn : S1.length = n) (h : L[j]? = some o) : (S1 ++ L)[n + j]? = some o := by subst hn; exact get_own h
theorem Col.of {fr : Bool} {S : St} {q n : Nat} {rows : List (List HV)} (h : S[q]? = some (.cells fr rows)) (hn : n = rows.length) : Col fr S (.sl q n) rows := .inr ⟨q, by rw [hn], h⟩
theorem Col.of' {fr : Bool} {S : St} {q n : Nat} {rows rows' : List (List HV)} (h : S[q]? = some (.cells fr rows)) (hr : rows = rows') (hn : n = rows'.length) : Col fr S (.sl q n) rows' := by subst hr; exact .inr ⟨q, by rw [hn], h⟩
theorem Frm.set {S S1 : St} {c1 c2 c3 : HV} {k : Nat} {o : Ob} (h : Frm S S1 c1 c2 c3) (hk : S.length ≤ k ∨ (∃ n, c1 = .sl k n) ∨ (∃ n, c2 = .sl k n) ∨ ∃ n, c3 = .sl k n) : Frm S (S1.set k o) c1 c2 c3 := by
  intro j hj h1 h2 h3
  rw [List.getElem?_set_ne, h j hj h1 h2 h3]
  rintro rfl
  rcases hk with hk | ⟨n, hk⟩ | ⟨n, hk⟩ | ⟨n, hk⟩
  · omega
  · exact h1 n hk
  · exact h2 n hk
  · exact h3 n hk
theorem Frm.app {S S1 L : St} {c1 c2 c3 : HV} (h : Frm S S1 c1 c2 c3) (hl : S.length ≤ S1.length) : Frm S (S1 ++ L) c1 c2 c3 := by
  intro j hj h1 h2 h3
  rw [List.getElem?_append_left (by omega), h j hj h1 h2 h3]
theorem New.own {b s k n : Nat} {c c' : HV} (h : New b c c') (hs : s ≤ b) (hc : c' = .sl k n) : s ≤ k ∨ ∃ n, c = .sl k n := by
  rcases h k n hc with h | h
  · exact .inr h
  · exact .inl (by omega)
theorem Frm.trans {S S1 S2 : St} {c1 c2 c3 e2 e3 : HV} {b : Nat} (h : Frm S S1 c1 c2 c3) (h' : Frm S1 S2 c1 e2 e3) (n2 : New b c2 e2) (n3 : New b c3 e3) (hb : S.length ≤ b) (hl : S.length ≤ S1.length) : Frm S S2 c1 c2 c3 := by
  intro j hj h1 h2 h3
  rw [h' j (by omega) h1 (fun n hc => ?_) (fun n hc => ?_), h j hj h1 h2 h3]
  · rcases n2 j n hc with ⟨m, hm⟩ | hm
    · exact h2 m hm
    · omega
  · rcases n3 j n hc with ⟨m, hm⟩ | hm
    · exact h3 m hm
    · omega
theorem New.to {b k n m : Nat} {c : HV} (h : New b c (.sl k n)) : New b c (.sl k m) := fun k' n' hc => by cases hc; exact h k n rfl
theorem New.nw {b k n : Nat} {c : HV} (h : b ≤ k) : New b c (.sl k n) := fun k' n' hc => by cases hc; exact .inr h
theorem New.trans {b b' : Nat} {c c' c'' : HV} (h : New b c c') (h' : New b' c' c'') (hb : b ≤ b') : New b c c'' := fun k n hc => by
  rcases h' k n hc with ⟨m, hm⟩ | hm
  · exact h k m hm
  · exact .inr (by omega)
theorem apaS {q n : Nat} {b : HV} (h : ∀ k m, b = .sl k m → k ≠ q) : Apa (.sl q n) b := fun k m k' m' h1 h2 e => by cases h1; exact h k' m' h2 e.symm
theorem k_spec_l3Do (n : Nat) : ∀ (l : Stps) (d : Int) (r : Rn) (m1 m2 m3 : HV) (S : St), l.sz ≤ n → l.sz ≤ 1000 → stepsOk r.nums.length l d = true → small r.nums → r.nums.length ≤ 1000 → r.ws.length + l.sz ≤ 100000 → r.ss.length + l.sz ≤ 100000 → Run3 S r m1 m2 m3 →
    EvR Y spec_l3Do [.lst l.rows, .agg [m1, m2, m3]] S (Ran S l r m1 m2 m3) := by
  induction n using Nat.strongRecOn with
  | _ n ih =>
    intro l d r m1 m2 m3 S h hb ho hs hn hw hv h3
    refine E_startR (h := ?_)
    repeat' (first | refine c0 ?_ | refine c7 ?_ | refine d2 ?_ | refine c8 ?_ | refine d4 ?_ | refine b0 (hk := ?_) | refine b1 (hk := ?_) | refine a5 (hk := ?_))
    have hlt := fun k n (hc : m1 = .sl k n) => h3.a.lt hc
    have hlt2 := fun k n (hc : m2 = .sl k n) => h3.b.lt hc
    have hlt3 := fun k n (hc : m3 = .sl k n) => h3.c.lt hc
    refine C_stps l (fun pre rest T' S' => ∃ (T0 : Tm) (S1 : St) (r1 : Rn) (y2 y3 : HV) (z : List HV), run l r = run rest r1 ∧ stepsOk r1.nums.length rest d = true ∧ small r1.nums ∧ r1.nums.length ≤ 1000 ∧ r1.ws.length + rest.sz ≤ 100000 ∧ r1.ss.length + rest.sz ≤ 100000 ∧ z.length = 3 ∧
        Run3 S1 r1 m1 y2 y3 ∧ New (S.length + 2) m2 y2 ∧ New (S.length + 2) m3 y3 ∧ S.length + 2 ≤ S1.length ∧ Frm S S1 m1 m2 m3 ∧ S1[S.length + 0]? = some (.cells false [[m1, y2, y3]]) ∧ S1[S.length + 1]? = some (.cells false [z]) ∧
        T' = putL T0 [(0, .lst l.rows), (3, .ptr (S.length + 0) 1 0 0), (4, .ptr (S.length + 1) 1 0 0), (5, I pre.length)] ∧ S' = S1 ++ [])
      ⟨_, _, r, m2, m3, _, rfl, ho, hs, hn, hw, hv, rfl, ⟨h3.a.app, h3.b.app, h3.c.app, h3.ab, h3.ac, h3.bc⟩, new0, new0, by simp, fun j hj _ _ _ => by rw [List.getElem?_append_left hj], get_own rfl, get_own rfl, at_mk ⟨rfl, rfl, rfl, rfl, trivial⟩, (List.append_nil _).symm⟩ ?_ ?_
    · rintro pre k v x hh t e rest T' S' hl hz ⟨T0, S1, r1, y2, y3, z, hq, ho, hs, hn, hw, hv, hz3, h3, n2, n3, hle, hF, fB, fR, rfl, rfl⟩
      have hg := mid hl
      have hp := mid_lt hl
      have := l.rows_len
      have := l.len_sz
      have hlt' : (pre.length : Int) < (l.rows.length : Int) := by omega
      have i1 := h3.a.cell
      have i2 := h3.b.cell
      have i3 := h3.c.cell
      rw [stepsOk_cons, Bool.and_eq_true] at ho
      obtain ⟨hv1, hv2, _, ⟨ht, he⟩, _⟩ := stepOk_in ho.1
      obtain ⟨j, rfl, hj⟩ := vOk_nat hv1
      obtain ⟨q1, rfl, fN⟩ : ∃ q1, m1 = .sl q1 r1.nums.length ∧ S1[q1]? = some (.cells false (r1.nums.map irow)) := by
        rcases h3.a with ⟨_, h0⟩ | ⟨q, h0, h1⟩
        · simp at h0; simp [h0] at hj
        · exact ⟨q, by simpa using h0, h1⟩
      have hlN : (r1.nums.map irow).length = r1.nums.length := by simp
      have hgj := map_get (f := irow) (nget_at hj)
      have hq1 := hlt q1 _ rfl
      have hB1 : S.length + 0 ≠ q1 := by omega
      have hR1 : S.length + 1 ≠ q1 := by omega
      have lw : (r1.ws.map wrow).length = r1.ws.length := by simp
      have lv : (r1.ss.map wrow).length = r1.ss.length := by simp
      have w2 := wrow2 r1.ws
      have w3 := wrow2 r1.ss
      simp only [Stps.sz] at hw hv
      have g2 : ∀ k n, y2 = .sl k n → k ≠ S.length + 0 ∧ k ≠ S.length + 1 := fun k n hc => by
        rcases n2 k n hc with ⟨m, hm⟩ | hm
        · have := hlt2 k m hm; omega
        · omega
      have g3 : ∀ k n, y3 = .sl k n → k ≠ S.length + 0 ∧ k ≠ S.length + 1 := fun k n hc => by
        rcases n3 k n hc with ⟨m, hm⟩ | hm
        · have := hlt3 k m hm; omega
        · omega
      have x2 : ∀ k n, y2 = .sl k n → k ≠ q1 := fun k n hc e => h3.ab _ _ _ _ rfl hc e.symm
      have x3 : ∀ k n, y3 = .sl k n → k ≠ q1 := fun k n hc e => h3.ac _ _ _ _ rfl hc e.symm
      have u2 : ∀ k n, y2 = .sl k n → k < S1.length := fun k n hc => h3.b.lt hc
      have u3 : ∀ k n, y3 = .sl k n → k < S1.length := fun k n hc => h3.c.lt hc
      have hB2 : S.length + 0 ≠ S.length + 1 := by omega
      by_cases k1 : k = 1
      · subst k1
        repeat' (first | refine c0 ?_ | refine c7 ?_ | refine d2 ?_ | refine c8 ?_ | refine d0 ?_ | refine d4 ?_ | refine k1 (he := (by first | exact k_spec_l3Num _ _ _ _ _ (hv2 rfl) hs (get_old fN))) (hk := ?_) | refine b0 (hk := ?_) | refine a5 (hk := ?_) | refine b5 (hk := ?_) | refine b6 (hk := ?_) | refine b8 (hk := ?_) | refine b9 (hk := ?_) | refine b7 (hk := ?_) | refine d6 (ht := ?_) | refine u7 (hk := ?_))
        have hq' : run l r = run rest ⟨r1.nums.set j (valNum x r1.nums), r1.ws ++ [((j : Int), valNum x r1.nums)], r1.ss⟩ := by rw [hq, run_cons, if_pos rfl, Int.toNat_natCast]
        have ho' : stepsOk (r1.nums.set j (valNum x r1.nums)).length rest d = true := by rw [List.length_set]; exact ho.2
        have hs' := small_set (j := j) hs (valNum_small (hv2 rfl) hs)
        have hn' : (r1.nums.set j (valNum x r1.nums)).length ≤ 1000 := by rw [List.length_set]; exact hn
        have hw' : (r1.ws ++ [((j : Int), valNum x r1.nums)]).length + rest.sz ≤ 100000 := by rw [List.length_append]; simp; omega
        have hnm : (r1.nums.map irow).set j (irow (valNum x r1.nums)) = (r1.nums.set j (valNum x r1.nums)).map irow := by rw [List.map_set]
        rcases h3.b with ⟨rfl, hw0⟩ | ⟨q2, rfl, fW⟩
        · repeat' (first | refine c0 ?_ | refine c3 ?_ | refine d2 ?_ | refine d4 ?_ | refine p1 (hk := ?_) | refine a5 (hk := ?_) | refine b7 (hk := ?_))
          refine ⟨_, _, _, .sl (S1.length + 1) 1, y3, z, hq', ho', hs', hn', hw', ?_, hz3, ?_, ?_, n3, ?_, ?_, ?_, ?_, at_mk ⟨rfl, rfl, rfl, inc (by omega), trivial⟩, (List.append_nil _).symm⟩
          · simp only; omega
          · exact ⟨Col.of' (get_old (setN (Ne.symm hB1) (setE fN))) hnm (by simp), Col.of' (get_ownL (by simp) rfl) (by simp at hw0; rw [hw0]; rfl) (by simp at hw0; simp [hw0]), ((h3.c.set x3).set fun k n hc => (g3 k n hc).1).app, apaS fun k n hc => by cases hc; have := (List.getElem?_eq_some_iff.1 fN).1; omega, h3.ac, apaS fun k n hc => by have := u3 k n hc; omega⟩
          · exact New.nw (by omega)
          · simp; omega
          · exact ((hF.set (.inr (.inl ⟨_, rfl⟩))).set (.inl (by omega))).app (by simp; omega)
          · rw [get_old (setE (setN hB1 fB))]; show some (Ob.cells false [[_, .sl ((List.set S1 q1 _).length + 1) 1, y3]]) = _; rw [List.length_set]
          · exact get_old (setN (by omega) (setN hR1 fR))
        · have h12 : q2 ≠ q1 := x2 _ _ rfl
          have hgq := (g2 _ _ rfl).1
          have hgr := (g2 _ _ rfl).2
          repeat' (first | refine a5 (hk := ?_) | refine p0 (hk := ?_))
          refine b7 (h3 := get_old (setN (Ne.symm hgq) (setN hB1 fB))) (h10 := set_old (setN (Ne.symm hgq) (setN hB1 fB))) (hk := ?_)
          repeat' (first | refine c0 ?_ | refine c3 ?_ | refine d2 ?_ | refine d4 ?_ | refine a5 (hk := ?_))
          refine ⟨_, _, _, .sl q2 ((r1.ws.map wrow).length + 1), y3, z, hq', ho', hs', hn', hw', ?_, hz3, ?_, n2.to, n3, ?_, ?_, ?_, ?_, at_mk ⟨rfl, rfl, rfl, inc (by omega), trivial⟩, (List.append_nil _).symm⟩
          · simp only; omega
          · exact ⟨Col.of' (get_old (setN (Ne.symm hB1) (setN (Ne.symm h12) (setE fN)))) hnm (by simp), Col.of' (get_old (setN hgq (setE (setN h12 fW)))) (by rw [List.map_append]; rfl) (by simp), (((h3.c.set x3).set fun k n hc => (fun e => h3.bc _ _ _ _ rfl hc e.symm)).set fun k n hc => (g3 k n hc).1).app, apaS fun k n hc => by cases hc; exact h12, h3.ac, apaS fun k n hc => (fun e => h3.bc _ _ _ _ rfl hc e.symm)⟩
          · simp; omega
          · exact (((hF.set (.inr (.inl ⟨_, rfl⟩))).set ((n2.own (by omega) rfl).imp id fun h => .inr (.inl h))).set (.inl (by omega))).app (by simp; omega)
          · exact get_old (setE (setN (Ne.symm hgq) (setN hB1 fB)))
          · exact get_old (setN (by omega) (setN (Ne.symm hgr) (setN hR1 fR)))
      by_cases k3 : k = 3
      · subst k3
        have hq' : run l r = run rest ⟨r1.nums, r1.ws, r1.ss ++ [(hh, nget r1.nums (j : Int))]⟩ := by rw [hq, run_cons, if_neg (by omega), if_pos rfl]
        have hw' : (r1.ss ++ [(hh, nget r1.nums (j : Int))]).length + rest.sz ≤ 100000 := by rw [List.length_append]; simp; omega
        repeat' (first | refine c0 ?_ | refine c7 ?_ | refine d2 ?_ | refine c8 ?_ | refine d0 ?_ | refine d4 ?_ | refine d3' (h := ?_) | refine b0 (hk := ?_) | refine a5 (hk := ?_) | refine b5 (hk := ?_) | refine b6 (hk := ?_) | refine b8 (hk := ?_) | refine b7 (hk := ?_) | refine b4' (hk := ?_) | refine b7b (hk := ?_) | refine e5' (hk := ?_) | refine f5' (hk := ?_) | refine f9' (hk := ?_) | refine d6 (ht := ?_) | refine d7 (hf := ?_) | refine u7 (hk := ?_))
        rcases h3.c with ⟨rfl, hw0⟩ | ⟨q3, rfl, fV⟩
        · repeat' (first | refine c0 ?_ | refine c3 ?_ | refine d2 ?_ | refine d4 ?_ | refine d4' ?_ | refine a5 (hk := ?_) | refine p1' (hk := ?_) | refine e5' (hk := ?_) | refine b7' (hk := ?_))
          refine ⟨_, _, _, y2, .sl (S1.length + 13) 1, z, hq', ho.2, hs, hn, ?_, hw', hz3, ?_, n2, ?_, ?_, ?_, ?_, ?_, at_mk ⟨rfl, rfl, rfl, inc (by omega), trivial⟩, (List.append_nil _).symm⟩
          · simp only; omega
          · exact ⟨(h3.a.set fun k n hc => by cases hc; omega).app, (h3.b.set fun k n hc => (g2 k n hc).1).app, Col.of' (get_ownL (by simp) rfl) (by simp at hw0; rw [hw0]; rfl) (by simp at hw0; simp [hw0]), h3.ab, apaS fun k n hc => by cases hc; have := (List.getElem?_eq_some_iff.1 fN).1; omega, Apa.symm (apaS fun k n hc => by have := u2 k n hc; omega)⟩
          · exact New.nw (by omega)
          · simp; omega
          · exact (hF.set (.inl (by omega))).app (by simp; omega)
          · exact get_old (setE fB)
          · exact get_old (setN (by omega) fR)
        · have h13 : q3 ≠ q1 := x3 _ _ rfl
          have hgq := (g3 _ _ rfl).1
          have hgr := (g3 _ _ rfl).2
          have hgq' := Ne.symm hgq
          repeat' (first | refine c0 ?_ | refine c3 ?_ | refine d2 ?_ | refine d4 ?_ | refine d4' ?_ | refine a5 (hk := ?_) | refine e5' (hk := ?_) | refine b7' (hk := ?_) | refine p0' (hk := ?_))
          refine ⟨_, _, _, y2, .sl q3 ((r1.ss.map wrow).length + 1), z, hq', ho.2, hs, hn, ?_, hw', hz3, ?_, n2, n3.to, ?_, ?_, ?_, ?_, at_mk ⟨rfl, rfl, rfl, inc (by omega), trivial⟩, (List.append_nil _).symm⟩
          · simp only; omega
          · exact ⟨((h3.a.set fun k n hc => by cases hc; exact Ne.symm h13).set fun k n hc => by cases hc; omega).app, ((h3.b.set fun k n hc => (fun e => h3.bc _ _ _ _ hc rfl e)).set fun k n hc => (g2 k n hc).1).app, Col.of' (get_old (setN hgq (setE fV))) (by rw [List.map_append]; rfl) (by simp), h3.ab, apaS fun k n hc => by cases hc; exact h13, Apa.symm (apaS fun k n hc => (fun e => h3.bc _ _ _ _ hc rfl e))⟩
          · simp; omega
          · exact ((hF.set ((n3.own (by omega) rfl).imp id fun h => .inr (.inr h))).set (.inl (by omega))).app (by simp; omega)
          · rw [get_old (setE (setN hgq' fB))]; rfl
          · exact get_old (setN (by omega) (setN (Ne.symm hgr) fR))
      have e1 : (k == 1) = false := by simpa using k1
      have e3 : (k == 3) = false := by simpa using k3
      repeat' (first | refine c0 ?_ | refine c7 ?_ | refine d2 ?_ | refine c8 ?_ | refine d0 ?_ | refine d4 ?_ | refine b0 (hk := ?_) | refine a5 (hk := ?_) | refine b5 (hk := ?_) | refine b6 (hk := ?_) | refine b8 (hk := ?_) | refine b9 (hk := ?_) | refine b7 (hk := ?_) | (with_reducible intro hc) | refine u6 (hk := ?_) | refine u7 (hk := ?_) | refine d9 (ht := ?_) (hf := ?_))
      · refine kR (he := ih t.sz (by omega) t (d - 1) r1 _ _ _ _ (Nat.le_refl _) (by omega) ht hs hn (by omega) (by omega) ⟨h3.a.app, h3.b.app, h3.c.app, h3.ab, h3.ac, h3.bc⟩) (hk := ?_)
        rintro v S2 ⟨y2', y3', rfl, h3', n2', n3', hle', hF'⟩
        simp at hle'
        have o1 : ∀ n, HV.sl q1 r1.nums.length ≠ .sl (S.length + 0) n := fun n e => by cases e; omega
        have o1' : ∀ n, HV.sl q1 r1.nums.length ≠ .sl (S.length + 1) n := fun n e => by cases e; omega
        have fB' : S2[S.length + 0]? = some (.cells false [[.sl q1 r1.nums.length, y2, y3]]) := by
          rw [hF' _ (by simp; omega) o1 (fun n e => (g2 _ _ e).1 rfl) (fun n e => (g3 _ _ e).1 rfl)]
          exact get_old fB
        have fR' : S2[S.length + 1]? = some (.cells false [z]) := by
          rw [hF' _ (by simp; omega) o1' (fun n e => (g2 _ _ e).2 rfl) (fun n e => (g3 _ _ e).2 rfl)]
          exact get_old fR
        have i2' := h3'.b.cell
        have i3' := h3'.c.cell
        have hri := runs_in t (d - 1) r1 ht hs
        rw [← List.append_nil S2]
        refine b7 (h3 := get_old fB') (h9 := by show [HV.sl q1 r1.nums.length, y2', y3'].all isCell = true; simp only [List.all_cons, i2', i3']; rfl) (h10 := set_old fB') (hk := ?_)
        repeat' (first | refine c0 ?_ | refine c3 ?_ | refine d2 ?_ | refine d4 ?_ | refine a5 (hk := ?_))
        refine ⟨_, _, run t r1, y2', y3', z, ?_, by rw [hri.1]; exact ho.2, hri.2.1, by rw [hri.1]; exact hn, by omega, by omega, hz3, ?_, n2.trans n2' (by simp; omega), n3.trans n3' (by simp; omega), by simp; omega, ?_, get_old (setE fB'), get_old (setN (by omega) fR'), at_mk ⟨rfl, rfl, rfl, inc (by omega), trivial⟩, (List.append_nil _).symm⟩
        · simp at hc
          rw [hq, run_cons, if_neg k1, if_neg k3, if_pos hc]
        · refine ⟨(h3'.a.set fun k n hc => by cases hc; omega).app, (h3'.b.set fun k n hc => ?_).app, (h3'.c.set fun k n hc => ?_).app, h3'.ab, h3'.ac, h3'.bc⟩
          · rcases n2' k n hc with ⟨m, hm⟩ | hm
            · exact (g2 _ _ hm).1
            · simp at hm; omega
          · rcases n3' k n hc with ⟨m, hm⟩ | hm
            · exact (g3 _ _ hm).1
            · simp at hm; omega
        · exact (((hF.app (by omega)).trans hF' n2 n3 (by omega) (by simp; omega)).set (.inl (by omega))).app (by simp; omega)
      · refine kR (he := ih e.sz (by omega) e (d - 1) r1 _ _ _ _ (Nat.le_refl _) (by omega) he hs hn (by omega) (by omega) ⟨h3.a.app, h3.b.app, h3.c.app, h3.ab, h3.ac, h3.bc⟩) (hk := ?_)
        rintro v S2 ⟨y2', y3', rfl, h3', n2', n3', hle', hF'⟩
        simp at hle'
        have o1 : ∀ n, HV.sl q1 r1.nums.length ≠ .sl (S.length + 0) n := fun n e => by cases e; omega
        have o1' : ∀ n, HV.sl q1 r1.nums.length ≠ .sl (S.length + 1) n := fun n e => by cases e; omega
        have fB' : S2[S.length + 0]? = some (.cells false [[.sl q1 r1.nums.length, y2, y3]]) := by
          rw [hF' _ (by simp; omega) o1 (fun n e => (g2 _ _ e).1 rfl) (fun n e => (g3 _ _ e).1 rfl)]
          exact get_old fB
        have fR' : S2[S.length + 1]? = some (.cells false [z]) := by
          rw [hF' _ (by simp; omega) o1' (fun n e => (g2 _ _ e).2 rfl) (fun n e => (g3 _ _ e).2 rfl)]
          exact get_old fR
        have i2' := h3'.b.cell
        have i3' := h3'.c.cell
        have hri := runs_in e (d - 1) r1 he hs
        rw [← List.append_nil S2]
        refine b7 (h3 := get_old fB') (h9 := by show [HV.sl q1 r1.nums.length, y2', y3'].all isCell = true; simp only [List.all_cons, i2', i3']; rfl) (h10 := set_old fB') (hk := ?_)
        repeat' (first | refine c0 ?_ | refine c3 ?_ | refine d2 ?_ | refine d4 ?_ | refine a5 (hk := ?_))
        refine ⟨_, _, run e r1, y2', y3', z, ?_, by rw [hri.1]; exact ho.2, hri.2.1, by rw [hri.1]; exact hn, by omega, by omega, hz3, ?_, n2.trans n2' (by simp; omega), n3.trans n3' (by simp; omega), by simp; omega, ?_, get_old (setE fB'), get_old (setN (by omega) fR'), at_mk ⟨rfl, rfl, rfl, inc (by omega), trivial⟩, (List.append_nil _).symm⟩
        · simp at hc
          rw [hq, run_cons, if_neg k1, if_neg k3, if_neg (by simpa using hc)]
        · refine ⟨(h3'.a.set fun k n hc => by cases hc; omega).app, (h3'.b.set fun k n hc => ?_).app, (h3'.c.set fun k n hc => ?_).app, h3'.ab, h3'.ac, h3'.bc⟩
          · rcases n2' k n hc with ⟨m, hm⟩ | hm
            · exact (g2 _ _ hm).1
            · simp at hm; omega
          · rcases n3' k n hc with ⟨m, hm⟩ | hm
            · exact (g3 _ _ hm).1
            · simp at hm; omega
        · exact (((hF.app (by omega)).trans hF' n2 n3 (by omega) (by simp; omega)).set (.inl (by omega))).app (by simp; omega)
    · rintro pre T' S' hl ⟨T0, S1, r1, y2, y3, z, hq, ho, hs, hn, hw, hv, hz3, h3, n2, n3, hle, hF, fB, fR, rfl, rfl⟩
      match z, hz3 with
      | [z1, z2, z3], _ =>
      have hlt' : ¬ ((pre.length : Int) < (l.rows.length : Int)) := by rw [hl]; omega
      have i1 := h3.a.cell
      have i2 := h3.b.cell
      have i3 := h3.c.cell
      have g1 : ∀ k n, m1 = .sl k n → k ≠ S.length + 1 := fun k n hc => by have := hlt k n hc; omega
      have g2 : ∀ k n, y2 = .sl k n → k ≠ S.length + 1 := fun k n hc => by
        rcases n2 k n hc with ⟨m, hm⟩ | hm
        · have := hlt2 k m hm; omega
        · omega
      have g3 : ∀ k n, y3 = .sl k n → k ≠ S.length + 1 := fun k n hc => by
        rcases n3 k n hc with ⟨m, hm⟩ | hm
        · have := hlt3 k m hm; omega
        · omega
      repeat' (first | refine c0 ?_ | refine c2 ?_ | refine c5 ?_ | refine c7 ?_ | refine d2 ?_ | refine d1 ?_ | refine d4 ?_ | refine a5 (hk := ?_) | refine b5 (hk := ?_) | refine u8 (hk := ?_))
      refine b7 (h9 := by show [m1, y2, y3].all isCell = true; simp [i1, i2, i3]) (hk := ?_)
      repeat' (first | refine c0 ?_ | refine c9 ?_ | refine d4 ?_)
      refine ⟨_, _, rKeepC (h3 := get_old (setE fR)), y2, y3, rfl, ?_, fun k n hc => (n2.own (by omega) hc).symm, fun k n hc => (n3.own (by omega) hc).symm, by simp; omega, (hF.set (.inl (by omega))).app (by simp; omega)⟩
      rw [hq]
      exact ⟨(h3.a.set g1).app, (h3.b.set g2).app, (h3.c.set g3).app, h3.ab, h3.ac, h3.bc⟩
end Go.Proofs.X
end
section
namespace Go.Proofs.X
open Go Go.Proofs.XVai Go.Proofs Go.Proofs.XN
set_option linter.unusedVariables false
set_option linter.unusedSimpArgs false
set_option maxHeartbeats 4000000

section
variable {fid : Nat} {T : Tm} {S : St} {K : Tm → St → Prop} {ops : Array Oper} {l : List Oper} {dst : Option Tmp} {ty : TypeId} {pos : String} {after : Array Edge} {g0 : Option (Nat × Bool)} {bs ix : Nat} {es : List (Nat × (Nat → Prop))} {ns : List (Nat × Nat)}
/-- A call that gets its rows as they are, and may change much: all that is ahead is ahead in any order. -/
theorem kT' {f : Operand} {args : Array Operand} {ats : Array TypeId} {g : Nat} {args' : List HV} {R : HV → St → Prop} (hg : wantG ops g0 T = true := by rfl) (hf : ev T f = .fn g [] := by rfl) (hb : Y.byref g = true := by rfl)
    (ha : args.toList.map (ev T) = args' := by rfl) (he : EvR Y g args' S R) (hc : Nc ops ns ix (fun _ => True) := by first | exact nc0 | ((repeat' (first | exact nc0 | refine nc2 (by decide +kernel) ?_)) <;> fail)) (hk : ∀ v S', R v S' → DW Y fid ops bs (ix + 1) ((ix, fun _ => True) :: es) ns l (put T dst v) S' K) :
    DW Y fid ops bs ix es ns (⟨dst, .call ⟨.value f, args, ats⟩, ty, pos, after, g0⟩ :: l) T S K := by
  obtain ⟨v, S', ⟨m, hm⟩, h2⟩ := he
  subst ha
  rw [← List.append_nil (args.toList.map (ev T))] at hm
  exact DW_effP hg ⟨m, by simp only [cop, hf, hb, if_true, hm]⟩ rfl hc (fun j hj => absurd trivial hj) (hk v S' h2)
/-- The same, of what is handed on by value. -/
theorem kU' {f : Operand} {args : Array Operand} {ats : Array TypeId} {g : Nat} {args' : List HV} {R : HV → St → Prop} (hg : wantG ops g0 T = true := by rfl) (hf : ev T f = .fn g [] := by rfl) (hb : Y.byref g = false := by rfl)
    (ha : mapMS (frzV 0) (args.toList.map (ev T)) S = some (args', S)) (he : EvR Y g args' S R) (hc : Nc ops ns ix (fun _ => True) := by first | exact nc0 | ((repeat' (first | exact nc0 | refine nc2 (by decide +kernel) ?_)) <;> fail)) (hk : ∀ v S', R v S' → DW Y fid ops bs (ix + 1) ((ix, fun _ => True) :: es) ns l (put T dst v) S' K) :
    DW Y fid ops bs ix es ns (⟨dst, .call ⟨.value f, args, ats⟩, ty, pos, after, g0⟩ :: l) T S K := by
  obtain ⟨v, S', ⟨m, hm⟩, h2⟩ := he
  rw [← List.append_nil args'] at hm
  exact DW_effP hg ⟨m, by simp only [cop, hf, hb, Bool.false_eq_true, if_false, ha, hm]⟩ rfl hc (fun j hj => absurd trivial hj) (hk v S' h2)
/-- Nothing is put behind nil. -/
theorem pN' {f : Builtin} {x y : Operand} {t t2 : TypeId} {ti ti2 : TI} {e e2 z : Nat} (hg : wantG ops g0 T = true := by rfl) (hf : f = .append := by rfl) (h1 : Y.tab t = some ti := by rfl) (h2 : ti.sh = .slice e := by rfl) (h3 : Y.tab t2 = some ti2 := by rfl) (h4 : ti2.sh = .slice e2 := by rfl) (h5 : tsize Y e = some z := by rfl)
    (hx : ev T x = .nils := by rfl) (hr : rowsOf S (ev T y) = some [] := by rfl) (hk : DW Y fid ops bs (ix + 1) es ns l (put T dst .nils) S K) :
    DW Y fid ops bs ix es ns (⟨dst, .call ⟨.builtin f, #[x, y], #[t, t2]⟩, ty, pos, after, g0⟩ :: l) T S K := by
  subst hf
  refine DW_pure hg ⟨0, ?_⟩ rfl hk
  simp only [cop]
  simp only [List.map_cons, List.map_nil, h1, h2, h3, h4, h5, cappend, hx, hr]
  rfl
end
theorem Ext.old {S S1 : St} (h : Ext S S1) {j : Nat} (hj : j < S.length) : S1[j]? = S[j]? := by
  obtain ⟨J, rfl⟩ := h
  exact List.getElem?_append_left hj
theorem Ext.le {S S1 : St} (h : Ext S S1) : S.length ≤ S1.length := by
  obtain ⟨J, rfl⟩ := h
  simp
/-- A return of which all is given. -/
theorem rG {f : Nat} {fn : Func} {T' : Tm} {S0 S1 S2 : St} {vs : List HV} {v v' : HV} (hkp : Y.keep f = false := by rfl) (hr : resVs Y T' S1 fn.results.toList = some vs := by rfl) (hz : frzR S0.length (resTup vs) S1 = some (v, S2)) (hi : idR S0.length v = true := by rfl)
    (hl : S0.length ≤ S2.length) (ho : ∀ j, j < S0.length → S2[j]? = S0[j]?) (hv : v = v' := by rfl) : RT Y f fn S0 v' S0 .ret T' S1 := by
  subst hv
  have hold : oldOk S0.length S0 S2 := ⟨hl, fun k hk => .inl (ho k hk)⟩
  have ht : S2.take S0.length = S0 := by
    refine List.ext_getElem? fun j => ?_
    by_cases hj : j < S0.length
    · rw [List.getElem?_take_of_lt hj, ho j hj]
    · rw [List.getElem?_eq_none (by simp; omega), List.getElem?_eq_none (by omega)]
  refine ⟨?_⟩
  simp only [cret, hr, hkp, hz]
  simp [hi, hold, ht]
theorem frzR_tup {n0 : Nat} {S S' : St} {vs vs' : List HV} (h : mapMS (frzV n0) vs S = some (vs', S')) : frzR n0 (.tup vs) S = some (.tup vs', S') := by
  simp only [frzR, h]
/-- The same, out of a cell. -/
theorem rCG {f : Nat} {fn : Func} {T' : Tm} {S0 S1 S2 : St} {v w : HV} (hkp : Y.keep f = false := by rfl) {a : Tmp} {t : TypeId} (hres : fn.results.toList = [.cell a t] := by rfl) {ti : TI} (h1 : Y.tab t = some ti := by rfl) {q n i of' : Nat} {fr : Bool} {rows : List (List HV)} {row : List HV}
    (h2 : T' a = .ptr q n i of' := by rfl) (h3 : S1[q]? = some (.cells fr rows)) (h4 : rows.length = n := by rfl) (h5 : rows[i]? = some row := by rfl) (h6 : XVai.part ti.agg ti.size row of' = some v := by rfl) (hz : frzR S0.length v S1 = some (w, S2)) (hi : idR S0.length w = true := by rfl)
    (hl : S0.length ≤ S2.length) (ho : ∀ j, j < S0.length → S2[j]? = S0[j]?) : RT Y f fn S0 w S0 .ret T' S1 := by
  have hr : resVs Y T' S1 fn.results.toList = some [v] := by
    rw [hres]
    simp only [resVs, resV, cload, h1, getRow, h2, h3, h4, if_true, h5, Option.map_some, h6]
  exact rG hkp hr hz hi hl ho
/-- A value out of a cell of one's own, and a truth. -/
theorem rRun {f : Nat} {fn : Func} {T' : Tm} {S0 S1 S2 : St} {v w : HV} {b : Bool} (hkp : Y.keep f = false := by rfl) {a bt : Tmp} {t : TypeId} (hres : fn.results.toList = [.cell a t, .tmp bt] := by rfl) {ti : TI} (h1 : Y.tab t = some ti := by rfl) {q n i of' : Nat} {fr : Bool} {rows : List (List HV)} {row : List HV}
    (h2 : T' a = .ptr q n i of' := by rfl) (h3 : S1[q]? = some (.cells fr rows)) (h4 : rows.length = n := by rfl) (h5 : rows[i]? = some row := by rfl) (h6 : XVai.part ti.agg ti.size row of' = some v := by rfl) (hb : T' bt = .bool b := by rfl) (hz : frzV S0.length v S1 = some (w, S2)) (hi : idR S0.length (.tup [w, .bool b]) = true := by rfl)
    (hl : S0.length ≤ S2.length) (ho : ∀ j, j < S0.length → S2[j]? = S0[j]?) : RT Y f fn S0 (.tup [w, .bool b]) S0 .ret T' S1 := by
  have hr : resVs Y T' S1 fn.results.toList = some [v, .bool b] := by
    rw [hres]
    simp only [resVs, resV, cload, h1, getRow, h2, h3, h4, if_true, h5, Option.map_some, h6, hb]
  have hz' : frzR S0.length (resTup [v, .bool b]) S1 = some (.tup [w, .bool b], S2) := by
    simp only [resTup, frzR, mapMS, hz]
    rfl
  have hold : oldOk S0.length S0 S2 := ⟨hl, fun k hk => .inl (ho k hk)⟩
  have ht : S2.take S0.length = S0 := by
    refine List.ext_getElem? fun j => ?_
    by_cases hj : j < S0.length
    · rw [List.getElem?_take_of_lt hj, ho j hj]
    · rw [List.getElem?_eq_none (by simp; omega), List.getElem?_eq_none (by omega)]
  refine ⟨?_⟩
  simp only [cret, hr, hkp, hz']
  simp [hi, hold, ht]
/-- A row of one's own, or nil, becomes immutable. -/
theorem Col.frz {fr : Bool} {S : St} {c : HV} {rows : List (List HV)} {n0 : Nat} (h : Col fr S c rows) (hp : rows.all (fun r => r.all pureC) = true) (hn : ∀ k n, c = .sl k n → n0 ≤ k) :
    ∃ S', frzC n0 6 c S = some (.lst rows, S') ∧ S'.length = S.length ∧ (∀ j, (∀ n, c ≠ .sl j n) → S'[j]? = S[j]?) := by
  rcases h with ⟨rfl, rfl⟩ | ⟨q, rfl, h⟩
  · exact ⟨S, rfl, rfl, fun _ _ => rfl⟩
  · cases fr with
    | true => exact ⟨S, fz_sl rfl (hn _ _ rfl) h rfl hp, rfl, fun _ _ => rfl⟩
    | false => exact ⟨_, fz_slF rfl (hn _ _ rfl) h rfl hp, by simp, fun j hj => by rw [List.getElem?_set_ne]; rintro rfl; exact hj _ rfl⟩
/-- A run's rows become immutable. -/
theorem Run3.frz {S : St} {r : Rn} {c1 c2 c3 : HV} {n0 : Nat} (h : Run3 S r c1 c2 c3) (h1 : ∀ k n, c1 = .sl k n → n0 ≤ k) (h2 : ∀ k n, c2 = .sl k n → n0 ≤ k) (h3 : ∀ k n, c3 = .sl k n → n0 ≤ k) :
    ∃ S', frzV n0 (.agg [c1, c2, c3]) S = some (RN r.nums r.ws r.ss, S') ∧ S'.length = S.length ∧ ∀ j, (∀ n, c1 ≠ .sl j n) → (∀ n, c2 ≠ .sl j n) → (∀ n, c3 ≠ .sl j n) → S'[j]? = S[j]? := by
  obtain ⟨S1, a1, l1, f1⟩ := h.a.frz (irow_pure _) h1
  have b1 := h.b.keep (S' := S1) fun k n hc => f1 k fun m hm => h.ab _ _ _ _ hm hc rfl
  have e1 := h.c.keep (S' := S1) fun k n hc => f1 k fun m hm => h.ac _ _ _ _ hm hc rfl
  obtain ⟨S2, a2, l2, f2⟩ := b1.frz (wrow_pure _) h2
  have e2 := e1.keep (S' := S2) fun k n hc => f2 k fun m hm => h.bc _ _ _ _ hm hc rfl
  obtain ⟨S3, a3, l3, f3⟩ := e2.frz (wrow_pure _) h3
  refine ⟨S3, ?_, by omega, fun j j1 j2 j3 => by rw [f3 j j3, f2 j j2, f1 j j1]⟩
  simp only [frzV]
  rw [fmS a1 (fmS a2 (fmS a3 fm0))]
theorem numsOk_in {ls : List Lab} {ss : Stps} {nums : List Int} (h : numsOk ls ss nums = true) : progOk ls ss = true ∧ nums.length = ls.length ∧ small nums := by
  simp only [numsOk, Bool.and_eq_true, beq_iff_eq, List.all_eq_true] at h
  refine ⟨h.1.1, h.1.2, fun n hn => ?_⟩
  have := h.2 n hn
  simpa [inB] using this
abbrev RUNR (ls : List Lab) (ss : Stps) (nums : List Int) : HV := .tup [RN (runOf ls ss nums).nums (runOf ls ss nums).ws (runOf ls ss nums).ss, .bool (numsOk ls ss nums)]
theorem k_spec_RunOf (ls : List Lab) (ss : Stps) (nums : List Int) (S : St) (hs : ss.sz ≤ 1048576) (hl : ls.length ≤ 1048576) (hn : nums.length ≤ 1048576) : Ev Y spec_RunOf [PR ls ss, L nums] S (RUNR ls ss nums) S := by
  cases hok : numsOk ls ss nums with
  | false =>
    have hno : (!numsOk ls ss nums) = true := by rw [hok]; rfl
    rw [RUNR, hok, show runOf ls ss nums = ⟨[], [], []⟩ by simp [runOf, hok]]
    refine E_start (h := ?_)
    repeat' (first | refine c0 ?_ | refine c1 ?_ | refine c7 ?_ | refine d2 ?_ | refine c9 ?_ | refine d4 ?_ | refine k0 (he := (by first | exact k_spec_NumsOk _ _ _ _ hs hl hn)) (hk := ?_) | refine b0 (hk := ?_) | refine b1 (hk := ?_) | refine a5 (hk := ?_) | refine b5 (hk := ?_) | refine b7 (hk := ?_) | refine u5 (hk := ?_))
    exact rRun (h3 := get_own rfl) (hz := rfl) (hl := by simp) (ho := fun j hj => by rw [List.getElem?_append_left hj])
  | true =>
    have hno : (!numsOk ls ss nums) = false := by rw [hok]; rfl
    obtain ⟨h1, h2, h3⟩ := numsOk_in hok
    obtain ⟨p1, p2, p3, p4⟩ := progOk_in h1
    rw [RUNR, hok, show runOf ls ss nums = run ss ⟨nums, [], []⟩ by simp [runOf, hok]]
    rw [← h2] at p1 p3
    have hri := runs_in ss 3 ⟨nums, [], []⟩ p3 h3
    cases nums with
    | nil =>
      refine E_start (h := ?_)
      repeat' (first | refine c0 ?_ | refine c7 ?_ | refine d2 ?_ | refine d0 ?_ | refine d4 ?_ | refine d3' (h := ?_) | refine k0 (he := (by first | exact k_spec_NumsOk _ _ _ _ hs hl hn)) (hk := ?_) | refine b0 (hk := ?_) | refine b1 (hk := ?_) | refine a5 (hk := ?_) | refine b5 (hk := ?_) | refine b4' (hk := ?_) | refine e5' (hk := ?_) | refine f5' (hk := ?_) | refine u6 (hk := ?_))
      refine pN' (hk := ?_)
      repeat' (first | refine b7b (hk := ?_))
      refine kT' (he := k_spec_l3Do _ ss 3 ⟨[], [], []⟩ .nils .nils .nils _ (Nat.le_refl _) (by omega) p3 h3 (by simp) (by simp; omega) (by simp; omega) ⟨.inl ⟨rfl, rfl⟩, .inl ⟨rfl, rfl⟩, .inl ⟨rfl, rfl⟩, apa0, apa0, apa0⟩) (hk := ?_)
      rintro v S2 ⟨c2, c3, rfl, h3', n2, n3, hle, hF⟩
      have fB : S2[S.length + 1]? = some (.cells false [[.nils, .nils, .nils]]) := by
        rw [hF _ (by simp) (by simp) (by simp) (by simp)]
        exact get_own rfl
      have i2 := h3'.b.cell
      have i3 := h3'.c.cell
      rw [← List.append_nil S2]
      refine b7' (h3 := get_old fB) (h9 := by show [HV.nils, c2, c3].all isCell = true; simp only [List.all_cons, i2, i3]; rfl) (h10 := set_old fB) (hk := ?_)
      repeat' (first | refine c0 ?_ | refine c9 ?_ | refine d4' ?_ | refine e5' (hk := ?_))
      have q2 : ∀ k n, c2 = .sl k n → S.length + 2 ≤ k := fun k n hc => by
        rcases n2 k n hc with ⟨m, hm⟩ | hm
        · cases hm
        · simp at hm; omega
      have q3 : ∀ k n, c3 = .sl k n → S.length + 2 ≤ k := fun k n hc => by
        rcases n3 k n hc with ⟨m, hm⟩ | hm
        · cases hm
        · simp at hm; omega
      have h3s : Run3 (S2.set (S.length + 1) (.cells false [[.nils, c2, c3]]) ++ []) (run ss ⟨[], [], []⟩) .nils c2 c3 := ⟨(h3'.a.set (by simp)).app, (h3'.b.set fun k n hc => by have := q2 k n hc; omega).app, (h3'.c.set fun k n hc => by have := q3 k n hc; omega).app, h3'.ab, h3'.ac, h3'.bc⟩
      obtain ⟨S3, z1, z2, z3⟩ := h3s.frz (n0 := S.length) (by simp) (fun k n hc => by have := q2 k n hc; omega) (fun k n hc => by have := q3 k n hc; omega)
      refine rRun (h3 := get_old (setE fB)) (hz := z1) (hl := by simp at hle z2; omega) (ho := fun j hj => ?_)
      rw [z3 j (by simp) (fun n hc => by have := q2 j n hc; omega) (fun n hc => by have := q3 j n hc; omega), List.append_nil, List.getElem?_set_ne (by omega), hF j (by simp; omega) (by simp) (by simp) (by simp), List.getElem?_append_left hj]
    | cons x xs =>
      have hz2 : ((x :: xs).map irow).all (fun r => r.length == 1 && r.all isCell) = true := by simp [isCell]
      have hn' : xs.length + 1 ≤ 1048576 := by simpa using hn
      refine E_start (h := ?_)
      repeat' (first | refine c0 ?_ | refine c7 ?_ | refine d2 ?_ | refine d0 ?_ | refine d4 ?_ | refine d3' (h := ?_) | refine k0 (he := (by first | exact k_spec_NumsOk _ _ _ _ hs hl hn)) (hk := ?_) | refine b0 (hk := ?_) | refine b1 (hk := ?_) | refine a5 (hk := ?_) | refine b5 (hk := ?_) | refine p1' (hk := ?_) | refine b4' (hk := ?_) | refine b7b (hk := ?_) | refine e5' (hk := ?_) | refine f5' (hk := ?_) | refine u6 (hk := ?_))
      refine kT' (he := k_spec_l3Do _ ss 3 ⟨x :: xs, [], []⟩ (.sl (S.length + 6) ((x :: xs).map irow).length) .nils .nils _ (Nat.le_refl _) (by omega) p3 h3 (show (x :: xs).length ≤ 1000 by omega) (by simp; omega) (by simp; omega) ⟨.inr ⟨S.length + 6, rfl, get_own rfl⟩, .inl ⟨rfl, rfl⟩, .inl ⟨rfl, rfl⟩, apa0.symm, apa0.symm, apa0⟩) (hk := ?_)
      rintro v S2 ⟨c2, c3, rfl, h3', n2, n3, hle, hF⟩
      have fB : S2[S.length + 1]? = some (.cells false [[.nils, .nils, .nils]]) := by
        rw [hF _ (by simp) (by simp) (by simp) (by simp)]
        exact get_own rfl
      have i2 := h3'.b.cell
      have i3 := h3'.c.cell
      rw [← List.append_nil S2]
      refine b7' (h3 := get_old fB) (h9 := by show [HV.sl _ _, c2, c3].all isCell = true; simp only [List.all_cons, i2, i3]; rfl) (h10 := set_old fB) (hk := ?_)
      repeat' (first | refine c0 ?_ | refine c9 ?_ | refine d4' ?_ | refine e5' (hk := ?_))
      have q2 : ∀ k n, c2 = .sl k n → S.length + 2 ≤ k := fun k n hc => by
        rcases n2 k n hc with ⟨m, hm⟩ | hm
        · cases hm
        · simp at hm; omega
      have q3 : ∀ k n, c3 = .sl k n → S.length + 2 ≤ k := fun k n hc => by
        rcases n3 k n hc with ⟨m, hm⟩ | hm
        · cases hm
        · simp at hm; omega
      have h3s : Run3 (S2.set (S.length + 1) (.cells false [[.sl (S.length + 6) ((x :: xs).map irow).length, c2, c3]]) ++ []) (run ss ⟨x :: xs, [], []⟩) (.sl (S.length + 6) ((x :: xs).map irow).length) c2 c3 := ⟨(h3'.a.set fun k n hc => by cases hc; omega).app, (h3'.b.set fun k n hc => by have := q2 k n hc; omega).app, (h3'.c.set fun k n hc => by have := q3 k n hc; omega).app, h3'.ab, h3'.ac, h3'.bc⟩
      obtain ⟨S3, z1, z2, z3⟩ := h3s.frz (n0 := S.length) (fun k n hc => by cases hc; omega) (fun k n hc => by have := q2 k n hc; omega) (fun k n hc => by have := q3 k n hc; omega)
      refine rRun (h3 := get_old (setE fB)) (hz := z1) (hl := by simp at hle z2; omega) (ho := fun j hj => ?_)
      rw [z3 j (fun n hc => by cases hc; omega) (fun n hc => by have := q2 j n hc; omega) (fun n hc => by have := q3 j n hc; omega), List.append_nil, List.getElem?_set_ne (by omega), hF j (by simp; omega) (fun n hc => by cases hc; omega) (by simp) (by simp), List.getElem?_append_left hj]
end Go.Proofs.X
end
section
namespace Go.Proofs.X
open Go Go.Proofs.XVai Go.Proofs Go.Proofs.XN
set_option linter.unusedVariables false
set_option linter.unusedSimpArgs false
set_option maxHeartbeats 4000000
set_option maxRecDepth 100000

theorem rKeepN {Y : XVai.Sys} {f : Nat} {fn : Func} {T' : Tm} {S S1 : St} {vs : List HV} {v : HV} (hkp : Y.keep f = true := by rfl) (hr : resVs Y T' S1 fn.results.toList = some vs := by rfl) (hv : resTup vs = v := by rfl) : RT Y f fn S v S1 .norm T' S1 :=
  ⟨by simp only [cret, hr, hkp, if_true, hv]⟩
theorem k_impl_cloneInts (xs : List Int) (S : St) (hx : xs.length ≤ 1048576) : EvR Y impl_cloneInts [L xs] S (fun v S' => ∃ J, S' = S ++ J ∧ Col false S' v (xs.map irow) ∧ ∀ k n, v = .sl k n → S.length ≤ k) := by
  cases xs with
  | nil =>
    refine E_startR (h := ?_)
    repeat' (first | refine c0 ?_ | refine c7 ?_ | refine d2 ?_ | refine c9 ?_ | refine d4 ?_ | refine b3 (hk := ?_) | refine a5 (hk := ?_))
    exact ⟨_, _, rKeep, _, rfl, .inl ⟨rfl, rfl⟩, fun k n hc => by cases hc⟩
  | cons x xs =>
    have hz2 : ((x :: xs).map irow).all (fun r => r.length == 1 && r.all isCell) = true := by simp [isCell]
    have hn' : xs.length + 1 ≤ 1048576 := by simpa using hx
    refine E_startR (h := ?_)
    repeat' (first | refine c0 ?_ | refine c7 ?_ | refine d2 ?_ | refine c9 ?_ | refine d4 ?_ | refine b3 (hk := ?_) | refine p1 (hk := ?_) | refine a5 (hk := ?_))
    exact ⟨_, _, rKeep, _, rfl, .inr ⟨S.length + 1, rfl, get_own rfl⟩, fun k n hc => by cases hc; omega⟩
/-- All else but an object is as it was. -/
def FrmK (S S' : St) (k : Nat) (c1 c2 c3 : HV) : Prop := ∀ j, j < S.length → j ≠ k → (∀ n, c1 ≠ .sl j n) → (∀ n, c2 ≠ .sl j n) → (∀ n, c3 ≠ .sl j n) → S'[j]? = S[j]?
theorem FrmK.refl {S : St} {k : Nat} {c1 c2 c3 : HV} : FrmK S S k c1 c2 c3 := fun _ _ _ _ _ _ => rfl
theorem FrmK.set {S S1 : St} {c1 c2 c3 : HV} {k k' : Nat} {o : Ob} (h : FrmK S S1 k c1 c2 c3) (hk : S.length ≤ k' ∨ k' = k ∨ (∃ n, c1 = .sl k' n) ∨ (∃ n, c2 = .sl k' n) ∨ ∃ n, c3 = .sl k' n) : FrmK S (S1.set k' o) k c1 c2 c3 := by
  intro j hj h0 h1 h2 h3
  rw [List.getElem?_set_ne, h j hj h0 h1 h2 h3]
  rintro rfl
  rcases hk with hk | hk | ⟨n, hk⟩ | ⟨n, hk⟩ | ⟨n, hk⟩
  · omega
  · exact h0 hk
  · exact h1 n hk
  · exact h2 n hk
  · exact h3 n hk
theorem FrmK.app {S S1 L : St} {c1 c2 c3 : HV} {k : Nat} (h : FrmK S S1 k c1 c2 c3) (hl : S.length ≤ S1.length) : FrmK S (S1 ++ L) k c1 c2 c3 := by
  intro j hj h0 h1 h2 h3
  rw [List.getElem?_append_left (by omega), h j hj h0 h1 h2 h3]
theorem FrmK.trans {S S1 S2 : St} {c1 c2 c3 e2 e3 : HV} {b k : Nat} (h : FrmK S S1 k c1 c2 c3) (h' : FrmK S1 S2 k c1 e2 e3) (n2 : New b c2 e2) (n3 : New b c3 e3) (hb : S.length ≤ b) (hl : S.length ≤ S1.length) : FrmK S S2 k c1 c2 c3 := by
  intro j hj h0 h1 h2 h3
  rw [h' j (by omega) h0 h1 (fun n hc => ?_) (fun n hc => ?_), h j hj h0 h1 h2 h3]
  · rcases n2 j n hc with ⟨m, hm⟩ | hm
    · exact h2 m hm
    · omega
  · rcases n3 j n hc with ⟨m, hm⟩ | hm
    · exact h3 m hm
    · omega
/-- A run in a cell. -/
structure RunK (S : St) (k : Nat) (r : Rn) (c1 c2 c3 : HV) : Prop where
  box : S[k]? = some (.cells false [[c1, c2, c3]])
  run : Run3 S r c1 c2 c3
  a : ∀ q n, c1 = .sl q n → q ≠ k
  b : ∀ q n, c2 = .sl q n → q ≠ k
  c : ∀ q n, c3 = .sl q n → q ≠ k
def RanK (S : St) (k : Nat) (r' : Rn) (c1 c2 c3 v : HV) (S' : St) : Prop := v = .tup [] ∧ ∃ c2' c3', RunK S' k r' c1 c2' c3' ∧ New S.length c2 c2' ∧ New S.length c3 c3' ∧ S.length ≤ S'.length ∧ FrmK S S' k c1 c2 c3
theorem k_impl_Run_set (k j : Nat) (y : Int) (r : Rn) (m1 m2 m3 : HV) (S : St) (hj : j < r.nums.length) (hw : r.ws.length ≤ 1048576) (h : RunK S k r m1 m2 m3) :
    EvR Y impl_Run_set [.ptr k 1 0 0, I j, I y] S (RanK S k ⟨r.nums.set j y, r.ws ++ [((j : Int), y)], r.ss⟩ m1 m2 m3) := by
  obtain ⟨fB, h3, ha, hb, hc⟩ := h
  have i1 := h3.a.cell
  have i2 := h3.b.cell
  have i3 := h3.c.cell
  obtain ⟨q1, rfl, fN⟩ : ∃ q1, m1 = .sl q1 r.nums.length ∧ S[q1]? = some (.cells false (r.nums.map irow)) := by
    rcases h3.a with ⟨_, h0⟩ | ⟨q, h0, h1⟩
    · simp at h0; simp [h0] at hj
    · exact ⟨q, by simpa using h0, h1⟩
  have hlN : (r.nums.map irow).length = r.nums.length := by simp
  have hgj := map_get (f := irow) (nget_at hj)
  have hk1 := ha _ _ rfl
  have hk1' := Ne.symm hk1
  have lw : (r.ws.map wrow).length = r.ws.length := by simp
  have w2 := wrow2 r.ws
  have hnm : (r.nums.map irow).set j (irow y) = (r.nums.set j y).map irow := by rw [List.map_set]
  have hkl : k < S.length := (List.getElem?_eq_some_iff.1 fB).1
  have hql : q1 < S.length := (List.getElem?_eq_some_iff.1 fN).1
  have x2 : ∀ k n, m2 = .sl k n → k ≠ q1 := fun k n hc e => h3.ab _ _ _ _ rfl hc e.symm
  have x3 : ∀ k n, m3 = .sl k n → k ≠ q1 := fun k n hc e => h3.ac _ _ _ _ rfl hc e.symm
  rcases h3.b with ⟨rfl, hw0⟩ | ⟨q2, rfl, fW⟩
  · refine E_startR (h := ?_)
    repeat' (first | refine c0 ?_ | refine c7 ?_ | refine d2 ?_ | refine d4 ?_ | refine p1 (hk := ?_) | refine a5 (hk := ?_) | refine b5 (hk := ?_) | refine b9 (hk := ?_) | refine b7 (hk := ?_))
    refine ⟨_, _, rKeepN, rfl, .sl (S.length + 0) 1, m3, ⟨by rw [get_old (setE (setN hk1' fB))]; show some (Ob.cells false [[_, .sl ((List.set S q1 _).length + 0) 1, m3]]) = _; rw [List.length_set], ⟨Col.of' (get_old (setN hk1 (setE fN))) hnm (by simp), Col.of' (get_ownL (by simp) rfl) (by simp at hw0; rw [hw0]; rfl) (by simp at hw0; simp [hw0]), ((h3.c.set x3).set hc).app, apaS fun k n hc => by cases hc; omega, h3.ac, apaS fun k n hc => by have := h3.c.lt hc; omega⟩, ha, fun q n hc => by cases hc; omega, hc⟩, New.nw (by omega), new0, by simp, (((FrmK.refl).set (.inr (.inr (.inl ⟨_, rfl⟩)))).set (.inr (.inl rfl))).app (by simp)⟩
  · have h12 : q2 ≠ q1 := x2 _ _ rfl
    have hk2 := hb _ _ rfl
    refine E_startR (h := ?_)
    repeat' (first | refine c0 ?_ | refine c7 ?_ | refine d2 ?_ | refine d4 ?_ | refine a5 (hk := ?_) | refine b5 (hk := ?_) | refine b9 (hk := ?_) | refine b7 (hk := ?_) | refine p0 (hk := ?_))
    refine b7 (h3 := get_old (setN (Ne.symm hk2) (setN hk1' fB))) (h10 := set_old (setN (Ne.symm hk2) (setN hk1' fB))) (hk := ?_)
    repeat' (first | refine d4 ?_)
    refine ⟨_, _, rKeepN, rfl, .sl q2 ((r.ws.map wrow).length + 1), m3, ⟨get_old (setE (setN (Ne.symm hk2) (setN hk1' fB))), ⟨Col.of' (get_old (setN hk1 (setN (Ne.symm h12) (setE fN)))) hnm (by simp), Col.of' (get_old (setN hk2 (setE (setN h12 fW)))) (by rw [List.map_append]; rfl) (by simp), (((h3.c.set x3).set fun k n hc => (fun e => h3.bc _ _ _ _ rfl hc e.symm)).set hc).app, apaS fun k n hc => by cases hc; exact h12, h3.ac, apaS fun k n hc => (fun e => h3.bc _ _ _ _ rfl hc e.symm)⟩, ha, fun q n hc => by cases hc; exact hk2, hc⟩, new0.to, new0, by simp, ((((FrmK.refl).set (.inr (.inr (.inl ⟨_, rfl⟩)))).set (.inr (.inr (.inr (.inl ⟨_, rfl⟩))))).set (.inr (.inl rfl))).app (by simp)⟩
theorem RunK.app {S L : St} {k : Nat} {r : Rn} {c1 c2 c3 : HV} (h : RunK S k r c1 c2 c3) : RunK (S ++ L) k r c1 c2 c3 := ⟨get_old h.box, ⟨h.run.a.app, h.run.b.app, h.run.c.app, h.run.ab, h.run.ac, h.run.bc⟩, h.a, h.b, h.c⟩
theorem nat_nonneg {j : Nat} : (0 : Int) ≤ (j : Int) := by omega
theorem k_impl_Run_do (n : Nat) : ∀ (l : Stps) (d : Int) (r : Rn) (m1 m2 m3 : HV) (k : Nat) (S : St), l.sz ≤ n → l.sz ≤ 1000 → stepsOk r.nums.length l d = true → small r.nums → r.nums.length ≤ 1000 → r.ws.length + l.sz ≤ 100000 → r.ss.length + l.sz ≤ 100000 → RunK S k r m1 m2 m3 →
    EvR Y impl_Run_do [.ptr k 1 0 0, .lst l.rows] S (RanK S k (run l r) m1 m2 m3) := by
  induction n using Nat.strongRecOn with
  | _ n ih =>
    intro l d r m1 m2 m3 k S h hb ho hs hn hw hv h3
    have hkl : k < S.length := (List.getElem?_eq_some_iff.1 h3.box).1
    have hm2 := h3.b
    have hm3 := h3.c
    refine E_startR (h := ?_)
    repeat' (first | refine c0 ?_ | refine c7 ?_ | refine d2 ?_ | refine c8 ?_ | refine d4 ?_ | refine a5 (hk := ?_))
    refine C_stps l (fun pre rest T' S' => ∃ (T0 : Tm) (S1 : St) (r1 : Rn) (y2 y3 : HV), run l r = run rest r1 ∧ stepsOk r1.nums.length rest d = true ∧ small r1.nums ∧ r1.nums.length ≤ 1000 ∧ r1.ws.length + rest.sz ≤ 100000 ∧ r1.ss.length + rest.sz ≤ 100000 ∧
        RunK S1 k r1 m1 y2 y3 ∧ New S.length m2 y2 ∧ New S.length m3 y3 ∧ S.length ≤ S1.length ∧ FrmK S S1 k m1 m2 m3 ∧
        T' = putL T0 [(0, .ptr k 1 0 0), (9, .lst l.rows), (10, I l.rows.length), (11, I pre.length)] ∧ S' = S1 ++ [])
      ⟨_, _, r, m2, m3, rfl, ho, hs, hn, hw, hv, h3, new0, new0, Nat.le_refl _, FrmK.refl, at_mk ⟨rfl, rfl, rfl, rfl, trivial⟩, rfl⟩ ?_ ?_
    · rintro pre kk v x hh t e rest T' S' hl hz ⟨T0, S1, r1, y2, y3, hq, ho, hs, hn, hw, hv, hR, n2, n3, hle, hF, rfl, rfl⟩
      have hg := mid hl
      have hp := mid_lt hl
      have := l.rows_len
      have := l.len_sz
      have hlt' : (pre.length : Int) < (l.rows.length : Int) := by omega
      have fB := hR.box
      have h3 := hR.run
      have i1 := h3.a.cell
      have i2 := h3.b.cell
      have i3 := h3.c.cell
      rw [stepsOk_cons, Bool.and_eq_true] at ho
      obtain ⟨hv1, hv2, _, ⟨ht, he⟩, _⟩ := stepOk_in ho.1
      obtain ⟨j, rfl, hj⟩ := vOk_nat hv1
      obtain ⟨q1, rfl, fN⟩ : ∃ q1, m1 = .sl q1 r1.nums.length ∧ S1[q1]? = some (.cells false (r1.nums.map irow)) := by
        rcases h3.a with ⟨_, h0⟩ | ⟨q, h0, h1⟩
        · simp at h0; simp [h0] at hj
        · exact ⟨q, by simpa using h0, h1⟩
      have hlN : (r1.nums.map irow).length = r1.nums.length := by simp
      have hgj := map_get (f := irow) (nget_at hj)
      have hB1 : k ≠ q1 := Ne.symm (hR.a _ _ rfl)
      have lw : (r1.ws.map wrow).length = r1.ws.length := by simp
      have lv : (r1.ss.map wrow).length = r1.ss.length := by simp
      have w3 := wrow2 r1.ss
      simp only [Stps.sz] at hw hv
      have g3 := hR.c
      have x3 : ∀ k n, y3 = .sl k n → k ≠ q1 := fun k n hc e => h3.ac _ _ _ _ rfl hc e.symm
      have u2 : ∀ k n, y2 = .sl k n → k < S1.length := fun k n hc => h3.b.lt hc
      by_cases k1 : kk = 1
      · subst k1
        have hx := hv2 rfl
        have hq' : run l r = run rest ⟨r1.nums.set j (valNum x r1.nums), r1.ws ++ [((j : Int), valNum x r1.nums)], r1.ss⟩ := by rw [hq, run_cons, if_pos rfl, Int.toNat_natCast]
        have ho' : stepsOk (r1.nums.set j (valNum x r1.nums)).length rest d = true := by rw [List.length_set]; exact ho.2
        have hs' := small_set (j := j) hs (valNum_small hx hs)
        have hn' : (r1.nums.set j (valNum x r1.nums)).length ≤ 1000 := by rw [List.length_set]; exact hn
        have hw' : (r1.ws ++ [((j : Int), valNum x r1.nums)]).length + rest.sz ≤ 100000 := by rw [List.length_append]; simp; omega
        have fin : ∀ (L' : St) (v : HV) (S2 : St), RanK (S1 ++ L') k ⟨r1.nums.set j (valNum x r1.nums), r1.ws ++ [((j : Int), valNum x r1.nums)], r1.ss⟩ (.sl q1 r1.nums.length) y2 y3 v S2 →
            ∃ y2' y3', RunK S2 k ⟨r1.nums.set j (valNum x r1.nums), r1.ws ++ [((j : Int), valNum x r1.nums)], r1.ss⟩ (.sl q1 r1.nums.length) y2' y3' ∧ New S.length m2 y2' ∧ New S.length m3 y3' ∧ S.length ≤ S2.length ∧ FrmK S S2 k (.sl q1 r1.nums.length) m2 m3 := by
          rintro L' v S2 ⟨_, y2', y3', hR', n2', n3', hle', hF'⟩
          simp at hle'
          exact ⟨y2', y3', hR', n2.trans n2' (by simp; omega), n3.trans n3' (by simp; omega), by omega, (hF.app (L := L') hle).trans hF' n2 n3 (Nat.le_refl _) (by simp; omega)⟩
        have hst := fun L' => k_impl_Run_set k j (valNum x r1.nums) r1 _ y2 y3 (S1 ++ L') hj (by omega) hR.app
        obtain ⟨xk, xa, xb⟩ := x
        by_cases w1 : xk = 1
        · subst w1
          have hvars : ∀ S, Ev Y impl_Val_vars [.agg (vrow ⟨1, xa, xb⟩)] S (L []) S := fun S => k_impl_Val_vars ⟨1, xa, xb⟩ S
          have hof : ∀ S, Ev Y impl_Val_of [.agg (vrow ⟨1, xa, xb⟩), L []] S (I (valNum ⟨1, xa, xb⟩ r1.nums)) S := fun S => k_impl_Val_of ⟨1, xa, xb⟩ r1.nums S hx hs
          repeat' (first | refine c0 ?_ | refine c2 ?_ | refine c5 ?_ | refine c7 ?_ | refine d2 ?_ | refine c8 ?_ | refine d0 ?_ | refine d1 ?_ | refine d4 ?_ | refine d3' (h := ?_) | refine d5 ?_ | refine k0 (he := (by first | exact hvars _ | exact hof _)) (hk := ?_) | refine b0 (hk := ?_) | refine b3 (hk := ?_) | refine a5 (hk := ?_) | refine b5 (hk := ?_) | refine b6 (hk := ?_) | refine b8 (hk := ?_) | refine b7 (hk := ?_) | refine e5' (hk := ?_) | refine f5' (hk := ?_) | refine d6 (ht := ?_) | refine d7 (hf := ?_) | refine u7 (hk := ?_))
          refine k0' (ha' := fm1 rfl (fm1 (fzV_sl rfl (Nat.zero_le _) (get_own rfl) rfl rfl) fm0)) (he := hof _) (hk := ?_)
          skip
          refine kU' (ha := rfl) (he := hst _) (hk := ?_)
          intro v' S2 hRk
          obtain ⟨y2', y3', hR', n2', n3', hle', hF'⟩ := fin _ _ _ hRk
          rw [← List.append_nil S2]
          repeat' (first | refine c0 ?_ | refine c3 ?_ | refine d2 ?_ | refine d4 ?_ | refine d4' ?_ | refine a5 (hk := ?_))
          exact ⟨_, _, _, y2', y3', hq', ho', hs', hn', hw', by simp only; omega, hR', n2', n3', hle', hF', at_mk ⟨rfl, rfl, rfl, inc (by omega), trivial⟩, rfl⟩
        by_cases w2 : xk = 2
        · subst w2
          have hx1 := hx
          simp [valOk] at hx1
          obtain ⟨j1, rfl, hj1⟩ := vOk_nat hx1.1
          have hgj1 := map_get (f := irow) (nget_at hj1)
          have hvars : ∀ S, Ev Y impl_Val_vars [.agg (vrow ⟨2, j1, xb⟩)] S (L [(j1 : Int)]) S := fun S => k_impl_Val_vars ⟨2, j1, xb⟩ S
          have hof : ∀ S, Ev Y impl_Val_of [.agg (vrow ⟨2, j1, xb⟩), L [nget r1.nums j1]] S (I (valNum ⟨2, j1, xb⟩ r1.nums)) S := fun S => k_impl_Val_of ⟨2, j1, xb⟩ r1.nums S hx hs
          repeat' (first | refine c0 ?_ | refine c2 ?_ | refine c3 ?_ | refine c5 ?_ | refine c7 ?_ | refine d2 ?_ | refine c8 ?_ | refine d0 ?_ | refine d1 ?_ | refine d4 ?_ | refine d3' (h := ?_) | refine d5 ?_ | refine k0 (he := (by first | exact hvars _ | exact hof _)) (hk := ?_) | refine b0 (hk := ?_) | refine b3 (hk := ?_) | refine a5 (hk := ?_) | refine b5 (hk := ?_) | refine b6 (hk := ?_) | refine b8 (hk := ?_) | refine b9 (hk := ?_) | refine b7 (hk := ?_) | refine p0 (hk := ?_) | refine e5' (hk := ?_) | refine f5' (hk := ?_) | refine d6 (ht := ?_) | refine d7 (hf := ?_) | refine u7 (hk := ?_))
          refine k0' (ha' := fm1 rfl (fm1 (fzV_sl rfl (Nat.zero_le _) (get_own rfl) rfl rfl) fm0)) (he := hof _) (hk := ?_)
          skip
          refine kU' (ha := rfl) (he := hst _) (hk := ?_)
          intro v' S2 hRk
          obtain ⟨y2', y3', hR', n2', n3', hle', hF'⟩ := fin _ _ _ hRk
          rw [← List.append_nil S2]
          repeat' (first | refine c0 ?_ | refine c3 ?_ | refine d2 ?_ | refine d4 ?_ | refine d4' ?_ | refine a5 (hk := ?_))
          exact ⟨_, _, _, y2', y3', hq', ho', hs', hn', hw', by simp only; omega, hR', n2', n3', hle', hF', at_mk ⟨rfl, rfl, rfl, inc (by omega), trivial⟩, rfl⟩
        have h34 : xk = 3 ∨ xk = 4 := by
          by_cases h : xk = 3 ∨ xk = 4
          · exact h
          · simp [valOk, w1, w2, h] at hx
        have hx2 : vOk r1.nums.length xa = true ∧ vOk r1.nums.length xb = true := by
          rcases h34 with rfl | rfl <;> simpa [valOk] using hx
        obtain ⟨j1, rfl, hj1⟩ := vOk_nat hx2.1
        obtain ⟨j2, rfl, hj2⟩ := vOk_nat hx2.2
        have hgj1 := map_get (f := irow) (nget_at hj1)
        have hgj2 := map_get (f := irow) (nget_at hj2)
        have hvars : ∀ S, Ev Y impl_Val_vars [.agg (vrow ⟨xk, j1, j2⟩)] S (L [(j1 : Int), (j2 : Int)]) S := fun S => by
          have := k_impl_Val_vars ⟨xk, j1, j2⟩ S
          rwa [show varsV ⟨xk, j1, j2⟩ = [(j1 : Int), (j2 : Int)] by simp [varsV, w2, h34]] at this
        have hof : ∀ S, Ev Y impl_Val_of [.agg (vrow ⟨xk, j1, j2⟩), L [nget r1.nums j1, nget r1.nums j2]] S (I (valNum ⟨xk, j1, j2⟩ r1.nums)) S := fun S => by
          have := k_impl_Val_of ⟨xk, j1, j2⟩ r1.nums S hx hs
          rwa [show varsV ⟨xk, j1, j2⟩ = [(j1 : Int), (j2 : Int)] by simp [varsV, w2, h34]] at this
        repeat' (first | refine c0 ?_ | refine c2 ?_ | refine c3 ?_ | refine c5 ?_ | refine c7 ?_ | refine d2 ?_ | refine c8 ?_ | refine d0 ?_ | refine d1 ?_ | refine d4 ?_ | refine d3' (h := ?_) | refine d5 ?_ | refine k0 (he := (by first | exact hvars _ | exact hof _)) (hk := ?_) | refine b0 (hk := ?_) | refine b3 (hk := ?_) | refine a5 (hk := ?_) | refine b5 (hk := ?_) | refine b6 (hk := ?_) | refine b8 (hk := ?_) | refine b9 (hk := ?_) | refine b7 (hk := ?_) | refine p0 (hk := ?_) | refine e5' (hk := ?_) | refine f5' (hk := ?_) | refine d6 (ht := ?_) | refine d7 (hf := ?_) | refine u7 (hk := ?_))
        refine k0' (ha' := fm1 rfl (fm1 (fzV_sl rfl (Nat.zero_le _) (get_own rfl) rfl rfl) fm0)) (he := hof _) (hk := ?_)
        skip
        refine kU' (ha := rfl) (he := hst _) (hk := ?_)
        intro v' S2 hRk
        obtain ⟨y2', y3', hR', n2', n3', hle', hF'⟩ := fin _ _ _ hRk
        rw [← List.append_nil S2]
        repeat' (first | refine c0 ?_ | refine c3 ?_ | refine d2 ?_ | refine d4 ?_ | refine d4' ?_ | refine a5 (hk := ?_))
        exact ⟨_, _, _, y2', y3', hq', ho', hs', hn', hw', by simp only; omega, hR', n2', n3', hle', hF', at_mk ⟨rfl, rfl, rfl, inc (by omega), trivial⟩, rfl⟩
      by_cases k3 : kk = 3
      · subst k3
        have hq' : run l r = run rest ⟨r1.nums, r1.ws, r1.ss ++ [(hh, nget r1.nums (j : Int))]⟩ := by rw [hq, run_cons, if_neg (by omega), if_pos rfl]
        have hw' : (r1.ss ++ [(hh, nget r1.nums (j : Int))]).length + rest.sz ≤ 100000 := by rw [List.length_append]; simp; omega
        have hkR : ∀ q n, HV.sl q1 r1.nums.length = .sl q n → q ≠ k := hR.a
        have hk2 := hR.b
        rcases h3.c with ⟨rfl, hw0⟩ | ⟨q3, rfl, fV⟩
        · repeat' (first | refine c0 ?_ | refine c3 ?_ | refine c7 ?_ | refine d2 ?_ | refine c8 ?_ | refine d0 ?_ | refine d4 ?_ | refine d3' (h := ?_) | refine d4' ?_ | refine b0 (hk := ?_) | refine a5 (hk := ?_) | refine b5 (hk := ?_) | refine b6 (hk := ?_) | refine b8 (hk := ?_) | refine b7 (hk := ?_) | refine p1' (hk := ?_) | refine b4' (hk := ?_) | refine b7b (hk := ?_) | refine e5' (hk := ?_) | refine f5' (hk := ?_) | refine f9' (hk := ?_) | refine b7' (hk := ?_) | refine d7 (hf := ?_) | refine u7 (hk := ?_))
          refine ⟨_, _, _, y2, .sl (S1.length + 18) 1, hq', ho.2, hs, hn, by simp only; omega, hw', ⟨get_old (setE fB), ⟨(h3.a.set hkR).app, (h3.b.set hk2).app, Col.of' (get_ownL (by simp) rfl) (by simp at hw0; rw [hw0]; rfl) (by simp at hw0; simp [hw0]), h3.ab, apaS fun k n hc => by cases hc; have := (List.getElem?_eq_some_iff.1 fN).1; omega, Apa.symm (apaS fun k n hc => by have := u2 k n hc; omega)⟩, hkR, hk2, fun q n hc => by cases hc; omega⟩, n2, New.nw (by omega), by simp; omega, (hF.set (.inr (.inl rfl))).app (by simp; omega), at_mk ⟨rfl, rfl, rfl, inc (by omega), trivial⟩, (List.append_nil _).symm⟩
        · have h13 : q3 ≠ q1 := x3 _ _ rfl
          have hk3 := g3 _ _ rfl
          have hk3' := Ne.symm hk3
          repeat' (first | refine c0 ?_ | refine c3 ?_ | refine c7 ?_ | refine d2 ?_ | refine c8 ?_ | refine d0 ?_ | refine d4 ?_ | refine d3' (h := ?_) | refine d4' ?_ | refine b0 (hk := ?_) | refine a5 (hk := ?_) | refine b5 (hk := ?_) | refine b6 (hk := ?_) | refine b8 (hk := ?_) | refine b7 (hk := ?_) | refine b4' (hk := ?_) | refine b7b (hk := ?_) | refine e5' (hk := ?_) | refine f5' (hk := ?_) | refine f9' (hk := ?_) | refine b7' (hk := ?_) | refine p0' (hk := ?_) | refine d7 (hf := ?_) | refine u7 (hk := ?_))
          refine ⟨_, _, _, y2, .sl q3 ((r1.ss.map wrow).length + 1), hq', ho.2, hs, hn, by simp only; omega, hw', ⟨get_old (setE (setN hk3' fB)), ⟨((h3.a.set fun k n hc => by cases hc; exact Ne.symm h13).set hkR).app, ((h3.b.set fun k n hc => (fun e => h3.bc _ _ _ _ hc rfl e)).set hk2).app, Col.of' (get_old (setN hk3 (setE fV))) (by rw [List.map_append]; rfl) (by simp), h3.ab, apaS fun k n hc => by cases hc; exact h13, Apa.symm (apaS fun k n hc => (fun e => h3.bc _ _ _ _ hc rfl e))⟩, hkR, hk2, fun q n hc => by cases hc; exact hk3⟩, n2, n3.to, by simp; omega, ((hF.set ((n3.own (Nat.le_refl _) rfl).imp id fun h => .inr (.inr (.inr h)))).set (.inr (.inl rfl))).app (by simp; omega), at_mk ⟨rfl, rfl, rfl, inc (by omega), trivial⟩, (List.append_nil _).symm⟩
      have e1 : (kk == 1) = false := by simpa using k1
      have e3 : (kk == 3) = false := by simpa using k3
      have e2 : kk = 2 := by
        have := ho.1
        simp only [stepOk, k1, k3, if_false] at this
        by_cases h2 : kk = 2
        · exact h2
        · simp [h2] at this
      subst e2
      repeat' (first | refine c0 ?_ | refine c7 ?_ | refine d2 ?_ | refine c8 ?_ | refine d0 ?_ | refine d4 ?_ | refine d3' (h := ?_) | refine d4' ?_ | refine b0 (hk := ?_) | refine a5 (hk := ?_) | refine b5 (hk := ?_) | refine b6 (hk := ?_) | refine b8 (hk := ?_) | refine b7 (hk := ?_) | refine e5' (hk := ?_) | refine f5' (hk := ?_) | refine f9' (hk := ?_) | (with_reducible intro hc) | refine d6 (ht := ?_) | refine d7 (hf := ?_) | refine u7 (hk := ?_) | refine d9 (ht := ?_) (hf := ?_))
      · refine kX (he := ih t.sz (by omega) t (d - 1) r1 _ _ _ _ _ (Nat.le_refl _) (by omega) ht hs hn (by omega) (by omega) hR.app) (hk := ?_)
        rintro v S2 ⟨rfl, y2', y3', hR', n2', n3', hle', hF'⟩
        simp at hle'
        have hri := runs_in t (d - 1) r1 ht hs
        rw [← List.append_nil S2]
        repeat' (first | refine c0 ?_ | refine c3 ?_ | refine d2 ?_ | refine d4 ?_ | refine a5 (hk := ?_))
        refine ⟨_, _, run t r1, y2', y3', ?_, by rw [hri.1]; exact ho.2, hri.2.1, by rw [hri.1]; exact hn, by omega, by omega, hR', n2.trans n2' (by simp; omega), n3.trans n3' (by simp; omega), by omega, (hF.app hle).trans hF' n2 n3 (Nat.le_refl _) (by simp; omega), at_mk ⟨rfl, rfl, rfl, inc (by omega), trivial⟩, rfl⟩
        rw [hq, run_cons, if_neg k1, if_neg k3, if_pos (by simpa using hc)]
      · refine kX (he := ih e.sz (by omega) e (d - 1) r1 _ _ _ _ _ (Nat.le_refl _) (by omega) he hs hn (by omega) (by omega) hR.app) (hk := ?_)
        rintro v S2 ⟨rfl, y2', y3', hR', n2', n3', hle', hF'⟩
        simp at hle'
        have hri := runs_in e (d - 1) r1 he hs
        rw [← List.append_nil S2]
        repeat' (first | refine c0 ?_ | refine c3 ?_ | refine d2 ?_ | refine d4 ?_ | refine a5 (hk := ?_))
        refine ⟨_, _, run e r1, y2', y3', ?_, by rw [hri.1]; exact ho.2, hri.2.1, by rw [hri.1]; exact hn, by omega, by omega, hR', n2.trans n2' (by simp; omega), n3.trans n3' (by simp; omega), by omega, (hF.app hle).trans hF' n2 n3 (Nat.le_refl _) (by simp; omega), at_mk ⟨rfl, rfl, rfl, inc (by omega), trivial⟩, rfl⟩
        rw [hq, run_cons, if_neg k1, if_neg k3, if_neg (by simpa using hc)]
    · rintro pre T' S' hl ⟨T0, S1, r1, y2, y3, hq, ho, hs, hn, hw, hv, hR, n2, n3, hle, hF, rfl, rfl⟩
      have hlt' : ¬ ((pre.length : Int) < (l.rows.length : Int)) := by rw [hl]; omega
      repeat' (first | refine c0 ?_ | refine c2 ?_ | refine c5 ?_ | refine c7 ?_ | refine d2 ?_ | refine d1 ?_ | refine d4 ?_ | refine a5 (hk := ?_) | refine u8 (hk := ?_))
      refine ⟨_, _, rKeepN, rfl, y2, y3, ?_, n2, n3, by simp; omega, hF.app hle⟩
      rw [hq]
      exact hR.app
end Go.Proofs.X
end
section
namespace Go.Proofs.X
open Go Go.Proofs.XVai Go.Proofs Go.Proofs.XN
set_option linter.unusedVariables false
set_option linter.unusedSimpArgs false
set_option maxHeartbeats 4000000
set_option maxRecDepth 100000

theorem wrow22 (ws : List (Int × Int)) : (ws.map wrow).all (fun r => r.length == 2 && r.all isCell) = true := by simp [isCell]
theorem Col.own {S X : St} {j : Nat} {o : Ob} {fr : Bool} {c : HV} {rows : List (List HV)} (h : Col fr (S ++ X) c rows) (hj : ∀ k n, c = .sl k n → k ≠ S.length + j) : Col fr (S ++ X.set j o) c rows := by
  rw [← set_own]; exact h.set hj
theorem Run3.frzR {S S1 : St} {r : Rn} {c1 c2 c3 : HV} (h : Run3 S1 r c1 c2 c3) (h1 : ∀ k n, c1 = .sl k n → S.length ≤ k) (h2 : ∀ k n, c2 = .sl k n → S.length ≤ k) (h3 : ∀ k n, c3 = .sl k n → S.length ≤ k) (hl : S.length ≤ S1.length) (ho : ∀ j, j < S.length → S1[j]? = S[j]?) :
    ∃ S2, XVai.frzR S.length (.agg [c1, c2, c3]) S1 = some (RN r.nums r.ws r.ss, S2) ∧ S.length ≤ S2.length ∧ ∀ j, j < S.length → S2[j]? = S[j]? := by
  obtain ⟨S2, z1, z2, z3⟩ := h.frz h1 h2 h3
  refine ⟨S2, by rw [← z1]; rfl, by omega, fun j hj => ?_⟩
  rw [z3 j (fun n hc => by have := h1 j n hc; omega) (fun n hc => by have := h2 j n hc; omega) (fun n hc => by have := h3 j n hc; omega), ho j hj]
/-- A run out of a cell of one's own. -/
theorem rRn {f : Nat} {fn : Func} {T' : Tm} {S S1 : St} {r : Rn} {c1 c2 c3 : HV} (hkp : Y.keep f = false := by rfl) {a : Tmp} {t : TypeId} (hres : fn.results.toList = [.cell a t] := by rfl) {ti : TI} (h1 : Y.tab t = some ti := by rfl) {q n i of' : Nat} {fr : Bool} {rows : List (List HV)} {row : List HV}
    (h2 : T' a = .ptr q n i of' := by rfl) (h3 : S1[q]? = some (.cells fr rows)) (h4 : rows.length = n := by rfl) (h5 : rows[i]? = some row := by rfl) (h6 : XVai.part ti.agg ti.size row of' = some (.agg [c1, c2, c3]) := by rfl) (hR : Run3 S1 r c1 c2 c3)
    (o1 : ∀ k n, c1 = .sl k n → S.length ≤ k) (o2 : ∀ k n, c2 = .sl k n → S.length ≤ k) (o3 : ∀ k n, c3 = .sl k n → S.length ≤ k) (hl : S.length ≤ S1.length) (ho : ∀ j, j < S.length → S1[j]? = S[j]?) : RT Y f fn S (RN r.nums r.ws r.ss) S .ret T' S1 := by
  obtain ⟨S2, z1, z2, z3⟩ := hR.frzR o1 o2 o3 hl ho
  exact rCG hkp hres h1 h2 h3 h4 h5 h6 z1 rfl z2 z3
theorem apaI {k n k' n' : Nat} (h : k ≠ k') : Apa (.sl k n) (.sl k' n') := fun a b c d h1 h2 e => by cases h1; cases h2; exact h e
theorem apaN {a : HV} : Apa a .nils := fun k n k' n' _ h => by cases h
theorem ownN {m : Nat} : ∀ k n, HV.nils = .sl k n → m ≤ k := fun k n h => by cases h
theorem ownI {m q l : Nat} (h : m ≤ q) : ∀ k n, HV.sl q l = .sl k n → m ≤ k := fun k n h => by cases h; assumption
theorem k_impl_Run_clone (r : Rn) (S : St) (h1 : r.nums.length ≤ 1048576) (h2 : r.ws.length ≤ 1048576) (h3 : r.ss.length ≤ 1048576) : Ev Y impl_Run_clone [RN r.nums r.ws r.ss] S (RN r.nums r.ws r.ss) S := by
  obtain ⟨nums, ws, ss⟩ := r
  simp only at h1 h2 h3 ⊢
  have w2 := wrow22 ws
  have w3 := wrow22 ss
  cases ws with
  | nil =>
    cases ss with
    | nil =>
      refine E_start (h := ?_)
      repeat' (first | refine c0 ?_ | refine c7 ?_ | refine d2 ?_ | refine d4 ?_ | refine d3' (h := ?_) | refine b0 (hk := ?_) | refine b1 (hk := ?_) | refine e5' (hk := ?_) | refine f5' (hk := ?_))
      refine kX' (he := k_impl_cloneInts nums _ h1) (hx := fun v S' ⟨J, h, _⟩ => ⟨J, h⟩) (hk := ?_)
      rintro c1 J ⟨J', -, hC, hle⟩
      rw [List.append_assoc] at hC ⊢
      rcases hC with ⟨rfl, hz⟩ | ⟨q, rfl, hq⟩
      · have hC0 : ∀ S, Col false S .nils (nums.map irow) := fun _ => .inl ⟨rfl, hz⟩
        repeat' (first | refine e5' (hk := ?_) | refine f5' (hk := ?_))
        refine pN' (hk := ?_)
        repeat' (first | refine e5' (hk := ?_) | refine f5' (hk := ?_))
        refine pN' (hk := ?_)
        repeat' (first | refine c0 ?_ | refine c9 ?_ | refine d4' ?_ | refine b7b (hk := ?_) | refine b7' (hk := ?_))
        refine rRn (r := ⟨nums, [], []⟩) (c1 := .nils) (c2 := .nils) (c3 := .nils) (h3 := get_own rfl) (hR := ⟨hC0 _, .inl ⟨rfl, rfl⟩, .inl ⟨rfl, rfl⟩, apa0, apa0, apa0⟩) (o1 := ownN) (o2 := ownN) (o3 := ownN) (hl := by simp) (ho := fun j hj => by rw [List.getElem?_append_left hj])
      have hql := hle _ _ rfl
      simp at hql
      have hC0 : Col false (S ++ _) (.sl q (nums.map irow).length) (nums.map irow) := .inr ⟨q, rfl, hq⟩
      repeat' (first | refine e5' (hk := ?_) | refine f5' (hk := ?_))
      refine pN' (hk := ?_)
      repeat' (first | refine e5' (hk := ?_) | refine f5' (hk := ?_))
      refine pN' (hk := ?_)
      repeat' (first | refine c0 ?_ | refine c9 ?_ | refine d4' ?_ | refine b7b (hk := ?_) | refine b7' (hk := ?_))
      refine rRn (r := ⟨nums, [], []⟩) (c1 := (.sl q (nums.map irow).length)) (c2 := .nils) (c3 := .nils) (h3 := get_own rfl) (hR := ⟨(hC0.own fun k n hc => by cases hc; omega), .inl ⟨rfl, rfl⟩, .inl ⟨rfl, rfl⟩, apaN, apaN, apa0⟩) (o1 := (ownI (by omega))) (o2 := ownN) (o3 := ownN) (hl := by simp) (ho := fun j hj => by rw [List.getElem?_append_left hj])
    | cons s0 st =>
      have h3' : st.length + 1 ≤ 1048576 := by simpa using h3
      refine E_start (h := ?_)
      repeat' (first | refine c0 ?_ | refine c7 ?_ | refine d2 ?_ | refine d4 ?_ | refine d3' (h := ?_) | refine b0 (hk := ?_) | refine b1 (hk := ?_) | refine e5' (hk := ?_) | refine f5' (hk := ?_))
      refine kX' (he := k_impl_cloneInts nums _ h1) (hx := fun v S' ⟨J, h, _⟩ => ⟨J, h⟩) (hk := ?_)
      rintro c1 J ⟨J', -, hC, hle⟩
      rw [List.append_assoc] at hC ⊢
      rcases hC with ⟨rfl, hz⟩ | ⟨q, rfl, hq⟩
      · have hC0 : ∀ S, Col false S .nils (nums.map irow) := fun _ => .inl ⟨rfl, hz⟩
        repeat' (first | refine e5' (hk := ?_) | refine f5' (hk := ?_))
        refine pN' (hk := ?_)
        repeat' (first | refine c0 ?_ | refine c9 ?_ | refine d4' ?_ | refine p1' (hk := ?_) | refine b7b (hk := ?_) | refine e5' (hk := ?_) | refine f5' (hk := ?_) | refine b7' (hk := ?_))
        refine rRn (r := ⟨nums, [], (s0 :: st)⟩) (c1 := .nils) (c2 := .nils) (c3 := (.sl (S.length + 10) ((s0 :: st).map wrow).length)) (h3 := get_own rfl) (hR := ⟨hC0 _, .inl ⟨rfl, rfl⟩, .inr ⟨S.length + 10, rfl, get_own rfl⟩, apa0, apa0, apa0⟩) (o1 := ownN) (o2 := ownN) (o3 := (ownI (by omega))) (hl := by simp) (ho := fun j hj => by rw [List.getElem?_append_left hj])
      have hql := hle _ _ rfl
      simp at hql
      have hC0 : Col false (S ++ _) (.sl q (nums.map irow).length) (nums.map irow) := .inr ⟨q, rfl, hq⟩
      repeat' (first | refine e5' (hk := ?_) | refine f5' (hk := ?_))
      refine pN' (hk := ?_)
      repeat' (first | refine c0 ?_ | refine c9 ?_ | refine d4' ?_ | refine p1' (hk := ?_) | refine b7b (hk := ?_) | refine e5' (hk := ?_) | refine f5' (hk := ?_) | refine b7' (hk := ?_))
      refine rRn (r := ⟨nums, [], (s0 :: st)⟩) (c1 := (.sl q (nums.map irow).length)) (c2 := .nils) (c3 := (.sl (S.length + 10) ((s0 :: st).map wrow).length)) (h3 := get_own rfl) (hR := ⟨((hC0.own fun k n hc => by cases hc; omega).own fun k n hc => by cases hc; omega), .inl ⟨rfl, rfl⟩, .inr ⟨S.length + 10, rfl, get_own rfl⟩, apaN, (apaI (by omega)), apa0⟩) (o1 := (ownI (by omega))) (o2 := ownN) (o3 := (ownI (by omega))) (hl := by simp) (ho := fun j hj => by rw [List.getElem?_append_left hj])
  | cons w0 wt =>
    cases ss with
    | nil =>
      have h2' : wt.length + 1 ≤ 1048576 := by simpa using h2
      refine E_start (h := ?_)
      repeat' (first | refine c0 ?_ | refine c7 ?_ | refine d2 ?_ | refine d4 ?_ | refine d3' (h := ?_) | refine b0 (hk := ?_) | refine b1 (hk := ?_) | refine e5' (hk := ?_) | refine f5' (hk := ?_))
      refine kX' (he := k_impl_cloneInts nums _ h1) (hx := fun v S' ⟨J, h, _⟩ => ⟨J, h⟩) (hk := ?_)
      rintro c1 J ⟨J', -, hC, hle⟩
      rw [List.append_assoc] at hC ⊢
      rcases hC with ⟨rfl, hz⟩ | ⟨q, rfl, hq⟩
      · have hC0 : ∀ S, Col false S .nils (nums.map irow) := fun _ => .inl ⟨rfl, hz⟩
        repeat' (first | refine p1' (hk := ?_) | refine e5' (hk := ?_) | refine f5' (hk := ?_))
        refine pN' (hk := ?_)
        repeat' (first | refine c0 ?_ | refine c9 ?_ | refine d4' ?_ | refine b7b (hk := ?_) | refine b7' (hk := ?_))
        refine rRn (r := ⟨nums, (w0 :: wt), []⟩) (c1 := .nils) (c2 := (.sl (S.length + 7) ((w0 :: wt).map wrow).length)) (c3 := .nils) (h3 := get_own rfl) (hR := ⟨hC0 _, .inr ⟨S.length + 7, rfl, get_own rfl⟩, .inl ⟨rfl, rfl⟩, apa0, apa0, apaN⟩) (o1 := ownN) (o2 := (ownI (by omega))) (o3 := ownN) (hl := by simp) (ho := fun j hj => by rw [List.getElem?_append_left hj])
      have hql := hle _ _ rfl
      simp at hql
      have hC0 : Col false (S ++ _) (.sl q (nums.map irow).length) (nums.map irow) := .inr ⟨q, rfl, hq⟩
      repeat' (first | refine p1' (hk := ?_) | refine e5' (hk := ?_) | refine f5' (hk := ?_))
      refine pN' (hk := ?_)
      repeat' (first | refine c0 ?_ | refine c9 ?_ | refine d4' ?_ | refine b7b (hk := ?_) | refine b7' (hk := ?_))
      refine rRn (r := ⟨nums, (w0 :: wt), []⟩) (c1 := (.sl q (nums.map irow).length)) (c2 := (.sl (S.length + 7) ((w0 :: wt).map wrow).length)) (c3 := .nils) (h3 := get_own rfl) (hR := ⟨((hC0.own fun k n hc => by cases hc; omega).own fun k n hc => by cases hc; omega), .inr ⟨S.length + 7, rfl, get_own rfl⟩, .inl ⟨rfl, rfl⟩, (apaI (by omega)), apaN, apaN⟩) (o1 := (ownI (by omega))) (o2 := (ownI (by omega))) (o3 := ownN) (hl := by simp) (ho := fun j hj => by rw [List.getElem?_append_left hj])
    | cons s0 st =>
      have h2' : wt.length + 1 ≤ 1048576 := by simpa using h2
      have h3' : st.length + 1 ≤ 1048576 := by simpa using h3
      refine E_start (h := ?_)
      repeat' (first | refine c0 ?_ | refine c7 ?_ | refine d2 ?_ | refine d4 ?_ | refine d3' (h := ?_) | refine b0 (hk := ?_) | refine b1 (hk := ?_) | refine e5' (hk := ?_) | refine f5' (hk := ?_))
      refine kX' (he := k_impl_cloneInts nums _ h1) (hx := fun v S' ⟨J, h, _⟩ => ⟨J, h⟩) (hk := ?_)
      rintro c1 J ⟨J', -, hC, hle⟩
      rw [List.append_assoc] at hC ⊢
      rcases hC with ⟨rfl, hz⟩ | ⟨q, rfl, hq⟩
      · have hC0 : ∀ S, Col false S .nils (nums.map irow) := fun _ => .inl ⟨rfl, hz⟩
        repeat' (first | refine c0 ?_ | refine c9 ?_ | refine d4' ?_ | refine p1' (hk := ?_) | refine b7b (hk := ?_) | refine e5' (hk := ?_) | refine f5' (hk := ?_) | refine b7' (hk := ?_))
        refine rRn (r := ⟨nums, (w0 :: wt), (s0 :: st)⟩) (c1 := .nils) (c2 := (.sl (S.length + 7) ((w0 :: wt).map wrow).length)) (c3 := (.sl (S.length + 10) ((s0 :: st).map wrow).length)) (h3 := get_own rfl) (hR := ⟨hC0 _, .inr ⟨S.length + 7, rfl, get_own rfl⟩, .inr ⟨S.length + 10, rfl, get_own rfl⟩, apa0, apa0, (apaI (by omega))⟩) (o1 := ownN) (o2 := (ownI (by omega))) (o3 := (ownI (by omega))) (hl := by simp) (ho := fun j hj => by rw [List.getElem?_append_left hj])
      have hql := hle _ _ rfl
      simp at hql
      have hC0 : Col false (S ++ _) (.sl q (nums.map irow).length) (nums.map irow) := .inr ⟨q, rfl, hq⟩
      repeat' (first | refine c0 ?_ | refine c9 ?_ | refine d4' ?_ | refine p1' (hk := ?_) | refine b7b (hk := ?_) | refine e5' (hk := ?_) | refine f5' (hk := ?_) | refine b7' (hk := ?_))
      refine rRn (r := ⟨nums, (w0 :: wt), (s0 :: st)⟩) (c1 := (.sl q (nums.map irow).length)) (c2 := (.sl (S.length + 7) ((w0 :: wt).map wrow).length)) (c3 := (.sl (S.length + 10) ((s0 :: st).map wrow).length)) (h3 := get_own rfl) (hR := ⟨(((hC0.own fun k n hc => by cases hc; omega).own fun k n hc => by cases hc; omega).own fun k n hc => by cases hc; omega), .inr ⟨S.length + 7, rfl, get_own rfl⟩, .inr ⟨S.length + 10, rfl, get_own rfl⟩, (apaI (by omega)), (apaI (by omega)), (apaI (by omega))⟩) (o1 := (ownI (by omega))) (o2 := (ownI (by omega))) (o3 := (ownI (by omega))) (hl := by simp) (ho := fun j hj => by rw [List.getElem?_append_left hj])
end Go.Proofs.X
end
section
namespace Go.Proofs.X
open Go Go.Proofs.XVai Go.Proofs Go.Proofs.XN
set_option linter.unusedVariables false
set_option linter.unusedSimpArgs false
set_option maxHeartbeats 4000000
set_option maxRecDepth 100000

section
variable {fid : Nat} {T : Tm} {S : St} {K : Tm → St → Prop} {ops : Array Oper} {l : List Oper} {dst : Option Tmp} {ty : TypeId} {pos : String} {after : Array Edge} {g0 : Option (Nat × Bool)}
/-- A call whose arguments become immutable. -/
theorem kZ {f : Operand} {args : Array Operand} {ats : Array TypeId} {g : Nat} {args' : List HV} {S1 S2 : St} {v : HV} (hg : wantG ops g0 T = true := by rfl) (hf : ev T f = .fn g [] := by rfl) (hb : Y.byref g = false := by rfl)
    (ha : mapMS (frzV 0) (args.toList.map (ev T)) S = some (args', S1)) (he : Ev Y g args' S1 v S2) (hk : OW Y fid ops none l (put T dst v) S2 K) : OW Y fid ops none (⟨dst, .call ⟨.value f, args, ats⟩, ty, pos, after, g0⟩ :: l) T S K := by
  rw [← List.append_nil args'] at he
  exact ⟨WX_call hg hf hb ha he hk.of⟩
end
theorem k_impl_RunOf (ls : List Lab) (ss : Stps) (nums : List Int) (S : St) (hs : ss.sz ≤ 1048576) (hl : ls.length ≤ 1048576) (hn : nums.length ≤ 1048576) : Ev Y impl_RunOf [PR ls ss, L nums] S (RUNR ls ss nums) S := by
  cases hok : numsOk ls ss nums with
  | false =>
    have hno : (!numsOk ls ss nums) = true := by rw [hok]; rfl
    rw [RUNR, hok, show runOf ls ss nums = ⟨[], [], []⟩ by simp [runOf, hok]]
    refine E_start (h := ?_)
    repeat' (first | refine c0 ?_ | refine c1 ?_ | refine c7 ?_ | refine d2 ?_ | refine c9 ?_ | refine d4 ?_ | refine k0 (he := (by first | exact k_impl_NumsOk _ _ _ _ hs hl hn)) (hk := ?_) | refine b0 (hk := ?_) | refine b1 (hk := ?_) | refine a5 (hk := ?_) | refine b5 (hk := ?_) | refine b7 (hk := ?_) | refine u5 (hk := ?_))
    exact rRun (h3 := get_own rfl) (hz := rfl) (hl := by simp) (ho := fun j hj => by rw [List.getElem?_append_left hj])
  | true =>
    have hno : (!numsOk ls ss nums) = false := by rw [hok]; rfl
    obtain ⟨h1, h2, h3⟩ := numsOk_in hok
    obtain ⟨p1, p2, p3, p4⟩ := progOk_in h1
    rw [RUNR, hok, show runOf ls ss nums = run ss ⟨nums, [], []⟩ by simp [runOf, hok]]
    rw [← h2] at p1 p3
    have hri := runs_in ss 3 ⟨nums, [], []⟩ p3 h3
    refine E_start (h := ?_)
    repeat' (first | refine c0 ?_ | refine c7 ?_ | refine d2 ?_ | refine d0 ?_ | refine d4 ?_ | refine k0 (he := (by first | exact k_impl_NumsOk _ _ _ _ hs hl hn)) (hk := ?_) | refine b0 (hk := ?_) | refine b1 (hk := ?_) | refine a5 (hk := ?_) | refine b5 (hk := ?_) | refine u6 (hk := ?_))
    refine kX (he := k_impl_cloneInts nums _ hn) (hk := ?_)
    rintro c1 S2 ⟨J, hJ, hC, hle⟩
    have f0 : S2[S.length + 0]? = some (.cells false [[LS ls, .lst ss.rows]]) := by
      rw [hJ]; exact get_old (get_own rfl)
    have f1 : S2[S.length + 1]? = some (.cells false [[.nils, .nils, .nils]]) := by
      rw [hJ]; exact get_old (get_own rfl)
    have hl2 : S.length + 2 ≤ S2.length := by rw [hJ]; simp <;> omega
    have hold : ∀ j, j < S.length → S2[j]? = S[j]? := fun j hj => by rw [hJ, List.getElem?_append_left (by simp; omega), List.getElem?_append_left hj]
    have hle' : ∀ k n, c1 = .sl k n → S.length + 2 ≤ k := fun k n hc => by have := hle k n hc; simpa using this
    clear hle hJ
    rw [← List.append_nil S2]
    rcases hC with ⟨rfl, hz⟩ | ⟨q, rfl, hq⟩
    · repeat' (first | refine c0 ?_ | refine c7 ?_ | refine d2 ?_ | refine d4 ?_ | refine b0 (hk := ?_) | refine a5 (hk := ?_) | refine b5 (hk := ?_) | refine b7 (hk := ?_))
      refine kX (he := k_impl_Run_do _ ss 3 ⟨nums, [], []⟩ .nils .nils .nils (S2.length + 0) _ (Nat.le_refl _) (by omega) p3 h3 (by simp only; omega) (by simp; omega) (by simp; omega) ⟨get_own rfl, ⟨.inl ⟨rfl, hz⟩, .inl ⟨rfl, rfl⟩, .inl ⟨rfl, rfl⟩, apa0, apa0, apa0⟩, by simp, by simp, by simp⟩) (hk := ?_)
      rintro v S3 ⟨rfl, c2, c3, hR, n2, n3, hle3, hF⟩
      have g0 : S3[S.length + 1]? = some (.cells false [[.nils, .nils, .nils]]) := by
        rw [hF _ (by simp; omega) (by omega) (by simp) (by simp) (by simp)]
        exact get_old f1
      have g1 := hR.box
      obtain ⟨S4, z1, z2, z3⟩ := hR.run.frz (n0 := 0) (fun _ _ _ => Nat.zero_le _) (fun _ _ _ => Nat.zero_le _) (fun _ _ _ => Nat.zero_le _)
      have w2 : ∀ k n, c2 = .sl k n → S2.length ≤ k := fun k n hc => by
        rcases n2 k n hc with ⟨m, hm⟩ | hm
        · cases hm
        · simp at hm; omega
      have w3 : ∀ k n, c3 = .sl k n → S2.length ≤ k := fun k n hc => by
        rcases n3 k n hc with ⟨m, hm⟩ | hm
        · cases hm
        · simp at hm; omega
      have g2 : S4[S.length + 1]? = some (.cells false [[.nils, .nils, .nils]]) := by
        rw [z3 _ (by simp) (fun n hc => by have := w2 _ n hc; omega) (fun n hc => by have := w3 _ n hc; omega), g0]
      rw [← List.append_nil S3]
      repeat' (first | refine c0 ?_ | refine c7 ?_ | refine d2 ?_ | refine d4 ?_ | refine b5 (hk := ?_))
      refine kZ (ha := by rw [List.append_nil]; exact fmS z1 fm0) (he := k_impl_Run_clone (run ss ⟨nums, [], []⟩) S4 (by simp at hri; omega) (by simp at hri; omega) (by simp at hri; omega)) (hk := ?_)
      rw [← List.append_nil S4]
      repeat' (first | refine c0 ?_ | refine c9 ?_ | refine d4 ?_ | refine a5 (hk := ?_) | refine b7 (hk := ?_))
      refine rRun (h3 := get_old (setE g2)) (hz := rfl) (hl := by simp at hle3 z2; simp; omega) (ho := fun j hj => ?_)
      rw [List.append_nil, List.getElem?_set_ne (by omega), z3 _ (by simp) (fun n hc => by have := w2 _ n hc; omega) (fun n hc => by have := w3 _ n hc; omega), hF j (by simp; omega) (by omega) (by simp) (by simp) (by simp), List.getElem?_append_left (by omega), hold j hj]
    · have hq2 := hle' _ _ rfl
      have hql : q < S2.length := (List.getElem?_eq_some_iff.1 hq).1
      repeat' (first | refine c0 ?_ | refine c7 ?_ | refine d2 ?_ | refine d4 ?_ | refine b0 (hk := ?_) | refine a5 (hk := ?_) | refine b5 (hk := ?_) | refine b7 (hk := ?_))
      refine kX (he := k_impl_Run_do _ ss 3 ⟨nums, [], []⟩ (.sl q (nums.map irow).length) .nils .nils (S2.length + 0) _ (Nat.le_refl _) (by omega) p3 h3 (by simp only; omega) (by simp; omega) (by simp; omega) ⟨get_own rfl, ⟨.inr ⟨q, rfl, get_old hq⟩, .inl ⟨rfl, rfl⟩, .inl ⟨rfl, rfl⟩, apaN, apaN, apa0⟩, fun a b hc => by cases hc; omega, by simp, by simp⟩) (hk := ?_)
      rintro v S3 ⟨rfl, c2, c3, hR, n2, n3, hle3, hF⟩
      have g0 : S3[S.length + 1]? = some (.cells false [[.nils, .nils, .nils]]) := by
        rw [hF _ (by simp; omega) (by omega) (fun n hc => by cases hc; omega) (by simp) (by simp)]
        exact get_old f1
      have g1 := hR.box
      obtain ⟨S4, z1, z2, z3⟩ := hR.run.frz (n0 := 0) (fun _ _ _ => Nat.zero_le _) (fun _ _ _ => Nat.zero_le _) (fun _ _ _ => Nat.zero_le _)
      have w2 : ∀ k n, c2 = .sl k n → S2.length ≤ k := fun k n hc => by
        rcases n2 k n hc with ⟨m, hm⟩ | hm
        · cases hm
        · simp at hm; omega
      have w3 : ∀ k n, c3 = .sl k n → S2.length ≤ k := fun k n hc => by
        rcases n3 k n hc with ⟨m, hm⟩ | hm
        · cases hm
        · simp at hm; omega
      have g2 : S4[S.length + 1]? = some (.cells false [[.nils, .nils, .nils]]) := by
        rw [z3 _ (fun n hc => by cases hc; omega) (fun n hc => by have := w2 _ n hc; omega) (fun n hc => by have := w3 _ n hc; omega), g0]
      rw [← List.append_nil S3]
      repeat' (first | refine c0 ?_ | refine c7 ?_ | refine d2 ?_ | refine d4 ?_ | refine b5 (hk := ?_))
      refine kZ (ha := by rw [List.append_nil]; exact fmS z1 fm0) (he := k_impl_Run_clone (run ss ⟨nums, [], []⟩) S4 (by simp at hri; omega) (by simp at hri; omega) (by simp at hri; omega)) (hk := ?_)
      rw [← List.append_nil S4]
      repeat' (first | refine c0 ?_ | refine c9 ?_ | refine d4 ?_ | refine a5 (hk := ?_) | refine b7 (hk := ?_))
      refine rRun (h3 := get_old (setE g2)) (hz := rfl) (hl := by simp at hle3 z2; simp; omega) (ho := fun j hj => ?_)
      rw [List.append_nil, List.getElem?_set_ne (by omega), z3 _ (fun n hc => by cases hc; omega) (fun n hc => by have := w2 _ n hc; omega) (fun n hc => by have := w3 _ n hc; omega), hF j (by simp; omega) (by omega) (fun n hc => by cases hc; omega) (by simp) (by simp), List.getElem?_append_left (by omega), hold j hj]
end Go.Proofs.X
end
section
namespace Go.Proofs.X
open Go Go.Proofs.XVai Go.Proofs Go.Proofs.XN
set_option linter.unusedVariables false
set_option linter.unusedSimpArgs false
set_option maxHeartbeats 4000000

theorem pairs_add (a b : Nat) : ∃ r, pairs (a + b) = pairs a ++ r := by
  rw [pairs, List.range_add, List.flatMap_append]
  exact ⟨_, rfl⟩
theorem find_at {D : Nat × Nat → Bool} {n k i : Nat} (hk : k < i) (hi : i < n) (h1 : ∀ i', i' < i → ∀ k', k' < i' → D (k', i') = false) (h2 : ∀ k', k' < k → D (k', i) = false) (h3 : D (k, i) = true) : (pairs n).find? D = some (k, i) := by
  obtain ⟨m, rfl⟩ : ∃ m, n = i + 1 + m := ⟨n - (i + 1), by omega⟩
  obtain ⟨r, hr⟩ := pairs_add (i + 1) m
  have e1 : pairs (i + 1) = pairs i ++ (List.range i).map fun k => (k, i) := by simp [pairs, List.range_succ]
  obtain ⟨j, rfl⟩ : ∃ j, i = k + 1 + j := ⟨i - (k + 1), by omega⟩
  have e2 : (List.range (k + 1 + j)).map (fun q => (q, k + 1 + j)) = (List.range k).map (fun q => (q, k + 1 + j)) ++ (k, k + 1 + j) :: ((List.range j).map (k + 1 + ·)).map fun q => (q, k + 1 + j) := by
    rw [List.range_add, List.range_succ, List.map_append, List.map_append]; simp
  rw [List.find?_eq_some_iff_append]
  refine ⟨h3, pairs (k + 1 + j) ++ (List.range k).map (fun q => (q, k + 1 + j)), ((List.range j).map (k + 1 + ·)).map (fun q => (q, k + 1 + j)) ++ r, ?_, ?_⟩
  · rw [hr, e1, e2]; simp
  · rintro ⟨a, b⟩ ha
    rcases List.mem_append.1 ha with ha | ha
    · rw [pairs_mem] at ha
      simp [h1 b ha.2 a ha.1]
    · simp only [List.mem_map, List.mem_range, Prod.mk.injEq] at ha
      obtain ⟨q, hq, rfl, rfl⟩ := ha
      simp [h2 q hq]
theorem find_no {D : Nat × Nat → Bool} {n : Nat} (h1 : ∀ i', i' < n → ∀ k', k' < i' → D (k', i') = false) : (pairs n).find? D = none := by
  rw [List.find?_eq_none]
  rintro ⟨a, b⟩ ha
  rw [pairs_mem] at ha
  simp [h1 b ha.2 a ha.1]
theorem shl4 {n : Nat} (h : n ≤ 4) : IntKind.i64.wrap (1 * 2 ^ min (Int.toNat (n : Int)) IntKind.i64.bits) = ((2 ^ n : Nat) : Int) := by
  have : n = 0 ∨ n = 1 ∨ n = 2 ∨ n = 3 ∨ n = 4 := by omega
  rcases this with rfl | rfl | rfl | rfl | rfl <;> decide
theorem incN {i : Nat} (h : i < 9223372036854775807) : HV.int .i64 (IntKind.i64.wrap ((i : Int) + 1)) = I ((i + 1 : Nat)) := by
  rw [i64_id (by omega) (by omega)]; simp
theorem pow4 {n : Nat} (h : n ≤ 4) : 2 ^ n ≤ 16 := by
  have : n = 0 ∨ n = 1 ∨ n = 2 ∨ n = 3 ∨ n = 4 := by omega
  rcases this with rfl | rfl | rfl | rfl | rfl <;> decide
/-- Two rows that are the same in some variables, but of which something else comes. -/
def foundAt (ls : List Lab) (ss : Stps) (vars : List Bool) (h : Int) (told : Bool) (p : Nat × Nat) : Bool :=
  let a := row2 p.1 ls.length; let b := row2 p.2 ls.length
  sameOn a b vars && (if told then !(runTo (runOf ls ss a).ss h == runTo (runOf ls ss b).ss h) else !(runSets (runOf ls ss a).ws vars == runSets (runOf ls ss b).ws vars))
def FND (n : Nat) : Option (Nat × Nat) → HV
  | some (k, i) => .tup [L (row2 k n), L (row2 i n), .bool true]
  | none => .tup [L [], L [], .bool false]
/-- What comes of a row of bits is small. -/
theorem runOf_sz {ls : List Lab} {ss : Stps} (hok : progOk ls ss = true) (a : List Int) : (runOf ls ss a).ws.length ≤ 8 ∧ (runOf ls ss a).ss.length ≤ 8 := by
  obtain ⟨p1, p2, p3, p4⟩ := progOk_in hok
  unfold runOf
  split
  · rename_i h
    obtain ⟨_, h2, h3⟩ := numsOk_in h
    have := runs_in ss 3 ⟨a, [], []⟩ (by rw [h2]; exact p3) h3
    simp only [List.length_nil] at this
    omega
  · simp
theorem runTo_len (a : List (Int × Int)) (h : Int) : (runTo a h).length ≤ a.length := by
  rw [runTo, List.length_map]; exact List.length_filter_le _ _
theorem runSets_len (a : List (Int × Int)) (vs : List Bool) : (runSets a vs).length ≤ a.length := List.length_filter_le _ _
theorem k_spec_l12Find (ls : List Lab) (ss : Stps) (vars : List Bool) (h : Int) (told : Bool) (S : St) (hok : progOk ls ss = true) (hv : vars.length = ls.length) : Ev Y spec_l12Find [PR ls ss, BL vars, I h, .bool told] S (FND ls.length ((pairs (2 ^ ls.length)).find? (foundAt ls ss vars h told))) S := by
  obtain ⟨p1, p2, p3, p4⟩ := progOk_in hok
  have hsh := shl4 p1
  have hp4 := pow4 p1
  have hrs := fun a => runOf_sz hok a
  have hrl := fun m => row2_len m ls.length
  refine E_start (h := ?_)
  repeat' (first | refine c0 ?_ | refine c7 ?_ | refine d2 ?_ | refine c8 ?_ | refine d4 ?_ | refine b1 (hk := ?_) | refine b3 (hk := ?_) | refine a5 (hk := ?_) | refine b5 (hk := ?_))
  refine C_loop (fun m T' S' => ∃ (T0 : Tm) (S1 : St) (i : Nat), i + m = 2 ^ ls.length ∧ (∀ i', i' < i → ∀ k', k' < i' → foundAt ls ss vars h told (k', i') = false) ∧ Ext S S1 ∧ S1[S.length + 0]? = some (.cells false [[LS ls, .lst ss.rows]]) ∧
      T' = putL T0 [(1, BL vars), (2, I h), (3, .bool told), (4, .ptr (S.length + 0) 1 0 0), (11, I ls.length), (12, I i)] ∧ S' = S1 ++ []) (2 ^ ls.length)
    ⟨_, _, 0, by omega, by omega, ex0, get_own rfl, at_mk ⟨rfl, rfl, rfl, rfl, by show HV.int _ _ = _; simp, rfl, trivial⟩, (List.append_nil _).symm⟩ ?_
  rintro m T' S' ⟨T0, S1, i, hm, hno, hE, f0, rfl, rfl⟩
  cases m with
  | zero =>
    have hc0 : ¬ ((i : Int) < IntKind.i64.wrap (1 * 2 ^ min (Int.toNat (ls.length : Int)) IntKind.i64.bits)) := by rw [hsh]; omega
    repeat' (first | refine c0 ?_ | refine c2 ?_ | refine c5 ?_ | refine c7 ?_ | refine d2 ?_ | refine c9 ?_ | refine d1 ?_ | refine d4 ?_ | refine b4 (hk := ?_) | refine a5 (hk := ?_) | refine u8 (hk := ?_))
    refine rG (vs := [.sl (S1.length + 0) 0, .sl (S1.length + 1) 0, .bool false]) (v := .tup [.lst [], .lst [], .bool false]) (hz := frzR_tup (fmS (fzV_sl rfl (by have := hE.le; omega) (get_own rfl) rfl rfl) (fmS (fzV_sl rfl (by have := hE.le; omega) (get_own rfl) rfl rfl) (fmS rfl fm0)))) (hl := by have := hE.le; simp; omega) (ho := fun j hj => by rw [List.getElem?_append_left (by have := hE.le; omega), hE.old hj]) (hv := ?_)
    rw [find_no (by have : i = 2 ^ ls.length := by omega
                    rw [← this]; exact hno)]
    rfl
  | succ m =>
    have hc0 : (i : Int) < IntKind.i64.wrap (1 * 2 ^ min (Int.toNat (ls.length : Int)) IntKind.i64.bits) := by rw [hsh]; omega
    repeat' (first | refine c0 ?_ | refine c7 ?_ | refine d2 ?_ | refine c8 ?_ | refine d0 ?_ | refine d4 ?_ | refine a5 (hk := ?_) | refine u7 (hk := ?_))
    refine C_loop (fun m' T' S' => ∃ (T0 : Tm) (S1 : St) (k : Nat), k + m' = i ∧ (∀ k', k' < k → foundAt ls ss vars h told (k', i) = false) ∧ Ext S S1 ∧ S1[S.length + 0]? = some (.cells false [[LS ls, .lst ss.rows]]) ∧
        T' = putL T0 [(1, BL vars), (2, I h), (3, .bool told), (4, .ptr (S.length + 0) 1 0 0), (11, I ls.length), (12, I i), (13, I k)] ∧ S' = S1 ++ []) i
      ⟨_, _, 0, by omega, by omega, ex1 hE, get_old f0, at_mk ⟨rfl, rfl, rfl, rfl, rfl, rfl, rfl, trivial⟩, (List.append_nil _).symm⟩ ?_
    clear hE f0 S1 T0
    rintro m' T' S' ⟨T0, S1, k, hm', hno', hE, f0, rfl, rfl⟩
    cases m' with
    | zero =>
      have hc1 : ¬ ((k : Int) < (i : Int)) := by omega
      repeat' (first | refine c0 ?_ | refine c2 ?_ | refine c3 ?_ | refine c5 ?_ | refine c7 ?_ | refine d2 ?_ | refine d1 ?_ | refine d4 ?_ | refine a5 (hk := ?_) | refine u8 (hk := ?_))
      refine ⟨m, by omega, _, _, i + 1, by omega, fun i' hi' => ?_, ex1 hE, get_old f0, at_mk ⟨rfl, rfl, rfl, rfl, rfl, incN (by omega), trivial⟩, (List.append_nil _).symm⟩
      by_cases he : i' = i
      · subst he
        have : k = i' := by omega
        subst this
        exact hno'
      · exact hno i' (by omega)
    | succ m' =>
      have hc1 : (k : Int) < (i : Int) := by omega
      have r1 := fun S => k_spec_RunOf ls ss (row2 k ls.length) S (by omega) (by omega) (by rw [hrl]; omega)
      have r2 := fun S => k_spec_RunOf ls ss (row2 i ls.length) S (by omega) (by omega) (by rw [hrl]; omega)
      have hk1 := hrs (row2 k ls.length)
      have hk2 := hrs (row2 i ls.length)
      have hD : foundAt ls ss vars h told (k, i) = (sameOn (row2 k ls.length) (row2 i ls.length) vars && (if told then !(runTo (runOf ls ss (row2 k ls.length)).ss h == runTo (runOf ls ss (row2 i ls.length)).ss h) else !(runSets (runOf ls ss (row2 k ls.length)).ws vars == runSets (runOf ls ss (row2 i ls.length)).ws vars))) := rfl
      have go : foundAt ls ss vars h told (k, i) = false → ∀ k', k' < k + 1 → foundAt ls ss vars h told (k', i) = false := fun hf k' hk' => by
        by_cases he : k' = k
        · subst he; exact hf
        · exact hno' k' (by omega)
      cases told with
      | true =>
        repeat' (first | refine c0 ?_ | refine c1 ?_ | refine c2 ?_ | refine c3 ?_ | refine c4 ?_ | refine c5 ?_ | refine c7 ?_ | refine d2 ?_ | refine c8 ?_ | refine c9 ?_ | refine d0 ?_ | refine d1 ?_ | refine d4 ?_ | refine d3' (h := ?_) | refine d4' ?_ | refine k0 (he := (by first | exact k_spec_l12Row _ _ _ (by omega) (by omega) | exact k_spec_l12Same _ _ _ _ (by rw [hrl]; omega) (by rw [hrl]; omega) (by omega) | exact r1 _ | exact r2 _ | exact k_spec_RunTo _ _ _ _ _ (by omega) | exact k_spec_l12Ints _ _ _ (by have := runTo_len (runOf ls ss (row2 k ls.length)).ss h; omega) (by have := runTo_len (runOf ls ss (row2 i ls.length)).ss h; omega))) (hk := ?_) | refine k0' (he := (by first | exact k_spec_l12Row _ _ _ (by omega) (by omega) | exact k_spec_l12Same _ _ _ _ (by rw [hrl]; omega) (by rw [hrl]; omega) (by omega) | exact r1 _ | exact r2 _ | exact k_spec_RunTo _ _ _ _ _ (by omega) | exact k_spec_l12Ints _ _ _ (by have := runTo_len (runOf ls ss (row2 k ls.length)).ss h; omega) (by have := runTo_len (runOf ls ss (row2 i ls.length)).ss h; omega))) (hk := ?_) | refine b0 (hk := ?_) | refine a5 (hk := ?_) | refine b5 (hk := ?_) | refine b7 (hk := ?_) | refine e0' (hk := ?_) | refine e1' (hk := ?_) | refine e2' (hk := ?_) | refine e4' (ht := ?_) (hf := ?_) | refine e5' (hk := ?_) | refine f5' (hk := ?_) | (with_reducible intro hc) | refine d6 (ht := ?_) | refine d7 (hf := ?_) | refine u7 (hk := ?_) | refine d9 (ht := ?_) (hf := ?_))
        · refine ⟨m', by omega, _, _, k + 1, by omega, go (by simp at hc; rw [hD, hc]; rfl), ex1 hE, get_old f0, at_mk ⟨rfl, rfl, rfl, rfl, rfl, rfl, incN (by omega), trivial⟩, (List.append_nil _).symm⟩
        · rename_i hs
          refine rVx hE (vs := [L (row2 k ls.length), L (row2 i ls.length), .bool true]) (v := .tup [L (row2 k ls.length), L (row2 i ls.length), .bool true]) (hv := ?_)
          rw [find_at (k := k) (i := i) (by omega) (by omega) hno hno' (by rw [hD]; clear hD go r1 r2; simp_all)]
          rfl
        · rename_i hs
          refine ⟨m', by omega, _, _, k + 1, by omega, go (by rw [hD]; clear hD go r1 r2; simp_all), ex1 hE, get_old f0, at_mk ⟨rfl, rfl, rfl, rfl, rfl, rfl, incN (by omega), trivial⟩, (List.append_nil _).symm⟩
      | false =>
        repeat' (first | refine c0 ?_ | refine c1 ?_ | refine c2 ?_ | refine c3 ?_ | refine c4 ?_ | refine c5 ?_ | refine c7 ?_ | refine d2 ?_ | refine c8 ?_ | refine c9 ?_ | refine d0 ?_ | refine d1 ?_ | refine d4 ?_ | refine d3' (h := ?_) | refine d4' ?_ | refine k0 (he := (by first | exact k_spec_l12Row _ _ _ (by omega) (by omega) | exact k_spec_l12Same _ _ _ _ (by rw [hrl]; omega) (by rw [hrl]; omega) (by omega) | exact r1 _ | exact r2 _ | exact k_spec_RunSets _ _ _ _ _ (by omega) (by omega) | exact k_spec_l12Writes _ _ _ (by have := runSets_len (runOf ls ss (row2 k ls.length)).ws vars; omega) (by have := runSets_len (runOf ls ss (row2 i ls.length)).ws vars; omega))) (hk := ?_) | refine k0' (he := (by first | exact k_spec_l12Row _ _ _ (by omega) (by omega) | exact k_spec_l12Same _ _ _ _ (by rw [hrl]; omega) (by rw [hrl]; omega) (by omega) | exact r1 _ | exact r2 _ | exact k_spec_RunSets _ _ _ _ _ (by omega) (by omega) | exact k_spec_l12Writes _ _ _ (by have := runSets_len (runOf ls ss (row2 k ls.length)).ws vars; omega) (by have := runSets_len (runOf ls ss (row2 i ls.length)).ws vars; omega))) (hk := ?_) | refine b0 (hk := ?_) | refine a5 (hk := ?_) | refine b5 (hk := ?_) | refine b7 (hk := ?_) | refine e0' (hk := ?_) | refine e1' (hk := ?_) | refine e2' (hk := ?_) | refine e5' (hk := ?_) | refine f5' (hk := ?_) | (with_reducible intro hc) | refine u7 (hk := ?_) | refine d9 (ht := ?_) (hf := ?_))
        · refine ⟨m', by omega, _, _, k + 1, by omega, go (by simp at hc; rw [hD, hc]; rfl), ex1 hE, get_old f0, at_mk ⟨rfl, rfl, rfl, rfl, rfl, rfl, incN (by omega), trivial⟩, (List.append_nil _).symm⟩
        · rename_i hs
          refine rVx hE (vs := [L (row2 k ls.length), L (row2 i ls.length), .bool true]) (v := .tup [L (row2 k ls.length), L (row2 i ls.length), .bool true]) (hv := ?_)
          rw [find_at (k := k) (i := i) (by omega) (by omega) hno hno' (by rw [hD]; clear hD go r1 r2; simp_all)]
          rfl
        · rename_i hs
          refine ⟨m', by omega, _, _, k + 1, by omega, go (by rw [hD]; clear hD go r1 r2; simp_all), ex1 hE, get_old f0, at_mk ⟨rfl, rfl, rfl, rfl, rfl, rfl, incN (by omega), trivial⟩, (List.append_nil _).symm⟩
end Go.Proofs.X
end
section
namespace Go.Proofs.X
open Go Go.Proofs.XVai Go.Proofs Go.Proofs.XN
set_option linter.unusedVariables false
set_option linter.unusedSimpArgs false
set_option maxHeartbeats 4000000

theorem k_spec_TypeKnows' {ls : List Lab} {ss : Stps} (h : Int) (S : St) (hok : progOk ls ss = true) : Ev Y spec_TypeKnows [PR ls ss, I h] S (BL (knowsOf ls h)) S := by
  obtain ⟨p1, p2, p3, p4⟩ := progOk_in hok
  have := k_spec_TypeKnows ls ss h S (by omega) (by omega)
  rwa [hok] at this
theorem k_spec_TypeTrusts' {ls : List Lab} {ss : Stps} (h : Int) (S : St) (hok : progOk ls ss = true) : Ev Y spec_TypeTrusts [PR ls ss, I h] S (BL (trustsOf ls h)) S := by
  obtain ⟨p1, p2, p3, p4⟩ := progOk_in hok
  have := k_spec_TypeTrusts ls ss h S (by omega) (by omega)
  rwa [hok] at this
theorem k_spec_LeakOf (ls : List Lab) (ss : Stps) (h : Int) (S : St) (hs : ss.sz ≤ 1048576) (hl : ls.length ≤ 1048576) : Ev Y spec_LeakOf [PR ls ss, I h] S (FND ls.length (leakOf ls ss h)) S := by
  by_cases hg : progOk ls ss = true ∧ inB h 0 2 = true
  · obtain ⟨hok, hin⟩ := hg
    have hno : (!progOk ls ss) = false := by rw [hok]; rfl
    have hni : (!inB h 0 2) = false := by rw [hin]; rfl
    have hq : leakOf ls ss h = (pairs (2 ^ ls.length)).find? (foundAt ls ss (knowsOf ls h) h true) := by simp only [leakOf, hok, hin, Bool.and_self, if_true]; rfl
    have fd := fun S => k_spec_l12Find ls ss (knowsOf ls h) h true S hok (by simp [knowsOf])
    rw [← hq] at fd
    cases hr : leakOf ls ss h with
    | none =>
      rw [hr] at fd
      refine E_start (h := ?_)
      repeat' (first | refine c0 ?_ | refine c7 ?_ | refine d2 ?_ | refine c9 ?_ | refine d0 ?_ | refine d4 ?_ | refine d3' (h := ?_) | refine d4' ?_ | refine k0 (he := (by first | exact k_spec_ProgOk _ _ _ hs hl | exact k_spec_l6In _ _ _ _ | exact k_spec_TypeKnows' _ _ hok | exact fd _)) (hk := ?_) | refine k0' (he := (by first | exact k_spec_ProgOk _ _ _ hs hl | exact k_spec_l6In _ _ _ _ | exact k_spec_TypeKnows' _ _ hok | exact fd _)) (hk := ?_) | refine b1 (hk := ?_) | refine b3 (hk := ?_) | refine u2 (hk := ?_) | refine a5 (hk := ?_) | refine b5 (hk := ?_) | refine e5' (hk := ?_) | refine f5' (hk := ?_) | refine u6 (hk := ?_))
      exact rV (vs := [L [], L [], .bool false]) (v := .tup [L [], L [], .bool false])
    | some p =>
      obtain ⟨k, i⟩ := p
      rw [hr] at fd
      refine E_start (h := ?_)
      repeat' (first | refine c0 ?_ | refine c7 ?_ | refine d2 ?_ | refine c9 ?_ | refine d0 ?_ | refine d4 ?_ | refine d3' (h := ?_) | refine d4' ?_ | refine k0 (he := (by first | exact k_spec_ProgOk _ _ _ hs hl | exact k_spec_l6In _ _ _ _ | exact k_spec_TypeKnows' _ _ hok | exact fd _)) (hk := ?_) | refine k0' (he := (by first | exact k_spec_ProgOk _ _ _ hs hl | exact k_spec_l6In _ _ _ _ | exact k_spec_TypeKnows' _ _ hok | exact fd _)) (hk := ?_) | refine b1 (hk := ?_) | refine b3 (hk := ?_) | refine u2 (hk := ?_) | refine a5 (hk := ?_) | refine b5 (hk := ?_) | refine e5' (hk := ?_) | refine f5' (hk := ?_) | refine u6 (hk := ?_))
      exact rV (vs := [L (row2 k ls.length), L (row2 i ls.length), .bool true]) (v := .tup [L (row2 k ls.length), L (row2 i ls.length), .bool true])
  · have hq : leakOf ls ss h = none := by
      unfold leakOf
      rw [if_neg (by simpa using hg)]
    rw [hq]
    refine E_start (h := ?_)
    by_cases hok : progOk ls ss = true
    · have hno : (!progOk ls ss) = false := by rw [hok]; rfl
      have hni : (!inB h 0 2) = true := by simpa [hok] using hg
      repeat' (first | refine c0 ?_ | refine c1 ?_ | refine c7 ?_ | refine d2 ?_ | refine c9 ?_ | refine d4 ?_ | refine k0 (he := (by first | exact k_spec_ProgOk _ _ _ hs hl | exact k_spec_l6In _ _ _ _)) (hk := ?_) | refine b1 (hk := ?_) | refine b3 (hk := ?_) | refine b4 (hk := ?_) | refine u2 (hk := ?_) | refine a5 (hk := ?_) | refine b5 (hk := ?_) | refine u5 (hk := ?_))
      all_goals exact rG (vs := [.sl (S.length + 3) 0, .sl (S.length + 4) 0, .bool false]) (v := .tup [.lst [], .lst [], .bool false]) (hz := frzR_tup (fmS (fzV_sl rfl (by omega) (get_own rfl) rfl rfl) (fmS (fzV_sl rfl (by omega) (get_own rfl) rfl rfl) (fmS rfl fm0)))) (hl := by simp) (ho := fun j hj => by rw [List.getElem?_append_left hj])
    · have hno : (!progOk ls ss) = true := by simpa using hok
      repeat' (first | refine c0 ?_ | refine c1 ?_ | refine c7 ?_ | refine d2 ?_ | refine c9 ?_ | refine d4 ?_ | refine a0 (hk := ?_) | refine k0 (he := (by first | exact k_spec_ProgOk _ _ _ hs hl | exact k_spec_l6In _ _ _ _)) (hk := ?_) | refine b1 (hk := ?_) | refine b3 (hk := ?_) | refine b4 (hk := ?_) | refine u1 (hk := ?_) | refine a5 (hk := ?_) | refine b5 (hk := ?_) | refine d6 (ht := ?_))
      all_goals exact rG (vs := [.sl (S.length + 3) 0, .sl (S.length + 4) 0, .bool false]) (v := .tup [.lst [], .lst [], .bool false]) (hz := frzR_tup (fmS (fzV_sl rfl (by omega) (get_own rfl) rfl rfl) (fmS (fzV_sl rfl (by omega) (get_own rfl) rfl rfl) (fmS rfl fm0)))) (hl := by simp) (ho := fun j hj => by rw [List.getElem?_append_left hj])
theorem k_spec_SwayOf (ls : List Lab) (ss : Stps) (h : Int) (S : St) (hs : ss.sz ≤ 1048576) (hl : ls.length ≤ 1048576) : Ev Y spec_SwayOf [PR ls ss, I h] S (FND ls.length (swayOf ls ss h)) S := by
  by_cases hg : progOk ls ss = true ∧ inB h 0 2 = true
  · obtain ⟨hok, hin⟩ := hg
    have hno : (!progOk ls ss) = false := by rw [hok]; rfl
    have hni : (!inB h 0 2) = false := by rw [hin]; rfl
    have hq : swayOf ls ss h = (pairs (2 ^ ls.length)).find? (foundAt ls ss (trustsOf ls h) h false) := by simp only [swayOf, hok, hin, Bool.and_self, if_true]; rfl
    have fd := fun S => k_spec_l12Find ls ss (trustsOf ls h) h false S hok (by simp [trustsOf])
    rw [← hq] at fd
    cases hr : swayOf ls ss h with
    | none =>
      rw [hr] at fd
      refine E_start (h := ?_)
      repeat' (first | refine c0 ?_ | refine c7 ?_ | refine d2 ?_ | refine c9 ?_ | refine d0 ?_ | refine d4 ?_ | refine d3' (h := ?_) | refine d4' ?_ | refine k0 (he := (by first | exact k_spec_ProgOk _ _ _ hs hl | exact k_spec_l6In _ _ _ _ | exact k_spec_TypeTrusts' _ _ hok | exact fd _)) (hk := ?_) | refine k0' (he := (by first | exact k_spec_ProgOk _ _ _ hs hl | exact k_spec_l6In _ _ _ _ | exact k_spec_TypeTrusts' _ _ hok | exact fd _)) (hk := ?_) | refine b1 (hk := ?_) | refine b3 (hk := ?_) | refine u2 (hk := ?_) | refine a5 (hk := ?_) | refine b5 (hk := ?_) | refine e5' (hk := ?_) | refine f5' (hk := ?_) | refine u6 (hk := ?_))
      exact rV (vs := [L [], L [], .bool false]) (v := .tup [L [], L [], .bool false])
    | some p =>
      obtain ⟨k, i⟩ := p
      rw [hr] at fd
      refine E_start (h := ?_)
      repeat' (first | refine c0 ?_ | refine c7 ?_ | refine d2 ?_ | refine c9 ?_ | refine d0 ?_ | refine d4 ?_ | refine d3' (h := ?_) | refine d4' ?_ | refine k0 (he := (by first | exact k_spec_ProgOk _ _ _ hs hl | exact k_spec_l6In _ _ _ _ | exact k_spec_TypeTrusts' _ _ hok | exact fd _)) (hk := ?_) | refine k0' (he := (by first | exact k_spec_ProgOk _ _ _ hs hl | exact k_spec_l6In _ _ _ _ | exact k_spec_TypeTrusts' _ _ hok | exact fd _)) (hk := ?_) | refine b1 (hk := ?_) | refine b3 (hk := ?_) | refine u2 (hk := ?_) | refine a5 (hk := ?_) | refine b5 (hk := ?_) | refine e5' (hk := ?_) | refine f5' (hk := ?_) | refine u6 (hk := ?_))
      exact rV (vs := [L (row2 k ls.length), L (row2 i ls.length), .bool true]) (v := .tup [L (row2 k ls.length), L (row2 i ls.length), .bool true])
  · have hq : swayOf ls ss h = none := by
      unfold swayOf
      rw [if_neg (by simpa using hg)]
    rw [hq]
    refine E_start (h := ?_)
    by_cases hok : progOk ls ss = true
    · have hno : (!progOk ls ss) = false := by rw [hok]; rfl
      have hni : (!inB h 0 2) = true := by simpa [hok] using hg
      repeat' (first | refine c0 ?_ | refine c1 ?_ | refine c7 ?_ | refine d2 ?_ | refine c9 ?_ | refine d4 ?_ | refine k0 (he := (by first | exact k_spec_ProgOk _ _ _ hs hl | exact k_spec_l6In _ _ _ _)) (hk := ?_) | refine b1 (hk := ?_) | refine b3 (hk := ?_) | refine b4 (hk := ?_) | refine u2 (hk := ?_) | refine a5 (hk := ?_) | refine b5 (hk := ?_) | refine u5 (hk := ?_))
      all_goals exact rG (vs := [.sl (S.length + 3) 0, .sl (S.length + 4) 0, .bool false]) (v := .tup [.lst [], .lst [], .bool false]) (hz := frzR_tup (fmS (fzV_sl rfl (by omega) (get_own rfl) rfl rfl) (fmS (fzV_sl rfl (by omega) (get_own rfl) rfl rfl) (fmS rfl fm0)))) (hl := by simp) (ho := fun j hj => by rw [List.getElem?_append_left hj])
    · have hno : (!progOk ls ss) = true := by simpa using hok
      repeat' (first | refine c0 ?_ | refine c1 ?_ | refine c7 ?_ | refine d2 ?_ | refine c9 ?_ | refine d4 ?_ | refine a0 (hk := ?_) | refine k0 (he := (by first | exact k_spec_ProgOk _ _ _ hs hl | exact k_spec_l6In _ _ _ _)) (hk := ?_) | refine b1 (hk := ?_) | refine b3 (hk := ?_) | refine b4 (hk := ?_) | refine u1 (hk := ?_) | refine a5 (hk := ?_) | refine b5 (hk := ?_) | refine d6 (ht := ?_))
      all_goals exact rG (vs := [.sl (S.length + 3) 0, .sl (S.length + 4) 0, .bool false]) (v := .tup [.lst [], .lst [], .bool false]) (hz := frzR_tup (fmS (fzV_sl rfl (by omega) (get_own rfl) rfl rfl) (fmS (fzV_sl rfl (by omega) (get_own rfl) rfl rfl) (fmS rfl fm0)))) (hl := by simp) (ho := fun j hj => by rw [List.getElem?_append_left hj])
end Go.Proofs.X
end
section
namespace Go.Proofs.X
open Go Go.Proofs.XVai Go.Proofs Go.Proofs.XN
set_option linter.unusedVariables false
set_option linter.unusedSimpArgs false
set_option maxHeartbeats 4000000
set_option maxRecDepth 100000

/-- The number of a row of bits. -/
def mk : List Bool → Nat
  | [] => 0
  | b :: bs => (if b then 1 else 0) + 2 * mk bs
theorem mk_app (a : List Bool) (b : Bool) : mk (a ++ [b]) = mk a + (if b then 2 ^ a.length else 0) := by
  induction a with
  | nil => cases b <;> rfl
  | cons x a ih =>
    rw [List.cons_append, mk, ih, mk, List.length_cons, Nat.pow_succ]
    cases b <;> simp <;> omega
theorem mk_lt (a : List Bool) : mk a < 2 ^ a.length := by
  induction a with
  | nil => decide
  | cons x a ih =>
    rw [mk, List.length_cons, Nat.pow_succ]
    cases x <;> simp <;> omega
abbrev orI (a b : Int) : Int := IntKind.i64.wrap (BitVec.ofInt IntKind.i64.bits a ||| BitVec.ofInt IntKind.i64.bits b).toNat
abbrev xorMask (f s m : Int) : Int := IntKind.i64.wrap (BitVec.ofInt IntKind.i64.bits (IntKind.i64.wrap (BitVec.ofInt IntKind.i64.bits f ^^^ BitVec.ofInt IntKind.i64.bits s).toNat) &&& BitVec.ofInt IntKind.i64.bits m).toNat
theorem or_bit : ∀ n : Nat, n < 4 → ∀ m : Nat, m < 2 ^ n → orI (m : Int) (IntKind.i64.wrap (1 * 2 ^ min (Int.toNat (n : Int)) IntKind.i64.bits)) = ((m + 2 ^ n : Nat) : Int) := by decide +kernel
theorem xm0 : ∀ f, f < 1 → ∀ s, s < 1 → (xorMask (f : Nat) (s : Nat) (mk [] : Nat) != 0) = !sameOn (row2 f 0) (row2 s 0) [] := by decide +kernel
theorem xm1 : ∀ a : Bool, ∀ f, f < 2 → ∀ s, s < 2 → (xorMask (f : Nat) (s : Nat) (mk [a] : Nat) != 0) = !sameOn (row2 f 1) (row2 s 1) [a] := by decide +kernel
theorem xm2 : ∀ a b : Bool, ∀ f, f < 4 → ∀ s, s < 4 → (xorMask (f : Nat) (s : Nat) (mk [a, b] : Nat) != 0) = !sameOn (row2 f 2) (row2 s 2) [a, b] := by decide +kernel
theorem xm3 : ∀ a b c : Bool, ∀ f, f < 8 → ∀ s, s < 8 → (xorMask (f : Nat) (s : Nat) (mk [a, b, c] : Nat) != 0) = !sameOn (row2 f 3) (row2 s 3) [a, b, c] := by decide +kernel
theorem xm4 : ∀ a b c d : Bool, ∀ f, f < 16 → ∀ s, s < 16 → (xorMask (f : Nat) (s : Nat) (mk [a, b, c, d] : Nat) != 0) = !sameOn (row2 f 4) (row2 s 4) [a, b, c, d] := by decide +kernel
theorem xm {vars : List Bool} {n f s : Nat} (hn : vars.length = n) (h4 : n ≤ 4) (hf : f < 2 ^ n) (hs : s < 2 ^ n) : (xorMask (f : Nat) (s : Nat) (mk vars : Nat) != 0) = !sameOn (row2 f n) (row2 s n) vars := by
  subst hn
  match vars, h4 with
  | [], _ => exact xm0 f hf s hs
  | [a], _ => exact xm1 a f hf s hs
  | [a, b], _ => exact xm2 a b f hf s hs
  | [a, b, c], _ => exact xm3 a b c f hf s hs
  | [a, b, c, d], _ => exact xm4 a b c d f hf s hs
  | _ :: _ :: _ :: _ :: _ :: _, h => simp at h
def pairAt (ls : List Lab) (ss : Stps) (vars : List Bool) (dif : Rn → Rn → Bool) (p : Nat × Nat) : Bool :=
  sameOn (row2 p.1 ls.length) (row2 p.2 ls.length) vars && dif (runOf ls ss (row2 p.1 ls.length)) (runOf ls ss (row2 p.2 ls.length))
theorem k_impl_pair (ls : List Lab) (ss : Stps) (vars : List Bool) (g : Nat) (cap : HV) (q : Nat) (o : Ob) (dif : Rn → Rn → Bool) (S : St) (hok : progOk ls ss = true) (hv : vars.length = ls.length) (hg : Y.byref g = false) (hS : S[q]? = some o)
    (hd : ∀ (ra rb : Rn) (S' : St), ra.ws.length ≤ 8 → ra.ss.length ≤ 8 → rb.ws.length ≤ 8 → rb.ss.length ≤ 8 → S'[q]? = some o → Ev Y g [RN ra.nums ra.ws ra.ss, RN rb.nums rb.ws rb.ss, cap] S' (.bool (dif ra rb)) S') :
    Ev Y impl_pair [PR ls ss, BL vars, .fn g [cap]] S (FND ls.length ((pairs (2 ^ ls.length)).find? (pairAt ls ss vars dif))) S := by
  obtain ⟨p1, p2, p3, p4⟩ := progOk_in hok
  have hsh := shl4 p1
  have hp4 := pow4 p1
  have hrs := fun a => runOf_sz hok a
  have hrl := fun m => row2_len m ls.length
  have hql : q < S.length := (List.getElem?_eq_some_iff.1 hS).1
  refine E_start (h := ?_)
  repeat' (first | refine c0 ?_ | refine c7 ?_ | refine d2 ?_ | refine c8 ?_ | refine d4 ?_ | refine b1 (hk := ?_) | refine b3 (hk := ?_) | refine a5 (hk := ?_) | refine b5 (hk := ?_))
  refine C_list vars (fun pre r T' S' => ∃ (T0 : Tm) (S1 : St), Ext S S1 ∧ S1[S.length + 0]? = some (.cells false [[LS ls, .lst ss.rows]]) ∧
      T' = putL T0 [(2, .fn g [cap]), (3, .ptr (S.length + 0) 1 0 0), (9, I ls.length), (10, I (mk pre : Nat)), (22, BL vars), (23, I vars.length), (24, I pre.length)] ∧ S' = S1 ++ [])
    ⟨_, _, ex0, get_own rfl, at_mk ⟨rfl, rfl, by show HV.int _ _ = _; simp, rfl, rfl, by show HV.int _ _ = _; simp, rfl, trivial⟩, (List.append_nil _).symm⟩ ?_ ?_
  · rintro pre x r T' S' hx ⟨T0, S1, hE, f0, rfl, rfl⟩
    have hg := mid hx
    have hlt := mid_lt hx
    have hc0 : (pre.length : Int) < (vars.length : Int) := by omega
    have hor := or_bit pre.length (by omega) (mk pre) (mk_lt pre)
    cases x with
    | true =>
      repeat' (first | refine c0 ?_ | refine c3 ?_ | refine c7 ?_ | refine d2 ?_ | refine c8 ?_ | refine d0 ?_ | refine d4 ?_ | refine a1 (hk := ?_) | refine a5 (hk := ?_) | refine b6 (hk := ?_) | refine b8 (hk := ?_) | refine d6 (ht := ?_) | refine u7 (hk := ?_))
      refine ⟨_, _, ex1 hE, get_old f0, at_mk ⟨rfl, rfl, rfl, ?_, rfl, rfl, inc (by omega), trivial⟩, (List.append_nil _).symm⟩
      show HV.int .i64 (orI _ _) = _
      rw [hor, mk_app]; rfl
    | false =>
      repeat' (first | refine c0 ?_ | refine c3 ?_ | refine c7 ?_ | refine d2 ?_ | refine c8 ?_ | refine d0 ?_ | refine d4 ?_ | refine a2 (hk := ?_) | refine a5 (hk := ?_) | refine b6 (hk := ?_) | refine b8 (hk := ?_) | refine d7 (hf := ?_) | refine u7 (hk := ?_))
      refine ⟨_, _, ex1 hE, get_old f0, at_mk ⟨rfl, rfl, rfl, ?_, rfl, rfl, inc (by omega), trivial⟩, (List.append_nil _).symm⟩
      rw [mk_app]; rfl
  · rintro T' S' ⟨T0, S1, hE, f0, rfl, rfl⟩
    have hc0 : ¬ ((vars.length : Int) < (vars.length : Int)) := by omega
    repeat' (first | refine c0 ?_ | refine c2 ?_ | refine c5 ?_ | refine c7 ?_ | refine d2 ?_ | refine c8 ?_ | refine d1 ?_ | refine d4 ?_ | refine a5 (hk := ?_) | refine u8 (hk := ?_))
    refine C_loop (fun m T' S' => ∃ (T0 : Tm) (S1 : St) (i : Nat), i + m = 2 ^ ls.length ∧ (∀ i', i' < i → ∀ k', k' < i' → pairAt ls ss vars dif (k', i') = false) ∧ Ext S S1 ∧ S1[S.length + 0]? = some (.cells false [[LS ls, .lst ss.rows]]) ∧
        T' = putL T0 [(2, .fn g [cap]), (3, .ptr (S.length + 0) 1 0 0), (9, I ls.length), (10, I (mk vars : Nat)), (36, I ((2 ^ ls.length : Nat) : Int)), (37, I i)] ∧ S' = S1 ++ []) (2 ^ ls.length)
      ⟨_, _, 0, by omega, by omega, ex1 hE, get_old f0, at_mk ⟨rfl, rfl, rfl, rfl, by show HV.int _ (IntKind.i64.wrap _) = _; rw [hsh], rfl, trivial⟩, (List.append_nil _).symm⟩ ?_
    clear hE f0 S1 T0
    rintro m T' S' ⟨T0, S1, i, hm, hno, hE, f0, rfl, rfl⟩
    cases m with
    | zero =>
      have hc0 : ¬ ((i : Int) < ((2 ^ ls.length : Nat) : Int)) := by omega
      repeat' (first | refine c0 ?_ | refine c2 ?_ | refine c5 ?_ | refine c7 ?_ | refine d2 ?_ | refine c9 ?_ | refine d1 ?_ | refine d4 ?_ | refine b3 (hk := ?_) | refine a5 (hk := ?_) | refine u8 (hk := ?_))
      refine rG (vs := [.sl (S1.length + 0) 0, .sl (S1.length + 1) 0, .bool false]) (v := .tup [.lst [], .lst [], .bool false]) (hz := frzR_tup (fmS (fzV_sl rfl (by have := hE.le; omega) (get_own rfl) rfl rfl) (fmS (fzV_sl rfl (by have := hE.le; omega) (get_own rfl) rfl rfl) (fmS rfl fm0)))) (hl := by have := hE.le; simp; omega) (ho := fun j hj => by rw [List.getElem?_append_left (by have := hE.le; omega), hE.old hj]) (hv := ?_)
      rw [find_no (by have : i = 2 ^ ls.length := by omega
                      rw [← this]; exact hno)]
      rfl
    | succ m =>
      have hc0 : (i : Int) < ((2 ^ ls.length : Nat) : Int) := by omega
      repeat' (first | refine c0 ?_ | refine c7 ?_ | refine d2 ?_ | refine c8 ?_ | refine d0 ?_ | refine d4 ?_ | refine a5 (hk := ?_) | refine u7 (hk := ?_))
      refine C_loop (fun m' T' S' => ∃ (T0 : Tm) (S1 : St) (k : Nat), k + m' = i ∧ (∀ k', k' < k → pairAt ls ss vars dif (k', i) = false) ∧ Ext S S1 ∧ S1[S.length + 0]? = some (.cells false [[LS ls, .lst ss.rows]]) ∧
          T' = putL T0 [(2, .fn g [cap]), (3, .ptr (S.length + 0) 1 0 0), (9, I ls.length), (10, I (mk vars : Nat)), (13, I i), (36, I ((2 ^ ls.length : Nat) : Int)), (37, I i), (40, I i), (41, I k)] ∧ S' = S1 ++ []) i
        ⟨_, _, 0, by omega, by omega, ex1 hE, get_old f0, at_mk ⟨rfl, rfl, rfl, rfl, rfl, rfl, rfl, rfl, rfl, trivial⟩, (List.append_nil _).symm⟩ ?_
      clear hE f0 S1 T0
      rintro m' T' S' ⟨T0, S1, k, hm', hno', hE, f0, rfl, rfl⟩
      cases m' with
      | zero =>
        have hc1 : ¬ ((k : Int) < (i : Int)) := by omega
        repeat' (first | refine c0 ?_ | refine c2 ?_ | refine c3 ?_ | refine c5 ?_ | refine c7 ?_ | refine d2 ?_ | refine d1 ?_ | refine d4 ?_ | refine a5 (hk := ?_) | refine u8 (hk := ?_))
        refine ⟨m, by omega, _, _, i + 1, by omega, fun i' hi' => ?_, ex1 hE, get_old f0, at_mk ⟨rfl, rfl, rfl, rfl, rfl, incN (by omega), trivial⟩, (List.append_nil _).symm⟩
        by_cases he : i' = i
        · subst he
          have : k = i' := by omega
          subst this
          exact hno'
        · exact hno i' (by omega)
      | succ m' =>
        have hc1 : (k : Int) < (i : Int) := by omega
        have r1 := fun S => k_impl_RunOf ls ss (row2 k ls.length) S (by omega) (by omega) (by rw [hrl]; omega)
        have r2 := fun S => k_impl_RunOf ls ss (row2 i ls.length) S (by omega) (by omega) (by rw [hrl]; omega)
        have hk1 := hrs (row2 k ls.length)
        have hk2 := hrs (row2 i ls.length)
        have hD : pairAt ls ss vars dif (k, i) = (sameOn (row2 k ls.length) (row2 i ls.length) vars && dif (runOf ls ss (row2 k ls.length)) (runOf ls ss (row2 i ls.length))) := rfl
        have hxm := xm hv p1 (f := k) (s := i) (by omega) (by omega)
        have go : pairAt ls ss vars dif (k, i) = false → ∀ k', k' < k + 1 → pairAt ls ss vars dif (k', i) = false := fun hf k' hk' => by
          by_cases he : k' = k
          · subst he; exact hf
          · exact hno' k' (by omega)
        have hq1 : S1[q]? = some o := by rw [hE.old hql, hS]
        cases hsm : sameOn (row2 k ls.length) (row2 i ls.length) vars with
        | false =>
          have hcc : (xorMask (k : Nat) (i : Nat) (mk vars : Nat) != 0) = true := by rw [hxm, hsm]; rfl
          repeat' (first | refine c0 ?_ | refine c2 ?_ | refine c5 ?_ | refine c7 ?_ | refine d2 ?_ | refine c8 ?_ | refine d0 ?_ | refine d1 ?_ | refine d4 ?_ | refine a5 (hk := ?_) | refine u5 (hk := ?_) | refine u7 (hk := ?_))
          exact ⟨m', by omega, _, _, k + 1, by omega, go (by rw [hD, hsm]; rfl), ex1 hE, get_old f0, at_mk ⟨rfl, rfl, rfl, rfl, rfl, rfl, rfl, rfl, incN (by omega), trivial⟩, (List.append_nil _).symm⟩
        | true =>
          have hcc : (xorMask (k : Nat) (i : Nat) (mk vars : Nat) != 0) = false := by rw [hxm, hsm]; rfl
          have hdd := fun L' => hd (runOf ls ss (row2 k ls.length)) (runOf ls ss (row2 i ls.length)) (S1 ++ L') (by omega) (by omega) (by omega) (by omega) (get_old hq1)
          repeat' (first | refine c0 ?_ | refine c1 ?_ | refine c3 ?_ | refine c4 ?_ | refine c7 ?_ | refine d2 ?_ | refine c8 ?_ | refine c9 ?_ | refine d0 ?_ | refine d4 ?_ | refine d3' (h := ?_) | refine d4' ?_ | refine k0 (he := (by first | exact k_impl_row _ _ _ (by omega) (by omega) | exact r1 _ | exact r2 _ | exact hdd _)) (hk := ?_) | refine k0' (he := (by first | exact k_impl_row _ _ _ (by omega) (by omega) | exact r1 _ | exact r2 _ | exact hdd _)) (hk := ?_) | refine a5 (hk := ?_) | refine b5 (hk := ?_) | refine b0' (hk := ?_) | refine e5' (hk := ?_) | refine f5' (hk := ?_) | refine b7' (hk := ?_) | (with_reducible intro hc) | refine u6 (hk := ?_) | refine u7 (hk := ?_) | refine d9 (ht := ?_) (hf := ?_))
          · refine rVx hE (vs := [L (row2 k ls.length), L (row2 i ls.length), .bool true]) (v := .tup [L (row2 k ls.length), L (row2 i ls.length), .bool true]) (hv := ?_)
            rw [find_at (k := k) (i := i) (by omega) (by omega) hno hno' (by rw [hD, hsm, hc]; rfl)]
            rfl
          · exact ⟨m', by omega, _, _, k + 1, by omega, go (by rw [hD, hsm, hc]; rfl), ex1 hE, get_old f0, at_mk ⟨rfl, rfl, rfl, rfl, rfl, rfl, rfl, rfl, incN (by omega), trivial⟩, (List.append_nil _).symm⟩
end Go.Proofs.X
end
section
namespace Go.Proofs.X
open Go Go.Proofs.XVai Go.Proofs Go.Proofs.XN
set_option linter.unusedVariables false
set_option linter.unusedSimpArgs false
set_option maxHeartbeats 4000000
set_option maxRecDepth 100000

theorem k_impl_LeakOf_1 (ra rb : Rn) (h : Int) (q : Nat) (S : St) (h1 : ra.ss.length ≤ 8) (h2 : rb.ss.length ≤ 8) (hq : S[q]? = some (.cells false [[I h]])) : Ev Y impl_LeakOf_1 [RN ra.nums ra.ws ra.ss, RN rb.nums rb.ws rb.ss, .ptr q 1 0 0] S (.bool !(runTo ra.ss h == runTo rb.ss h)) S := by
  have a1 := runTo_len ra.ss h
  have a2 := runTo_len rb.ss h
  refine E_start (h := ?_)
  repeat' (first | refine c0 ?_ | refine c7 ?_ | refine d2 ?_ | refine c9 ?_ | refine d4 ?_ | refine d3' (h := ?_) | refine d4' ?_ | refine k0' (he := (by first | exact k_impl_RunTo _ _ _ _ _ (by omega) | exact k_Equal_int _ _ _ (by omega) (by omega))) (hk := ?_) | refine b1 (hk := ?_) | refine a5 (hk := ?_) | refine e5' (hk := ?_) | refine f5' (hk := ?_))
  exact rB (hv := rfl)
theorem k_impl_SwayOf_1 (ra rb : Rn) (vars : List Bool) (q : Nat) (S : St) (h1 : ra.ws.length ≤ 8) (h2 : rb.ws.length ≤ 8) (hv : vars.length ≤ 1048576) (hq : S[q]? = some (.cells false [[BL vars]])) : Ev Y impl_SwayOf_1 [RN ra.nums ra.ws ra.ss, RN rb.nums rb.ws rb.ss, .ptr q 1 0 0] S (.bool !(runSets ra.ws vars == runSets rb.ws vars)) S := by
  have a1 := runSets_len ra.ws vars
  have a2 := runSets_len rb.ws vars
  refine E_start (h := ?_)
  repeat' (first | refine c0 ?_ | refine c7 ?_ | refine d2 ?_ | refine c9 ?_ | refine d4 ?_ | refine d3' (h := ?_) | refine d4' ?_ | refine k0' (he := (by first | exact k_impl_RunSets _ _ _ _ _ (by omega) hv | exact k_Equal_Write _ _ _ (by omega) (by omega))) (hk := ?_) | refine b1 (hk := ?_) | refine a5 (hk := ?_) | refine e5' (hk := ?_) | refine f5' (hk := ?_))
  exact rB (hv := rfl)
theorem k_impl_TypeKnows' {ls : List Lab} {ss : Stps} (h : Int) (S : St) (hok : progOk ls ss = true) : Ev Y impl_TypeKnows [PR ls ss, I h] S (BL (knowsOf ls h)) S := by
  obtain ⟨p1, p2, p3, p4⟩ := progOk_in hok
  have := k_impl_TypeKnows ls ss h S (by omega) (by omega)
  rwa [hok] at this
theorem k_impl_TypeTrusts' {ls : List Lab} {ss : Stps} (h : Int) (S : St) (hok : progOk ls ss = true) : Ev Y impl_TypeTrusts [PR ls ss, I h] S (BL (trustsOf ls h)) S := by
  obtain ⟨p1, p2, p3, p4⟩ := progOk_in hok
  have := k_impl_TypeTrusts ls ss h S (by omega) (by omega)
  rwa [hok] at this
theorem k_impl_LeakOf (ls : List Lab) (ss : Stps) (h : Int) (S : St) (hs : ss.sz ≤ 1048576) (hl : ls.length ≤ 1048576) : Ev Y impl_LeakOf [PR ls ss, I h] S (FND ls.length (leakOf ls ss h)) S := by
  by_cases hg : progOk ls ss = true ∧ inB h 0 2 = true
  · obtain ⟨hok, hin⟩ := hg
    have hno : (!progOk ls ss) = false := by rw [hok]; rfl
    have hni : (!inB h 0 2) = false := by rw [hin]; rfl
    have hq : leakOf ls ss h = (pairs (2 ^ ls.length)).find? (pairAt ls ss (knowsOf ls h) fun ra rb => !(runTo ra.ss h == runTo rb.ss h)) := by simp only [leakOf, hok, hin, Bool.and_self, if_true]; rfl
    have fd := fun (q : Nat) (S : St) (hS : S[q]? = some (.cells false [[I h]])) => k_impl_pair ls ss (knowsOf ls h) impl_LeakOf_1 (.ptr q 1 0 0) q (.cells false [[I h]]) (fun ra rb => !(runTo ra.ss h == runTo rb.ss h)) S hok (by simp [knowsOf]) rfl hS (fun ra rb S' a b c d e => k_impl_LeakOf_1 ra rb h q S' b d e)
    rw [← hq] at fd
    cases hr : leakOf ls ss h with
    | none =>
      rw [hr] at fd
      refine E_start (h := ?_)
      repeat' (first | refine c0 ?_ | refine c7 ?_ | refine d2 ?_ | refine c9 ?_ | refine d0 ?_ | refine d4 ?_ | refine d3' (h := ?_) | refine d4' ?_ | refine k0 (he := (by first | exact k_impl_ProgOk _ _ _ hs hl | exact k_impl_isHost _ _ | exact k_impl_TypeKnows' _ _ hok | exact fd _ _ (get_own rfl))) (hk := ?_) | refine k0' (he := (by first | exact k_impl_ProgOk _ _ _ hs hl | exact k_impl_isHost _ _ | exact k_impl_TypeKnows' _ _ hok | exact fd _ _ (get_own rfl))) (hk := ?_) | refine b1 (hk := ?_) | refine b3 (hk := ?_) | refine u2 (hk := ?_) | refine a5 (hk := ?_) | refine b5 (hk := ?_) | refine e5' (hk := ?_) | refine f5' (hk := ?_) | refine u6 (hk := ?_))
      exact rV (vs := [L [], L [], .bool false]) (v := .tup [L [], L [], .bool false])
    | some p =>
      obtain ⟨k, i⟩ := p
      rw [hr] at fd
      refine E_start (h := ?_)
      repeat' (first | refine c0 ?_ | refine c7 ?_ | refine d2 ?_ | refine c9 ?_ | refine d0 ?_ | refine d4 ?_ | refine d3' (h := ?_) | refine d4' ?_ | refine k0 (he := (by first | exact k_impl_ProgOk _ _ _ hs hl | exact k_impl_isHost _ _ | exact k_impl_TypeKnows' _ _ hok | exact fd _ _ (get_own rfl))) (hk := ?_) | refine k0' (he := (by first | exact k_impl_ProgOk _ _ _ hs hl | exact k_impl_isHost _ _ | exact k_impl_TypeKnows' _ _ hok | exact fd _ _ (get_own rfl))) (hk := ?_) | refine b1 (hk := ?_) | refine b3 (hk := ?_) | refine u2 (hk := ?_) | refine a5 (hk := ?_) | refine b5 (hk := ?_) | refine e5' (hk := ?_) | refine f5' (hk := ?_) | refine u6 (hk := ?_))
      exact rV (vs := [L (row2 k ls.length), L (row2 i ls.length), .bool true]) (v := .tup [L (row2 k ls.length), L (row2 i ls.length), .bool true])
  · have hq : leakOf ls ss h = none := by
      unfold leakOf
      rw [if_neg (by simpa using hg)]
    rw [hq]
    refine E_start (h := ?_)
    by_cases hok : progOk ls ss = true
    · have hno : (!progOk ls ss) = false := by rw [hok]; rfl
      have hni : (!inB h 0 2) = true := by simpa [hok] using hg
      repeat' (first | refine c0 ?_ | refine c1 ?_ | refine c7 ?_ | refine d2 ?_ | refine c9 ?_ | refine d4 ?_ | refine k0 (he := (by first | exact k_impl_ProgOk _ _ _ hs hl | exact k_impl_isHost _ _)) (hk := ?_) | refine b1 (hk := ?_) | refine b3 (hk := ?_) | refine u2 (hk := ?_) | refine a5 (hk := ?_) | refine b5 (hk := ?_) | refine u5 (hk := ?_))
      all_goals exact rG (vs := [.sl (S.length + 4) 0, .sl (S.length + 5) 0, .bool false]) (v := .tup [.lst [], .lst [], .bool false]) (hz := frzR_tup (fmS (fzV_sl rfl (by omega) (get_own rfl) rfl rfl) (fmS (fzV_sl rfl (by omega) (get_own rfl) rfl rfl) (fmS rfl fm0)))) (hl := by simp) (ho := fun j hj => by rw [List.getElem?_append_left hj])
    · have hno : (!progOk ls ss) = true := by simpa using hok
      repeat' (first | refine c0 ?_ | refine c1 ?_ | refine c7 ?_ | refine d2 ?_ | refine c9 ?_ | refine d4 ?_ | refine a0 (hk := ?_) | refine k0 (he := (by first | exact k_impl_ProgOk _ _ _ hs hl | exact k_impl_isHost _ _)) (hk := ?_) | refine b1 (hk := ?_) | refine b3 (hk := ?_) | refine u1 (hk := ?_) | refine a5 (hk := ?_) | refine b5 (hk := ?_) | refine d6 (ht := ?_))
      all_goals exact rG (vs := [.sl (S.length + 4) 0, .sl (S.length + 5) 0, .bool false]) (v := .tup [.lst [], .lst [], .bool false]) (hz := frzR_tup (fmS (fzV_sl rfl (by omega) (get_own rfl) rfl rfl) (fmS (fzV_sl rfl (by omega) (get_own rfl) rfl rfl) (fmS rfl fm0)))) (hl := by simp) (ho := fun j hj => by rw [List.getElem?_append_left hj])
theorem k_impl_SwayOf (ls : List Lab) (ss : Stps) (h : Int) (S : St) (hs : ss.sz ≤ 1048576) (hl : ls.length ≤ 1048576) : Ev Y impl_SwayOf [PR ls ss, I h] S (FND ls.length (swayOf ls ss h)) S := by
  by_cases hg : progOk ls ss = true ∧ inB h 0 2 = true
  · obtain ⟨hok, hin⟩ := hg
    have hno : (!progOk ls ss) = false := by rw [hok]; rfl
    have hni : (!inB h 0 2) = false := by rw [hin]; rfl
    have hq : swayOf ls ss h = (pairs (2 ^ ls.length)).find? (pairAt ls ss (trustsOf ls h) fun ra rb => !(runSets ra.ws (trustsOf ls h) == runSets rb.ws (trustsOf ls h))) := by simp only [swayOf, hok, hin, Bool.and_self, if_true]; rfl
    have fd := fun (q : Nat) (S : St) (hS : S[q]? = some (.cells false [[BL (trustsOf ls h)]])) => k_impl_pair ls ss (trustsOf ls h) impl_SwayOf_1 (.ptr q 1 0 0) q (.cells false [[BL (trustsOf ls h)]]) (fun ra rb => !(runSets ra.ws (trustsOf ls h) == runSets rb.ws (trustsOf ls h))) S hok (by simp [trustsOf]) rfl hS (fun ra rb S' a b c d e => k_impl_SwayOf_1 ra rb (trustsOf ls h) q S' a c (by simp [trustsOf]; omega) e)
    rw [← hq] at fd
    cases hr : swayOf ls ss h with
    | none =>
      rw [hr] at fd
      refine E_start (h := ?_)
      repeat' (first | refine c0 ?_ | refine c7 ?_ | refine d2 ?_ | refine c9 ?_ | refine d0 ?_ | refine d4 ?_ | refine k0 (he := (by first | exact k_impl_ProgOk _ _ _ hs hl | exact k_impl_isHost _ _ | exact k_impl_TypeTrusts' _ _ hok | exact fd _ _ (get_own rfl))) (hk := ?_) | refine b0 (hk := ?_) | refine b1 (hk := ?_) | refine b3 (hk := ?_) | refine u2 (hk := ?_) | refine a5 (hk := ?_) | refine b5 (hk := ?_) | refine b7 (hk := ?_) | refine u6 (hk := ?_))
      exact rV (vs := [L [], L [], .bool false]) (v := .tup [L [], L [], .bool false])
    | some p =>
      obtain ⟨k, i⟩ := p
      rw [hr] at fd
      refine E_start (h := ?_)
      repeat' (first | refine c0 ?_ | refine c7 ?_ | refine d2 ?_ | refine c9 ?_ | refine d0 ?_ | refine d4 ?_ | refine k0 (he := (by first | exact k_impl_ProgOk _ _ _ hs hl | exact k_impl_isHost _ _ | exact k_impl_TypeTrusts' _ _ hok | exact fd _ _ (get_own rfl))) (hk := ?_) | refine b0 (hk := ?_) | refine b1 (hk := ?_) | refine b3 (hk := ?_) | refine u2 (hk := ?_) | refine a5 (hk := ?_) | refine b5 (hk := ?_) | refine b7 (hk := ?_) | refine u6 (hk := ?_))
      exact rV (vs := [L (row2 k ls.length), L (row2 i ls.length), .bool true]) (v := .tup [L (row2 k ls.length), L (row2 i ls.length), .bool true])
  · have hq : swayOf ls ss h = none := by
      unfold swayOf
      rw [if_neg (by simpa using hg)]
    rw [hq]
    refine E_start (h := ?_)
    by_cases hok : progOk ls ss = true
    · have hno : (!progOk ls ss) = false := by rw [hok]; rfl
      have hni : (!inB h 0 2) = true := by simpa [hok] using hg
      repeat' (first | refine c0 ?_ | refine c1 ?_ | refine c7 ?_ | refine d2 ?_ | refine c9 ?_ | refine d4 ?_ | refine k0 (he := (by first | exact k_impl_ProgOk _ _ _ hs hl | exact k_impl_isHost _ _)) (hk := ?_) | refine b1 (hk := ?_) | refine b3 (hk := ?_) | refine u2 (hk := ?_) | refine a5 (hk := ?_) | refine b5 (hk := ?_) | refine u5 (hk := ?_))
      all_goals exact rG (vs := [.sl (S.length + 3) 0, .sl (S.length + 4) 0, .bool false]) (v := .tup [.lst [], .lst [], .bool false]) (hz := frzR_tup (fmS (fzV_sl rfl (by omega) (get_own rfl) rfl rfl) (fmS (fzV_sl rfl (by omega) (get_own rfl) rfl rfl) (fmS rfl fm0)))) (hl := by simp) (ho := fun j hj => by rw [List.getElem?_append_left hj])
    · have hno : (!progOk ls ss) = true := by simpa using hok
      repeat' (first | refine c0 ?_ | refine c1 ?_ | refine c7 ?_ | refine d2 ?_ | refine c9 ?_ | refine d4 ?_ | refine a0 (hk := ?_) | refine k0 (he := (by first | exact k_impl_ProgOk _ _ _ hs hl | exact k_impl_isHost _ _)) (hk := ?_) | refine b1 (hk := ?_) | refine b3 (hk := ?_) | refine u1 (hk := ?_) | refine a5 (hk := ?_) | refine b5 (hk := ?_) | refine d6 (ht := ?_))
      all_goals exact rG (vs := [.sl (S.length + 3) 0, .sl (S.length + 4) 0, .bool false]) (v := .tup [.lst [], .lst [], .bool false]) (hz := frzR_tup (fmS (fzV_sl rfl (by omega) (get_own rfl) rfl rfl) (fmS (fzV_sl rfl (by omega) (get_own rfl) rfl rfl) (fmS rfl fm0)))) (hl := by simp) (ho := fun j hj => by rw [List.getElem?_append_left hj])
end Go.Proofs.X
end
section
namespace Go.Proofs.X
open Go Go.Proofs.XVai Go.Proofs Go.Proofs.XN
set_option linter.unusedVariables false
set_option linter.unusedSimpArgs false
set_option maxHeartbeats 4000000
set_option maxRecDepth 100000

theorem lcInts_eq (a : List Int) (S : St) (ha : a.length ≤ 1048576) : Ev Y laws_lcInts [L a, L a] S (.bool true) S := by
  have := k_laws_lcInts a a S ha ha
  rwa [beq_self_eq_true] at this
theorem brow_len (bs : List UInt8) : (bs.map brow).length = bs.length := by simp
theorem eq_len {a : List Int} {n : Nat} (h : a.length = n) (hn : n ≤ 100) : a.length ≤ 1048576 := by omega
end Go.Proofs.X
end
section
namespace Go.Proofs.X
open Go Go.Proofs.XVai Go.Proofs Go.Proofs.XN
set_option linter.unusedVariables false
set_option linter.unusedSimpArgs false
set_option maxHeartbeats 4000000
set_option maxRecDepth 100000

theorem C_gen {Y : XVai.Sys} {fid : Nat} {T : Tm} {S : St} {Q : Ex → Tm → St → Prop} {c : Code} (P : Tm → St → Prop) (h : P T S) (hk : ∀ T S, P T S → CW Y fid c T S Q) : CW Y fid c T S Q := hk T S h
theorem rKC3 {Y : XVai.Sys} {f : Nat} {fn : Func} {T' : Tm} {S0 S1 S2 : St} {k : Nat} {o o0 : Ob} {v v' : HV} (h0 : S0[k]? = some o0) (hio : idO S0.length o = true) (hkp : Y.keep f = false := by rfl) {a : Tmp} {t : TypeId} (hres : fn.results.toList = [.cell a t] := by rfl) {ti : TI} (h1 : Y.tab t = some ti := by rfl) {q n i of' : Nat} {fr : Bool} {rows : List (List HV)} {row : List HV}
    (h2 : T' a = .ptr q n i of' := by rfl) (h3 : S1[q]? = some (.cells fr rows)) (h4 : rows.length = n := by rfl) (h5 : rows[i]? = some row := by rfl) (h6 : XVai.part ti.agg ti.size row of' = some v := by rfl) (hz : frzR S0.length v S1 = some (v', S2)) (hE : ExtK S0 k o S2) (hi : idR S0.length v' = true := by rfl) : RT Y f fn S0 v' (S0.set k o) .ret T' S1 := by
  obtain ⟨J, rfl⟩ := hE
  have hr : resVs Y T' S1 fn.results.toList = some [v] := by
    rw [hres]
    simp only [resVs, resV, cload, h1, getRow, h2, h3, h4, if_true, h5, Option.map_some, h6]
  refine ⟨?_⟩
  have hold : oldOk S0.length S0 (S0.set k o ++ J) := ⟨by simp, fun j hj => by
    rw [List.getElem?_append_left (by simpa using hj)]
    exact rS1 h0 hio j hj⟩
  have hz' : frzR S0.length (resTup [v]) S1 = some (v', S0.set k o ++ J) := hz
  simp only [cret, hr, hkp, hz']
  simp [hi, hold]
theorem d_l71Bent (ls : List Lab) (ss : Stps) (hl1 : 1 ≤ ls.length) (hl4 : ls.length ≤ 4) (hss : ss.sz ≤ 8) : Dr spec_l71Bent [PR ls ss] 10 (fun v => ∃ ls ss, v = PR ls ss ∧ ss.sz ≤ 100 ∧ ls.length ≤ 100) := by
  refine Dr_of fun bs p k S hb hp hk => ?_
  have hkl : k < S.length := (List.getElem?_eq_some_iff.1 hk).1
  have hz2 : (ls.map lrow).all (fun r => r.length == 2 && r.all isCell) = true := by simp [isCell]
  have hem : (ls.map lrow).isEmpty = false := by cases ls <;> simp_all
  refine E_startR (h := ?_)
  repeat' (first | refine c0 ?_ | refine c7 ?_ | refine d2 ?_ | refine d4 ?_ | refine d3' (h := ?_) | refine b0 (hk := ?_) | refine b1 (hk := ?_) | refine p1' (hk := ?_) | refine b4' (hk := ?_) | refine e5' (hk := ?_) | refine f5' (hk := ?_))
  refine kX' (he := k_spec_l2Copy _ ss _ (Nat.le_refl _) (by omega)) (hx := fun v S' ⟨J, _, h, _⟩ => ⟨J, h⟩) (hk := ?_)
  rintro v J ⟨J', k1, -, rfl, hk1, hle⟩
  rw [List.append_assoc] at hk1 ⊢
  repeat' (first | refine c0 ?_ | refine c7 ?_ | refine d2 ?_ | refine d4' ?_ | refine a5 (hk := ?_) | refine b0' (hk := ?_) | refine b7b (hk := ?_) | refine b7' (hk := ?_))
  refine k0 (ha := rfl) (he := k_pick' (get_old hk) hb (by omega)) (hS := set_old hk) (hk := ?_)
  refine d4 ?_
  refine c0 ?_
  refine C_gen (fun T' S' => ∃ (T0 : Tm) (S1 : St) (a b k1 : Nat), S.length + 2 ≤ a ∧ S.length + 2 ≤ b ∧ S.length + 2 ≤ k1 ∧ a ≠ b ∧ a ≠ k1 ∧ b ≠ k1 ∧ ExtK S k (RD bs (p + 1)) S1 ∧ S1[a]? = some (.cells false (ls.map lrow)) ∧ S1[k1]? = some (.cells true ss.rows) ∧ S1[b]? = some (.cells false [[.sl a ls.length, .sl k1 ss.rows.length]]) ∧ (∃ z y, S1[S.length + 1]? = some (.cells false [[z, y]])) ∧
      T' = putL T0 [(0, .ptr k 1 0 0), (4, .ptr (S.length + 1) 1 0 0), (5, .ptr b 1 0 0), (16, I (pickv bs p 8))] ∧ S' = S1 ++ [])
    ⟨_, _, S.length + 5, S.length + 10, k1, by omega, by omega, ?_, by omega, ?_, ?_, xkS, get_setO rfl, ?_, ?_, ⟨_, _, get_setO rfl⟩, at_mk ⟨rfl, rfl, rfl, rfl, trivial⟩, (List.append_nil _).symm⟩ ?_
  · simp at hle; omega
  · simp at hle; omega
  · simp at hle; omega
  · have hle' : S.length + 12 ≤ k1 := by simp at hle; omega
    obtain ⟨i, rfl⟩ : ∃ i, k1 = S.length + i := ⟨k1 - S.length, by omega⟩
    rw [List.getElem?_append_right (by omega), Nat.add_sub_cancel_left] at hk1
    rw [List.getElem?_append_right (by simp), List.length_set, Nat.add_sub_cancel_left]
    rw [List.getElem?_set_ne (by omega), List.getElem?_set_ne (by omega)]
    exact hk1
  · rw [get_setO rfl]; simp; rfl
  rintro T' S' ⟨T0, S1, a, b, k1, ha, hb', hk1, hab, hak, hbk, hE, fa, fk, fb, ⟨z, y, fz⟩, rfl, rfl⟩
  obtain ⟨j, hj, hj8⟩ := pick_nat bs p (n := 8) (by omega)
  have hj : pickv bs p 8 = j := hj
  have hcur := xk_get hk hE
  have hak' : a ≠ k := by omega
  have hbk' : b ≠ k := by omega
  have hkk' : k1 ≠ k := by omega
  have hz1 : S.length + 1 ≠ k := by omega
  have han : (ls.map lrow).length = ls.length := by simp
  have h8 := ss.rows_eight
  have pss := ss.rows_pure
  have hsl := ss.rows_len
  have hsz := ss.len_sz
  by_cases w7 : j = 7
  · have q0 : (pickv bs p 8 == 0) = false := by simp; omega
    have q1 : (pickv bs p 8 == 1) = false := by simp; omega
    have q2 : (pickv bs p 8 == 2) = false := by simp; omega
    have q3 : (pickv bs p 8 == 3) = false := by simp; omega
    have q4 : (pickv bs p 8 == 4) = false := by simp; omega
    have q5 : (pickv bs p 8 == 5) = false := by simp; omega
    have q6 : (pickv bs p 8 == 6) = false := by simp; omega
    repeat' (first | refine c0 ?_ | refine c3 ?_ | refine c7 ?_ | refine d2 ?_ | refine c8 ?_ | refine d4 ?_ | refine a5 (hk := ?_) | refine b5 (hk := ?_) | refine b7 (hk := ?_) | refine p0 (hk := ?_) | refine u6 (hk := ?_))
    refine b7 (h3 := get_setN (by omega) (setN (by omega) fz)) (h10 := set_setN (setN (by omega) fz)) (hk := ?_)
    repeat' (first | refine c0 ?_ | refine c9 ?_ | refine d4 ?_)
    refine ⟨_, _, rKC3 (o := RD bs (p + 1)) hk (RD_ok _ _) (h3 := get_set (setN (by omega) (setN (by omega) fz))) (hz := frzR_aggS (fmS (fz_slF rfl (by omega) (get_setN (by omega) (setN hab (setN hak fa))) han (lrow_pure _)) (fmS (fz_sl rfl (by omega) (setN (Ne.symm hak) (get_setN (by omega) (setN (Ne.symm hbk) (setE fk)))) (by simp) (allP pss rfl)) fm0)))
      (hE := xk4 hk (xk2 (xk4 hk (xk4 hk (xk4 hk hE (by omega)) (by omega)) (by omega))) (by omega)), p + 1, by omega, by omega, ⟨ls, ss.app (.cons 3 0 ⟨0, 0, 0⟩ 3 .nil .nil .nil), by rw [PR, Stps.app_rows]; rfl, by simp [Stps.app_sz, Stps.sz]; omega, by omega⟩, rfl⟩
  have ha2 := lrow2 ls
  by_cases w2 : j = 2
  · skip
    have q0 : (pickv bs p 8 == 0) = false := by simp; omega
    have q1 : (pickv bs p 8 == 1) = false := by simp; omega
    have q2 : (pickv bs p 8 == 2) = true := by simp; omega
    repeat' (first | refine c0 ?_ | refine c3 ?_ | refine c7 ?_ | refine d2 ?_ | refine c8 ?_ | refine d4 ?_ | refine a5 (hk := ?_) | refine b5 (hk := ?_) | refine b7 (hk := ?_) | refine p0 (hk := ?_) | refine u5 (hk := ?_) | refine u6 (hk := ?_))
    refine b7 (h3 := get_setN (by omega) (setN (by omega) fz)) (h10 := set_setN (setN (by omega) fz)) (hk := ?_)
    repeat' (first | refine c0 ?_ | refine c9 ?_ | refine d4 ?_)
    refine ⟨_, _, rKC3 (o := RD bs (p + 1)) hk (RD_ok _ _) (h3 := get_set (setN (by omega) (setN (by omega) fz))) (hz := frzR_aggS (fmS (fz_slF rfl (by omega) (get_setN (by omega) (setN hab (setN hak fa))) han (lrow_pure _)) (fmS (fz_sl rfl (by omega) (setN (Ne.symm hak) (get_setN (by omega) (setN (Ne.symm hbk) (setE fk)))) (by simp) (allP pss rfl)) fm0)))
      (hE := xk4 hk (xk2 (xk4 hk (xk4 hk (xk4 hk hE (by omega)) (by omega)) (by omega))) (by omega)), p + 1, by omega, by omega, ⟨ls, ss.app (.cons 1 ls.length ⟨1, 0, 0⟩ 0 .nil .nil .nil), by rw [PR, Stps.app_rows]; rfl, by simp [Stps.app_sz, Stps.sz]; omega, by omega⟩, rfl⟩
  by_cases w0 : j = 0
  · have q0 : (pickv bs p 8 == 0) = true := by simp; omega
    obtain ⟨l0, lt, rfl⟩ : ∃ l0 lt, ls = l0 :: lt := by
      cases ls with
      | nil => simp at hl1
      | cons l0 lt => exact ⟨l0, lt, rfl⟩
    have hg0 : (l0 :: lt)[0]? = some l0 := rfl
    repeat' (first | refine c0 ?_ | refine c3 ?_ | refine c7 ?_ | refine d2 ?_ | refine c8 ?_ | refine c9 ?_ | refine d4 ?_ | refine a5 (hk := ?_) | refine b5 (hk := ?_) | refine b9 (hk := ?_) | refine b7 (hk := ?_) | refine u5 (hk := ?_))
    refine ⟨_, _, rKC3 (o := RD bs (p + 1)) hk (RD_ok _ _) (h3 := get_set (setN (by omega) fz)) (hz := frzR_aggS (fmS (fz_slF rfl (by omega) (get_setN (by omega) (setE fa)) (by simp) (lrow_pure (⟨8, l0.t⟩ :: lt))) (fmS (fz_sl rfl (by omega) (setN (Ne.symm hak) (get_setN (by omega) (setN (Ne.symm hak) fk))) rfl pss) fm0)))
      (hE := xk4 hk (xk2 (xk4 hk (xk4 hk hE (by omega)) (by omega))) (by omega)), p + 1, by omega, by omega, ⟨⟨8, l0.t⟩ :: lt, ss, rfl, by omega, by simp at hl4 ⊢; omega⟩, rfl⟩
  by_cases w6 : j = 6
  · skip
    have q0 : (pickv bs p 8 == 0) = false := by simp; omega
    have q1 : (pickv bs p 8 == 1) = false := by simp; omega
    have q2 : (pickv bs p 8 == 2) = false := by simp; omega
    have q3 : (pickv bs p 8 == 3) = false := by simp; omega
    have q4 : (pickv bs p 8 == 4) = false := by simp; omega
    have q5 : (pickv bs p 8 == 5) = false := by simp; omega
    have q6 : (pickv bs p 8 == 6) = true := by simp; omega
    repeat' (first | refine c0 ?_ | refine c3 ?_ | refine c7 ?_ | refine d2 ?_ | refine c8 ?_ | refine d4 ?_ | refine a5 (hk := ?_) | refine b5 (hk := ?_) | refine b7 (hk := ?_) | refine p0 (hk := ?_) | refine u5 (hk := ?_) | refine u6 (hk := ?_))
    refine b7 (h3 := get_setN (by omega) (setN (by omega) fz)) (h10 := set_setN (setN (by omega) fz)) (hk := ?_)
    repeat' (first | refine c0 ?_ | refine c9 ?_ | refine d4 ?_)
    refine ⟨_, _, rKC3 (o := RD bs (p + 1)) hk (RD_ok _ _) (h3 := get_set (setN (by omega) (setN (by omega) fz))) (hz := frzR_aggS (fmS (fz_slF rfl (by omega) (get_setN (by omega) (setN hab (setE fa))) (by simp) (allP (lrow_pure _) rfl)) (fmS (fz_sl rfl (by omega) (setN (Ne.symm hak) (get_setN (by omega) (setN (Ne.symm hbk) (setN (Ne.symm hak) fk)))) rfl pss) fm0)))
      (hE := xk4 hk (xk2 (xk4 hk (xk4 hk (xk4 hk hE (by omega)) (by omega)) (by omega))) (by omega)), p + 1, by omega, by omega, ⟨ls ++ [⟨0, 0⟩, ⟨0, 0⟩, ⟨0, 0⟩, ⟨0, 0⟩], ss, by rw [PR, LS, List.map_append]; rfl, by omega, by simp; omega⟩, rfl⟩
  by_cases w1 : j = 1
  · skip
    have q0 : (pickv bs p 8 == 0) = false := by simp; omega
    have q1 : (pickv bs p 8 == 1) = true := by simp; omega
    have fb2 := setN (o := RD bs (p + 1 + 1)) hbk' fb
    have fk2 := setN (o := RD bs (p + 1 + 1)) hkk' fk
    have fz2 := setN (o := RD bs (p + 1 + 1)) hz1 fz
    have fa2 := setN (o := RD bs (p + 1 + 1)) hak' fa
    repeat' (first | refine c0 ?_ | refine c3 ?_ | refine c7 ?_ | refine d2 ?_ | refine c8 ?_ | refine d4 ?_ | refine d3' (h := ?_) | refine d4' ?_ | refine k2' (he := (by first | exact k_pick' (by first | assumption | exact get_old (by assumption) | exact get_set (by assumption)) hb (by omega))) (hk := ?_) | refine a5 (hk := ?_) | refine b5 (hk := ?_) | refine b4' (hk := ?_) | refine b7b (hk := ?_) | refine e5' (hk := ?_) | refine f5' (hk := ?_) | refine b7' (hk := ?_) | refine p0' (hk := ?_) | refine u5 (hk := ?_) | refine u6 (hk := ?_))
    refine b7 (h3 := get_setN (by omega) (setN (by omega) fz2)) (h10 := set_setN (setN (by omega) fz2)) (hk := ?_)
    repeat' (first | refine c0 ?_ | refine c9 ?_ | refine d4 ?_)
    refine ⟨_, _, rKC3 (o := RD bs (p + 1 + 1)) hk (RD_ok _ _) (h3 := get_set (setN (by omega) (setN (by omega) fz2))) (hz := frzR_aggS (fmS (fz_slF rfl (by omega) (get_setN (by omega) (setN hab (setN hak fa2))) han (lrow_pure _)) (fmS (fz_sl rfl (by omega) (setN (Ne.symm hak) (get_setN (by omega) (setN (Ne.symm hbk) (setE fk2)))) (by simp) (allP pss rfl)) fm0)))
      (hE := xk4 hk (xk2 (xk4 hk (xk4 hk (xk4 hk (xk5 hk hE) (by omega)) (by omega)) (by omega))) (by omega)), p + 1 + 1, by omega, by omega, ⟨ls, ss.app (.cons (IntKind.i64.wrap (pickv bs (p + 1) 6 - 1)) 0 ⟨0, 0, 0⟩ 0 .nil .nil .nil), by rw [PR, Stps.app_rows]; rfl, by simp [Stps.app_sz, Stps.sz]; omega, by omega⟩, rfl⟩
  by_cases w3 : j = 3
  · skip
    have q0 : (pickv bs p 8 == 0) = false := by simp; omega
    have q1 : (pickv bs p 8 == 1) = false := by simp; omega
    have q2 : (pickv bs p 8 == 2) = false := by simp; omega
    have q3 : (pickv bs p 8 == 3) = true := by simp; omega
    obtain ⟨j1, e1, hj1⟩ := pick_nat bs (p + 1) (n := 6) (by omega)
    obtain ⟨j2, e2, hj2⟩ := pick_nat bs (p + 1 + 1) (n := 3) (by omega)
    have g1 := lit_get [1, 1, 2, 3, 0, 5] (j := j1) hj1
    have g2 := lit_get [10, -1, 4] (j := j2) hj2
    have fb2 := setN (o := RD bs (p + 1 + 1 + 1)) hbk' fb
    have fk2 := setN (o := RD bs (p + 1 + 1 + 1)) hkk' fk
    have fz2 := setN (o := RD bs (p + 1 + 1 + 1)) hz1 fz
    have fa2 := setN (o := RD bs (p + 1 + 1 + 1)) hak' fa
    repeat' (first | refine c0 ?_ | refine c7 ?_ | refine d2 ?_ | refine c8 ?_ | refine d4 ?_ | refine d3' (h := ?_) | refine k2' (he := (by first | exact k_pick' (by first | assumption | exact get_old (by assumption) | exact get_set (by assumption)) hb (by omega))) (hk := ?_) | refine a5 (hk := ?_) | refine b4' (hk := ?_) | refine e5' (hk := ?_) | refine f5' (hk := ?_) | refine u5 (hk := ?_) | refine u6 (hk := ?_))
    refine f8' (h5 := e1) (h6 := map_get (f := irow) g1) (hk := ?_)
    repeat' (first | refine k2' (he := (by first | exact k_pick' (by first | assumption | exact get_old (by assumption) | exact get_set (by assumption)) hb (by omega))) (hk := ?_) | refine b4' (hk := ?_) | refine e5' (hk := ?_) | refine f6' (hk := ?_))
    refine f8' (h5 := e2) (h6 := map_get (f := irow) g2) (hk := ?_)
    repeat' (first | refine c0 ?_ | refine c3 ?_ | refine c7 ?_ | refine d2 ?_ | refine d4' ?_ | refine b5 (hk := ?_) | refine b4' (hk := ?_) | refine b7b (hk := ?_) | refine e5' (hk := ?_) | refine f6' (hk := ?_) | refine b7' (hk := ?_) | refine p0' (hk := ?_))
    refine b7 (h3 := get_setN (by omega) (setN (by omega) fz2)) (h10 := set_setN (setN (by omega) fz2)) (hk := ?_)
    repeat' (first | refine c0 ?_ | refine c9 ?_ | refine d4 ?_)
    refine ⟨_, _, rKC3 (o := RD bs (p + 1 + 1 + 1)) hk (RD_ok _ _) (h3 := get_set (setN (by omega) (setN (by omega) fz2))) (hz := frzR_aggS (fmS (fz_slF rfl (by omega) (get_setN (by omega) (setN hab (setN hak fa2))) han (lrow_pure _)) (fmS (fz_sl rfl (by omega) (setN (Ne.symm hak) (get_setN (by omega) (setN (Ne.symm hbk) (setE fk2)))) (by simp) (allP pss rfl)) fm0)))
      (hE := xk4 hk (xk2 (xk4 hk (xk4 hk (xk4 hk (xk5 hk hE) (by omega)) (by omega)) (by omega))) (by omega)), p + 1 + 1 + 1, by omega, by omega, ⟨ls, ss.app (.cons 1 0 ⟨[1, 1, 2, 3, 0, 5].getD j1 0, [10, -1, 4].getD j2 0, 0⟩ 0 .nil .nil .nil), by rw [PR, Stps.app_rows]; rfl, by simp [Stps.app_sz, Stps.sz]; omega, by omega⟩, rfl⟩
  have q0 : (pickv bs p 8 == 0) = false := by simp; omega
  have q1 : (pickv bs p 8 == 1) = false := by simp; omega
  have q2 : (pickv bs p 8 == 2) = false := by simp; omega
  have q3 : (pickv bs p 8 == 3) = false := by simp; omega
  by_cases w4 : j = 4
  · have q4 : (pickv bs p 8 == 4) = true := by simp; omega
    repeat' (first | refine c0 ?_ | refine c7 ?_ | refine d2 ?_ | refine c8 ?_ | refine d4 ?_ | refine a5 (hk := ?_) | refine u5 (hk := ?_) | refine u6 (hk := ?_))
    refine C_loop (fun n T' S' => ∃ (T0 : Tm) (S2 : St) (d : Stps), d.len + n = 9 ∧ d.sz + n ≤ 17 ∧ ExtK S k (RD bs (p + 1)) S2 ∧ S2[a]? = some (.cells false (ls.map lrow)) ∧ S2[k1]? = some (.cells true d.rows) ∧ S2[b]? = some (.cells false [[.sl a ls.length, .sl k1 d.rows.length]]) ∧ (∃ z y, S2[S.length + 1]? = some (.cells false [[z, y]])) ∧
        T' = putL T0 [(4, .ptr (S.length + 1) 1 0 0), (5, .ptr b 1 0 0)] ∧ S' = S2 ++ []) (9 - ss.len)
      ⟨_, _, ss, by omega, by omega, hE, fa, fk, fb, ⟨z, y, fz⟩, at_mk ⟨rfl, rfl, trivial⟩, rfl⟩ ?_
    rintro n T' S' ⟨T0, S2, d, hd, hdz, hE, fa, fk, fb, ⟨z, y, fz⟩, rfl, rfl⟩
    have h8 := d.rows_eight
    have pd := d.rows_pure
    have hdl := d.rows_len
    cases n with
    | zero =>
      have hc0 : ¬ ((d.rows.length : Int) ≤ 8) := by omega
      repeat' (first | refine c0 ?_ | refine c2 ?_ | refine c3 ?_ | refine c5 ?_ | refine c7 ?_ | refine d2 ?_ | refine c9 ?_ | refine d1 ?_ | refine d4 ?_ | refine a5 (hk := ?_) | refine b5 (hk := ?_) | refine b7 (hk := ?_) | refine u8 (hk := ?_))
      refine ⟨_, _, rKC3 (o := RD bs (p + 1)) hk (RD_ok _ _) (h3 := get_set fz) (hz := frzR_aggS (fmS (fz_slF rfl (by omega) (get_setN (by omega) fa) han (lrow_pure _)) (fmS (fz_sl rfl (by omega) (setN (Ne.symm hak) (get_setN (by omega) fk)) rfl pd) fm0)))
        (hE := xk4 hk (xk2 (xk4 hk hE (by omega))) (by omega)), p + 1, by omega, by omega, ⟨ls, d, rfl, by omega, by omega⟩, rfl⟩
    | succ n =>
      have hc0 : (d.rows.length : Int) ≤ 8 := by omega
      repeat' (first | refine c0 ?_ | refine c3 ?_ | refine c7 ?_ | refine d2 ?_ | refine c8 ?_ | refine d0 ?_ | refine d4 ?_ | refine a5 (hk := ?_) | refine b5 (hk := ?_) | refine b7 (hk := ?_) | refine p0 (hk := ?_) | refine u7 (hk := ?_))
      refine ⟨n, by omega, _, _, d.app (.cons 3 0 ⟨0, 0, 0⟩ 0 .nil .nil .nil), by simp [Stps.app_len, Stps.len]; omega, by simp [Stps.app_sz, Stps.sz]; omega, xk2 (xk4 hk (xk4 hk hE (by omega)) (by omega)), get_setN hab (setN hak fa), ?_, ?_, ⟨z, y, get_setN (by omega) (setN (by omega) fz)⟩, at_mk ⟨rfl, rfl, trivial⟩, (List.append_nil _).symm⟩
      · rw [get_setN (Ne.symm hbk) (setE fk), Stps.app_rows]; rfl
      · rw [get_set (setN hbk fb), Stps.app_rows]; simp [Stps.rows]; rfl
  have q4 : (pickv bs p 8 == 4) = false := by simp; omega
  have q5 : (pickv bs p 8 == 5) = true := by simp; omega
  repeat' (first | refine c0 ?_ | refine c7 ?_ | refine d2 ?_ | refine c8 ?_ | refine d0 ?_ | refine d4 ?_ | refine d5 ?_ | refine a5 (hk := ?_) | refine b5 (hk := ?_) | refine d6 (ht := ?_) | refine u5 (hk := ?_) | refine u6 (hk := ?_))
  refine bs1 (hf := fm1 rfl (fm1 rfl (fm1 rfl (fm1 rfl (fm1 rfl (fm1 rfl (fm1 (fz_sl rfl (Nat.zero_le _) (get_old fk) rfl pss) (fm1 rfl fm0)))))))) (hk := ?_)
  repeat' (first | refine c0 ?_ | refine c2 ?_ | refine c3 ?_ | refine c5 ?_ | refine c7 ?_ | refine d2 ?_ | refine c8 ?_ | refine c9 ?_ | refine d0 ?_ | refine d1 ?_ | refine d4 ?_ | refine d5 ?_ | refine a5 (hk := ?_) | refine b5 (hk := ?_) | refine b7 (hk := ?_) | refine d6 (ht := ?_) | refine d7 (hf := ?_))
  refine ⟨_, _, rKC3 (o := RD bs (p + 1)) hk (RD_ok _ _) (h3 := get_set (setN (by omega) fz)) (hz := frzR_aggS (fmS (fz_slF rfl (by omega) (get_setN (by omega) (setN hab fa)) han (lrow_pure _)) (fmS rfl fm0)))
    (hE := xk4 hk (xk2 (xk4 hk (xk4 hk hE (by omega)) (by omega))) (by omega)), p + 1, by omega, by omega, ⟨ls, .cons 2 0 ⟨0, 0, 0⟩ 0 (.cons 2 0 ⟨0, 0, 0⟩ 0 (.cons 2 0 ⟨0, 0, 0⟩ 0 (.cons 2 0 ⟨0, 0, 0⟩ 0 ss .nil .nil) .nil .nil) .nil .nil) .nil .nil, rfl, by simp [Stps.sz]; omega, by omega⟩, rfl⟩
end Go.Proofs.X
end
section
namespace Go.Proofs.X
open Go Go.Proofs.XVai Go.Proofs Go.Proofs.XN
set_option linter.unusedVariables false
set_option linter.unusedSimpArgs false
set_option maxHeartbeats 4000000
set_option maxRecDepth 100000

theorem d_l71Any : Dr spec_l71Any [] 24020 (fun v => ∃ ls ss, v = PR ls ss ∧ ss.sz ≤ 100 ∧ ls.length ≤ 100) := by
  refine Dr_of fun bs p k S hb hp hk => ?_
  have hkl : k < S.length := (List.getElem?_eq_some_iff.1 hk).1
  refine E_startR (h := ?_)
  repeat' (first | refine c0 ?_ | refine c7 ?_ | refine d2 ?_ | refine d4 ?_ | refine b0 (hk := ?_) | refine a5 (hk := ?_))
  refine kE (hd := d_l71Prog) (h0 := hk) (hl := hb) (hp := by omega) (hk := ?_)
  rintro v q hq1 hq2 ⟨ls, ss, rfl, hok, hl1⟩
  obtain ⟨h1, h2, h3, h4⟩ := progOk_in hok
  repeat' (first | refine c0 ?_ | refine c7 ?_ | refine d2 ?_ | refine c9 ?_ | refine d0 ?_ | refine d4 ?_ | refine k0 (he := (by first | exact k_pick' (by first | assumption | exact get_old (by assumption) | exact get_set (by assumption)) hb (by omega))) (hk := ?_) | refine b0 (hk := ?_) | refine a5 (hk := ?_) | refine b5 (hk := ?_) | refine b7 (hk := ?_) | (with_reducible intro hc) | refine d8 (ht := ?_) (hf := ?_) | refine d9 (ht := ?_) (hf := ?_))
  · refine kD (hd := d_l71Fine) (h0 := ⟨_, hk⟩) (hl := hb) (hp := by omega) (hk := ?_)
    rintro v q2 hq3 hq4 ⟨ls, ss, rfl, hss, hl4, hl1⟩
    repeat' (first | refine c0 ?_ | refine c7 ?_ | refine d2 ?_ | refine c9 ?_ | refine d0 ?_ | refine d4 ?_ | refine k0 (he := (by first | exact k_pick' (by first | assumption | exact get_old (by assumption) | exact get_set (by assumption)) hb (by omega))) (hk := ?_) | refine a5 (hk := ?_) | refine b5 (hk := ?_) | refine b7 (hk := ?_) | (with_reducible intro hc) | refine d9 (ht := ?_) (hf := ?_))
    · refine kD (hd := d_l71Bent ls ss hl1 hl4 hss) (h0 := ⟨_, hk⟩) (hl := hb) (hp := by omega) (hk := ?_)
      rintro v q3 hq5 hq6 ⟨ls, ss, rfl, hss, hl⟩
      repeat' (first | refine c0 ?_ | refine c1 ?_ | refine c9 ?_ | refine d4 ?_ | refine b7 (hk := ?_))
      exact ⟨_, _, rKC hk (by first | exact xkS | exact xkZ) (RD_ok _ _) (h3 := by first | exact get_setO rfl | exact get_own rfl), q3, by omega, by omega, ⟨ls, ss, rfl, hss, hl⟩, rfl⟩
    · exact ⟨_, _, rKC hk (by first | exact xkS | exact xkZ) (RD_ok _ _) (h3 := by first | exact get_setO rfl | exact get_own rfl), q2 + 1, by omega, by omega, ⟨ls, ss, rfl, by omega, by omega⟩, rfl⟩
  · refine kD (hd := d_l71Bent ls ss hl1 h1 h4) (h0 := ⟨_, hk⟩) (hl := hb) (hp := by omega) (hk := ?_)
    rintro v q3 hq5 hq6 ⟨ls, ss, rfl, hss, hl⟩
    repeat' (first | refine c0 ?_ | refine c1 ?_ | refine c9 ?_ | refine d4 ?_ | refine b7 (hk := ?_))
    exact ⟨_, _, rKC hk (by first | exact xkS | exact xkZ) (RD_ok _ _) (h3 := by first | exact get_setO rfl | exact get_own rfl), q3, by omega, by omega, ⟨ls, ss, rfl, hss, hl⟩, rfl⟩
  · exact ⟨_, _, rKC hk (by first | exact xkS | exact xkZ) (RD_ok _ _) (h3 := by first | exact get_setO rfl | exact get_own rfl), q + 1 + 1, by omega, by omega, ⟨ls, ss, rfl, by omega, by omega⟩, rfl⟩
section
variable {fid : Nat} {T : Tm} {S : St} {K : Tm → St → Prop} {ops : Array Oper} {l : List Oper} {dst : Option Tmp} {ty : TypeId} {pos : String} {after : Array Edge} {g0 : Option (Nat × Bool)}
/-- The first so many of a slice. -/
theorem sl1 {t e z m : Nat} {ti : TI} {x hi : Operand} {rows : List (List HV)} {kk : IntKind} {n : Int} (hg : wantG ops g0 T = true := by rfl) (h1 : Y.tab t = some ti := by rfl) (h2 : ti.sh = .slice e := by rfl) (h3 : tsize Y e = some z := by rfl) (hx : ev T x = .lst rows := by rfl) (hh : ev T hi = .int kk n := by rfl) (hn : n = (m : Int)) (hm : m ≤ rows.length) (hz : rows.all (fun r => r.length == z) = true)
    (hk : OW Y fid ops none l (put T dst (.lst (rows.take m))) S K) : OW Y fid ops none (⟨dst, .slice t x none (some hi) none, ty, pos, after, g0⟩ :: l) T S K := by
  subst hn
  refine ⟨A_op hg (v := .lst (rows.take m)) ?_ hk.of⟩
  have hf : frzC 0 6 (.lst rows) S = some (.lst rows, S) := frzC_pure rfl
  simp only [cop, cslice, h1, h2, h3, hx, hf, hh, Option.map_none, Option.map_some, bound]
  rw [if_pos (by omega)]
  simp only [Int.toNat_natCast]
  rw [if_pos ⟨by omega, hm, hz⟩]
  rfl
end
theorem brow1' (l : List UInt8) : (l.map brow).all (fun r => r.length == 1) = true := by simp
theorem k_spec_l6Open (bs : List UInt8) (S : St) : EvR Y spec_l6Open [BY bs] S (fun v S' => ∃ J k, S' = S ++ J ∧ v = .ptr k 1 0 0 ∧ S.length ≤ k ∧ S'[k]? = some (RD (bs.take 2000) 0)) := by
  by_cases h : bs.length ≤ 2000
  · have hn : ¬ (((bs.map brow).length : Int) > 2000) := by simp; omega
    rw [List.take_of_length_le h]
    refine E_startR (h := ?_)
    repeat' (first | refine c0 ?_ | refine c7 ?_ | refine d2 ?_ | refine c9 ?_ | refine d0 ?_ | refine d4 ?_ | refine b1 (hk := ?_) | refine a5 (hk := ?_) | refine u8 (hk := ?_))
    exact ⟨_, _, rKeep, _, _, rfl, rfl, Nat.le_add_right _ _, get_own rfl⟩
  · have hn : ((bs.map brow).length : Int) > 2000 := by simp; omega
    refine E_startR (h := ?_)
    repeat' (first | refine c0 ?_ | refine c7 ?_ | refine d2 ?_ | refine d4 ?_ | refine a5 (hk := ?_) | refine u7 (hk := ?_))
    refine sl1 (m := 2000) (hn := rfl) (hm := by simp; omega) (hz := brow1' bs) (hk := ?_)
    repeat' (first | refine c0 ?_ | refine c7 ?_ | refine d2 ?_ | refine c9 ?_ | refine d4 ?_ | refine b1 (hk := ?_) | refine a5 (hk := ?_))
    refine ⟨_, _, rKeep, _, _, rfl, rfl, Nat.le_add_right _ _, ?_⟩
    have e : RD (bs.take 2000) 0 = .cells false [[.lst ((bs.map brow).take 2000), I ((0 : Nat) : Int)]] := by rw [RD, BY, List.map_take]
    rw [e]
    exact get_own rfl
end Go.Proofs.X
end
