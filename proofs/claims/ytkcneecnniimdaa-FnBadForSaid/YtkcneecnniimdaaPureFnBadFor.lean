/- Whatever bytes the law FnBadFor is given, it returns true: the drawn plan's trust sets are three or fewer, the program's BadFor and the model's BadFor agree on every such plan, host and set, and where both hold, no bad host is trusted by the host. Conditions: none beyond the row's own. -/
import Derived.Test.YtkcneecnniimdaaPFnBadForx3
namespace Go.Proofs.Ytkcneecnniimdaa.Pure
open Go.RowKit Go.Proofs.Ytkcneecnniimdaa.PFnBadFor Go.Proofs.YtkcneecnniimdaaW.PrintWords Go.Proofs.YtkcneecnniimdaaW.PrintLast
set_option linter.unusedVariables false
set_option linter.unusedSimpArgs false

theorem wid {n : Int} (h0 : -9223372036854775808 ≤ n) (h1 : n < 9223372036854775808) : wrap64 n = n := by unfold wrap64; omega

theorem rd_in (data : List Int) (hd : ∀ x ∈ data, 0 ≤ x ∧ x ≤ 255) (i : Int) : 0 ≤ rd data i ∧ rd data i ≤ 255 := by
  unfold rd
  rw [List.getD_eq_getElem?_getD]
  cases h : data[i.toNat]? with
  | none => simp
  | some x => exact hd x (List.mem_of_getElem? h)

theorem xor_in {a b : Int} (ha : 0 ≤ a) (ha' : a < 2147483648) (hb : 0 ≤ b) (hb' : b < 2147483648) : 0 ≤ Go.bits .xor .i64 a b := by
  obtain ⟨x, rfl⟩ := Int.eq_ofNat_of_zero_le ha
  obtain ⟨y, rfl⟩ := Int.eq_ofNat_of_zero_le hb
  have hx : x < 2 ^ 31 := by omega
  have hy : y < 2 ^ 31 := by omega
  have hxy : x ^^^ y < 2 ^ 31 := Nat.xor_lt_two_pow hx hy
  show 0 ≤ IntKind.i64.wrap (((BitVec.ofInt 64 (x : Int) ^^^ BitVec.ofInt 64 (y : Int)).toNat : Nat) : Int)
  rw [BitVec.toNat_xor, IntKind.wrap_i64, BitVec.toNat_ofInt, BitVec.toNat_ofInt]
  have e1 : ((x : Int) % ((2 ^ 64 : Nat) : Int)).toNat = x := by omega
  have e2 : ((y : Int) % ((2 ^ 64 : Nat) : Int)).toNat = y := by omega
  rw [e1, e2]
  omega

theorem pick_ok (data : List Int) (hd : ∀ x ∈ data, 0 ≤ x ∧ x ≤ 255) (hlen : data.length ≤ 2000) (p n : Int) (hp : 0 ≤ p) (hp' : p ≤ 1000) (hn : 1 ≤ n) (hn' : n ≤ 1000) (k : Nat) :
    ∃ v, spec_l6Rd_pick.f (k + 1) data p n = some (v, p + 1) ∧ 0 ≤ v ∧ v < n := by
  unfold spec_l6Rd_pick.f
  rw [if_neg (by omega), wid (n := p + 1) (by omega) (by omega)]
  simp only [spec_l6Rd_pick.j0]
  by_cases h0 : data.length = 0
  · exact ⟨0, by simp [h0], by omega, by omega⟩
  · have hb : (((data.length : Int) == 0) = true) = False := by simp; simpa using h0
    simp only [hb, if_false]
    have e0 : wrap64 (p + 1 - 1) = p := by rw [wid] <;> omega
    rw [e0]
    by_cases h1 : p < (data.length : Int)
    · rw [if_pos h1, if_pos hp, if_neg (by omega)]
      have hr := rd_in data hd p
      rw [wid (n := rd data p) (by omega) (by omega)]
      exact ⟨_, rfl, Int.tmod_nonneg _ hr.1, Int.tmod_lt_of_pos _ (by omega)⟩
    · rw [if_neg h1, if_neg (by omega)]
      have hl : (0 : Int) < data.length := by omega
      have t1 := Int.tmod_nonneg (data.length : Int) hp
      have t2 := Int.tmod_lt_of_pos p hl
      have q0 : (0 : Int) ≤ p * 7 + 3 := by omega
      have t3 := Int.tmod_nonneg (data.length : Int) q0
      have t4 := Int.tmod_lt_of_pos (p * 7 + 3) hl
      rw [wid (n := p * 7) (by omega) (by omega), wid (n := p * 7 + 3) (by omega) (by omega), if_pos t1, if_pos t2, if_pos t3, if_pos t4, if_neg (by omega)]
      have ra := rd_in data hd (Int.tmod p data.length)
      have rb := rd_in data hd (Int.tmod (p * 7 + 3) data.length)
      have d0 : 0 ≤ Int.tdiv p data.length := Int.tdiv_nonneg hp (by omega)
      have d1 : Int.tdiv p data.length ≤ p := Int.tdiv_le_self _ hp
      generalize rd data (Int.tmod p data.length) = A at ra
      generalize rd data (Int.tmod (p * 7 + 3) data.length) = B at rb
      generalize Int.tdiv p data.length = D at d0 d1
      rw [wid (n := A) (by omega) (by omega), wid (n := B) (by omega) (by omega), wid (n := A * 131) (by omega) (by omega), wid (n := B * 1117) (by omega) (by omega), wid (n := A * 131 + B * 1117) (by omega) (by omega),
        wid (n := p * 29) (by omega) (by omega), wid (n := A * 131 + B * 1117 + p * 29) (by omega) (by omega), wid (n := D) (by omega) (by omega), wid (n := D * 53) (by omega) (by omega), wid (n := A * 131 + B * 1117 + p * 29 + D * 53) (by omega) (by omega)]
      have hH : 0 ≤ A * 131 + B * 1117 + p * 29 + D * 53 := by omega
      have hH' : A * 131 + B * 1117 + p * 29 + D * 53 < 2147483648 := by omega
      generalize A * 131 + B * 1117 + p * 29 + D * 53 = H at hH hH'
      have g0 : 0 ≤ Int.tdiv H 64 := Int.tdiv_nonneg hH (by omega)
      have g1 : Int.tdiv H 64 ≤ H := Int.tdiv_le_self _ hH
      rw [wid (n := Int.tdiv H 64) (by omega) (by omega)]
      have hx := xor_in hH hH' g0 (by omega)
      exact ⟨_, rfl, Int.tmod_nonneg _ hx, Int.tmod_lt_of_pos _ (by omega)⟩

/-! ### sets -/
def setB (v : Int) : Bool := decide (0 ≤ v) && decide (v ≤ 7)
def hasB (v i : Int) : Bool := Int.tmod (shr .i64 v i) 2 == 1

theorem spec_set (v : Int) : spec_l1Set.f v = some (setB v) := by
  simp only [spec_l1Set.f, spec_l1All.f, spec_l6In.f, Option.bind_some, setB]
  by_cases h : 0 ≤ v
  · rw [if_pos h]; simp [h]
  · rw [if_neg h]; simp [h]
theorem impl_set (v : Int) : impl_isSet.f v = some (setB v) := by
  simp only [impl_isSet.f, impl_in.f, setB]
  by_cases h : 0 ≤ v
  · rw [if_pos h]; simp [h]
  · rw [if_neg h]; simp [h]
theorem spec_has (v i : Int) (h0 : 0 ≤ i) (h1 : i < 3) : spec_l1Has.f v i = some (hasB v i) := by
  simp [spec_l1Has.f, h0, h1, hasB]
theorem sets {v : Int} (h : setB v = true) : ∃ n : Nat, n ∈ List.range 8 ∧ v = n := by
  simp only [setB, Bool.and_eq_true, decide_eq_true_eq] at h
  exact ⟨v.toNat, by simp; omega, by omega⟩
theorem impl_has_fin : ∀ n ∈ List.range 8, ∀ i ∈ List.range 3, impl_has.f (n : Int) (i : Int) = some (hasB (n : Int) (i : Int)) := by decide +kernel
theorem impl_has (v i : Int) (hv : setB v = true) (h0 : 0 ≤ i) (h1 : i < 3) : impl_has.f v i = some (hasB v i) := by
  obtain ⟨n, hn, rfl⟩ := sets hv
  have := impl_has_fin n hn i.toNat (by simp; omega)
  rw [show ((i.toNat : Nat) : Int) = i by omega] at this
  exact this

def tOk : List Int → Bool
  | [a, b, c] => setB a && hasB a 0 && setB b && hasB b 1 && setB c && hasB c 2
  | _ => false

theorem w1 : wrap64 (0 + 1) = 1 := by unfold wrap64; omega
theorem w2 : wrap64 (1 + 1) = 2 := by unfold wrap64; omega
theorem w3 : wrap64 (2 + 1) = 3 := by unfold wrap64; omega

theorem spec_trusts (tr : List Int) (k : Nat) : spec_l21Trusts.f (k + 4) tr = some (tOk tr) := by
  unfold spec_l21Trusts.f
  by_cases h : (tr.length : Int) = 3
  · rw [if_pos h]
    obtain ⟨a, b, c, rfl⟩ : ∃ a b c, tr = [a, b, c] := by
      match tr, h with
      | [a, b, c], _ => exact ⟨a, b, c, rfl⟩
      | [], h => simp at h
      | [_], h => simp at h
      | [_, _], h => simp at h
      | _ :: _ :: _ :: _ :: _, h => simp at h; omega
    have r0 : rd [a, b, c] 0 = a := rfl
    have r1 : rd [a, b, c] 1 = b := rfl
    have r2 : rd [a, b, c] 2 = c := rfl
    simp only [spec_l21Trusts.l0, spec_set, r0, spec_has a 0 (by omega) (by omega), Option.bind_some, w1, r1, spec_has b 1 (by omega) (by omega), w2, r2, spec_has c 2 (by omega) (by omega), w3, tOk]
    cases setB a <;> cases hasB a 0 <;> cases setB b <;> cases hasB b 1 <;> cases setB c <;> cases hasB c 2 <;> simp
  · rw [if_neg h]
    match tr, h with
    | [a, b, c], h => simp at h
    | [], h => rfl
    | [_], h => rfl
    | [_, _], h => rfl
    | _ :: _ :: _ :: _ :: _, h => rfl

theorem impl_trusts (tr : List Int) (hl : tr.length ≤ 3) (k : Nat) : impl_trustsOk.f (k + 4) tr = some (tOk tr) := by
  unfold impl_trustsOk.f
  match tr, hl with
  | [], _ => simp [impl_trustsOk.l0, tOk]
  | [a], _ =>
    have r0 : rd [a] 0 = a := rfl
    simp only [impl_trustsOk.l0, impl_set, r0, Option.bind_some, w1, tOk]
    by_cases ha : setB a = true
    · simp only [impl_has a 0 ha (by omega) (by omega), ha, Option.bind_some]
      cases hasB a 0 <;> simp
    · simp [ha]
  | [a, b], _ =>
    have r0 : rd [a, b] 0 = a := rfl
    have r1 : rd [a, b] 1 = b := rfl
    simp only [impl_trustsOk.l0, impl_set, r0, r1, Option.bind_some, w1, w2, tOk]
    by_cases ha : setB a = true
    · simp only [impl_has a 0 ha (by omega) (by omega), ha, Option.bind_some]
      by_cases hb : setB b = true
      · simp only [impl_has b 1 hb (by omega) (by omega), hb, Option.bind_some]
        cases hasB a 0 <;> cases hasB b 1 <;> simp
      · simp only [hb]
        cases hasB a 0 <;> simp
    · simp [ha]
  | [a, b, c], _ =>
    have r0 : rd [a, b, c] 0 = a := rfl
    have r1 : rd [a, b, c] 1 = b := rfl
    have r2 : rd [a, b, c] 2 = c := rfl
    simp only [impl_trustsOk.l0, impl_set, r0, r1, r2, Option.bind_some, w1, w2, w3, tOk]
    by_cases ha : setB a = true
    · simp only [impl_has a 0 ha (by omega) (by omega), ha, Option.bind_some]
      by_cases hb : setB b = true
      · simp only [impl_has b 1 hb (by omega) (by omega), hb, Option.bind_some]
        by_cases hc : setB c = true
        · simp only [impl_has c 2 hc (by omega) (by omega), hc, Option.bind_some]
          cases hasB a 0 <;> cases hasB b 1 <;> cases hasB c 2 <;> simp
        · simp only [hc]
          cases hasB a 0 <;> cases hasB b 1 <;> simp
      · simp only [hb]
        cases hasB a 0 <;> simp
    · simp [ha]
  | _ :: _ :: _ :: _ :: _, h => simp at h

def both0 (t b : Int) : Bool := Go.bits .and .i64 t b == 0
theorem both_fin : ∀ t ∈ List.range 8, ∀ b ∈ List.range 8, (spec_l1Both.f 4 (t : Int) (b : Int)).map (· == 0) = some (both0 (t : Int) (b : Int)) := by decide +kernel
theorem both_mono (t b : Int) (k : Nat) : LeO (spec_l1Both.f 4 t b) (spec_l1Both.f (k + 4) t b) := by
  induction k with
  | zero => exact LeO.refl _
  | succ k ih =>
    have e : k + 1 + 4 = k + 4 + 1 := by omega
    rw [e]; exact LeO.trans ih (spec_l1Both.mono _ _ _)
theorem both_ok (t b : Int) (ht : setB t = true) (hb : setB b = true) (k : Nat) : ∃ r, spec_l1Both.f (k + 4) t b = some r ∧ (r == 0) = both0 t b := by
  obtain ⟨n, hn, rfl⟩ := sets ht
  obtain ⟨m, hm, rfl⟩ := sets hb
  obtain ⟨r, h1, h2⟩ := Option.map_eq_some_iff.1 (both_fin n hn m hm)
  exact ⟨r, both_mono _ _ k r h1, h2⟩
theorem both_tot (t b : Int) (k : Nat) : ∃ r, spec_l1Both.f (k + 4) t b = some r := by
  unfold spec_l1Both.f
  simp only [spec_l1Both.l0, spec_has _ 0 (by omega) (by omega : (0 : Int) < 3), spec_has _ 1 (by omega) (by omega : (1 : Int) < 3), spec_has _ 2 (by omega) (by omega : (2 : Int) < 3), Option.bind_some, w1, w2, w3]
  cases hasB t 0 <;> cases hasB b 0 <;> cases hasB t 1 <;> cases hasB b 1 <;> cases hasB t 2 <;> cases hasB b 2 <;> simp

theorem own (tr : List Int) (h : tOk tr = true) (i : Int) (h0 : 0 ≤ i) (h1 : i < 3) : tr.length = 3 ∧ setB (rd tr i) = true ∧ hasB (rd tr i) i = true := by
  match tr, h with
  | [a, b, c], h =>
    simp only [tOk, Bool.and_eq_true] at h
    have hi : i = 0 ∨ i = 1 ∨ i = 2 := by omega
    rcases hi with rfl | rfl | rfl
    · exact ⟨rfl, h.1.1.1.1.1, h.1.1.1.1.2⟩
    · exact ⟨rfl, h.1.1.1.2, h.1.1.2⟩
    · exact ⟨rfl, h.1.2, h.2⟩

def badB (tr : List Int) (h bad : Int) : Bool := tOk tr && (decide (0 ≤ h) && decide (h ≤ 2)) && setB bad && both0 (rd tr h) bad

theorem spec_bad (tr : List Int) (h bad : Int) (k : Nat) : spec_BadFor.f (k + 4) tr [] [] h bad = some (badB tr h bad) := by
  simp only [spec_BadFor.f, spec_trusts, spec_set, spec_l6In.f, Option.bind_some, badB]
  cases ht : tOk tr with
  | false => simp
  | true =>
    by_cases h0 : 0 ≤ h
    · by_cases h2 : h ≤ 2
      · obtain ⟨hl, hs, _⟩ := own tr ht h h0 (by omega)
        simp only [h0, h2, hl, ge_iff_le, if_true, decide_true, Bool.and_true, Bool.true_and]
        cases hb : setB bad with
        | false => simp
        | true =>
          obtain ⟨r, hr, he⟩ := both_ok _ _ hs hb k
          have h3 : h < 3 := by omega
          simp [hr, he, h3]
      · simp [h0, h2]
    · simp [h0]
theorem impl_bad (tr : List Int) (hl : tr.length ≤ 3) (h bad : Int) (k : Nat) : impl_BadFor.f (k + 4) tr [] [] h bad = some (badB tr h bad) := by
  simp only [impl_BadFor.f, impl_trusts tr hl, impl_set, impl_isHost.f, impl_in.f, Option.bind_some, badB, both0]
  cases ht : tOk tr with
  | false => simp
  | true =>
    by_cases h0 : 0 ≤ h
    · by_cases h2 : h ≤ 2
      · obtain ⟨hl, hs, _⟩ := own tr ht h h0 (by omega)
        simp only [h0, h2, hl, if_true, decide_true, Bool.and_true, Bool.true_and, Option.bind_some]
        have h3 : h < 3 := by omega
        cases hb : setB bad with
        | false => simp
        | true => simp [h3]
      · simp [h0, h2]
    · simp [h0]

/-! ### what is drawn -/
theorem open_ok (l0 : List Int) : ∃ data, spec_l6Open.f l0 = some (data, 0) ∧ data.length ≤ 2000 ∧ ∀ x ∈ data, x ∈ l0 := by
  unfold spec_l6Open.f
  by_cases h : (l0.length : Int) > 2000
  · rw [if_pos h, if_pos (by omega)]
    exact ⟨_, rfl, by simp; omega, fun x hx => List.mem_of_mem_take hx⟩
  · rw [if_neg h]; exact ⟨_, rfl, by omega, fun x hx => hx⟩

section
variable (data : List Int) (hd : ∀ x ∈ data, 0 ≤ x ∧ x ≤ 255) (hlen : data.length ≤ 2000)
include hd hlen

omit hd hlen in
theorem either_tot (a b : Int) (k : Nat) : ∃ r, spec_l1Either.f (k + 4) a b = some r := by
  obtain ⟨r, hr⟩ := both_tot a b k
  exact ⟨_, by simp [spec_l1Either.f, hr]; rfl⟩

theorem trusts_step (k : Nat) (x3 : List Int) (i p : Int) (h0 : 0 ≤ i) (h1 : i < 3) (hx : x3.length ≤ 3) (hp : 0 ≤ p) (hp' : p ≤ 900) :
    ∃ t, spec_l71Trusts.l0 (k + 4 + 1) x3 i data p = spec_l71Trusts.l0 (k + 4) (x3 ++ [t]) (i + 1) data (p + 1) := by
  simp only [spec_l71Trusts.l0, h1, h0, if_true, Option.bind_some]
  obtain ⟨v, hv, v0, v1⟩ := pick_ok data hd hlen p 9 hp (by omega) (by omega) (by omega) (k + 3)
  have e : k + 3 + 1 = k + 4 := by omega
  rw [e] at hv
  obtain ⟨t, ht⟩ := either_tot (shl .i64 1 i) (rd ([7, 7, 3, 5, 6, 0, 1, 2, 4] : List Int) v) k
  have hl : x3.length < 17592186044416 := by omega
  have hv9 : v < (([7, 7, 3, 5, 6, 0, 1, 2, 4] : List Int).length : Int) := by simpa using v1
  refine ⟨t, ?_⟩
  simp only [hv, Option.bind_some, v0, if_true, hv9, ht, hl]
  rw [wid (n := i + 1) (by omega) (by omega)]

theorem trusts_end (k : Nat) (x3 : List Int) (p : Int) (hx : x3.length = 3) (hp : 0 ≤ p) (hp' : p ≤ 900) :
    ∃ tr p', spec_l71Trusts.l0 (k + 4 + 1) x3 3 data p = some (tr, p') ∧ tr.length ≤ 3 ∧ 0 ≤ p' ∧ p' ≤ p + 2 := by
  simp only [spec_l71Trusts.l0, show ¬ ((3 : Int) < 3) by omega, if_false]
  obtain ⟨v, hv, v0, v1⟩ := pick_ok data hd hlen p 24 hp (by omega) (by omega) (by omega) (k + 3)
  have e : k + 3 + 1 = k + 4 := by omega
  rw [e] at hv
  simp only [hv, Option.bind_some]
  by_cases z0 : v = 0
  · rw [if_pos z0]
    obtain ⟨u, hu, u0, u1⟩ := pick_ok data hd hlen (p + 1) 3 (by omega) (by omega) (by omega) (by omega) (k + 3)
    rw [e] at hu
    have hu3 : u < (([(-1), 8, 6] : List Int).length : Int) := by simpa using u1
    simp only [hu, Option.bind_some, u0, if_true, hu3, hx]
    exact ⟨_, _, rfl, by simp [hx], by omega, by omega⟩
  · rw [if_neg z0]
    by_cases z1 : v = 1
    · rw [if_pos z1, if_pos (by omega)]
      exact ⟨_, _, rfl, by simp [hx], by omega, by omega⟩
    · rw [if_neg z1]
      exact ⟨_, _, rfl, by omega, by omega, by omega⟩

theorem trusts_ok (k : Nat) : ∃ tr p, spec_l71Trusts.f (k + 8) data 0 = some (tr, p) ∧ tr.length ≤ 3 ∧ 0 ≤ p ∧ p ≤ 5 := by
  unfold spec_l71Trusts.f
  obtain ⟨a, ha⟩ := trusts_step data hd hlen (k + 3) [] 0 0 (by omega) (by omega) (by simp) (by omega) (by omega)
  obtain ⟨b, hb⟩ := trusts_step data hd hlen (k + 2) ([] ++ [a]) (0 + 1) (0 + 1) (by omega) (by omega) (by simp) (by omega) (by omega)
  obtain ⟨c, hc⟩ := trusts_step data hd hlen (k + 1) ([] ++ [a] ++ [b]) (0 + 1 + 1) (0 + 1 + 1) (by omega) (by omega) (by simp) (by omega) (by omega)
  obtain ⟨tr, p, h, h1, h2, h3⟩ := trusts_end data hd hlen k ([] ++ [a] ++ [b] ++ [c]) (0 + 1 + 1 + 1) (by simp) (by omega) (by omega)
  refine ⟨tr, p, ?_, h1, h2, by omega⟩
  have e3 : k + 3 + 4 + 1 = k + 8 := by omega
  have e2 : k + 2 + 4 + 1 = k + 3 + 4 := by omega
  have e1 : k + 1 + 4 + 1 = k + 2 + 4 := by omega
  have e0 : k + 4 + 1 = k + 1 + 4 := by omega
  rw [e3] at ha; rw [e2] at hb; rw [e1] at hc; rw [e0] at h
  rw [ha, hb, hc]
  exact h

theorem draw_loop (tr : List Int) : ∀ (j : Nat) (x7 x8 p : Int) (k : Nat), j ≤ 8 → 0 ≤ p → p ≤ 50 + 3 * (8 - j : Nat) →
    ∃ h bad, spec_DrawBadFor.l0 (k + 6 + 2 * j) x7 x8 ((8 - j : Nat) : Int) data p tr = some (tr, [], [], h, bad) := by
  intro j
  induction j with
  | zero =>
    intro x7 x8 p k _ hp hp'
    refine ⟨x7, x8, ?_⟩
    have e : k + 6 + 2 * 0 = k + 4 + 1 + 1 := by omega
    rw [e]
    simp [spec_DrawBadFor.l0, spec_DrawBadFor.j1]
  | succ j ih =>
    intro x7 x8 p k hj hp hp'
    have e : k + 6 + 2 * (j + 1) = k + 6 + 2 * j + 1 + 1 := by omega
    have hlt : ((8 - (j + 1) : Nat) : Int) < 8 := by omega
    rw [e]
    simp only [spec_DrawBadFor.l0, hlt, if_true]
    obtain ⟨v, hv, v0, v1⟩ := pick_ok data hd hlen p 8 hp (by omega) (by omega) (by omega) (k + 6 + 2 * j)
    have e1 : k + 6 + 2 * j + 1 = k + 3 + 2 * j + 4 := by omega
    simp only [hv, Option.bind_some]
    have jump : ∀ (p1 : Int), 0 ≤ p1 → p1 ≤ p + 1 → ∀ b : Bool, ∃ h bad, spec_DrawBadFor.j1 (k + 6 + 2 * j + 1) x7 x8 ((8 - (j + 1) : Nat) : Int) b data p1 tr = some (tr, [], [], h, bad) := by
      intro p1 h1 h2 b
      cases b with
      | false => exact ⟨x7, x8, by simp [spec_DrawBadFor.j1]⟩
      | true =>
        have e2 : k + 6 + 2 * j = k + 5 + 2 * j + 1 := by omega
        obtain ⟨u, hu, u0, u1⟩ := pick_ok data hd hlen p1 3 h1 (by omega) (by omega) (by omega) (k + 5 + 2 * j)
        obtain ⟨y, hy, y0, y1⟩ := pick_ok data hd hlen (p1 + 1) 8 (by omega) (by omega) (by omega) (by omega) (k + 5 + 2 * j)
        obtain ⟨h, bad, hh⟩ := ih u y (p1 + 1 + 1) k (by omega) (by omega) (by omega)
        refine ⟨h, bad, ?_⟩
        simp only [spec_DrawBadFor.j1, if_true]
        rw [← e2] at hu hy
        simp only [hu, hy, Option.bind_some]
        rw [wid (by omega) (by omega), show ((8 - (j + 1) : Nat) : Int) + 1 = ((8 - j : Nat) : Int) by omega]
        exact hh
    by_cases hv0 : v > 0
    · rw [if_pos hv0, e1, spec_bad, Option.bind_some, ← e1]
      exact jump (p + 1) (by omega) (by omega) _
    · rw [if_neg hv0]
      exact jump (p + 1) (by omega) (by omega) _

end

theorem draw_ok (l0 : List Int) (hx : ∀ x ∈ l0, 0 ≤ x ∧ x ≤ 255) : ∃ tr h bad, spec_DrawBadFor.f 30 l0 = some (tr, [], [], h, bad) ∧ tr.length ≤ 3 := by
  obtain ⟨data, h1, hlen, hmem⟩ := open_ok l0
  have hd : ∀ x ∈ data, 0 ≤ x ∧ x ≤ 255 := fun x h => hx x (hmem x h)
  obtain ⟨tr, p, h2, htr, p0, p1⟩ := trusts_ok data hd hlen 22
  obtain ⟨a, ha, _, _⟩ := pick_ok data hd hlen p 4 (by omega) (by omega) (by omega) (by omega) 29
  obtain ⟨b, hb, _, _⟩ := pick_ok data hd hlen (p + 1) 9 (by omega) (by omega) (by omega) (by omega) 29
  obtain ⟨c, hc, _, _⟩ := pick_ok data hd hlen (p + 1 + 1) 9 (by omega) (by omega) (by omega) (by omega) 29
  obtain ⟨d, hd', _, _⟩ := pick_ok data hd hlen (p + 1 + 1 + 1) 9 (by omega) (by omega) (by omega) (by omega) 29
  obtain ⟨h, bad, hh⟩ := draw_loop data hd hlen tr 8 (wrap64 (a - (wrap64 (Int.tdiv b 8)))) (wrap64 (c - (wrap64 (Int.tdiv d 8)))) (p + 1 + 1 + 1 + 1) 8 (by omega) (by omega) (by omega)
  refine ⟨tr, h, bad, ?_, htr⟩
  unfold spec_DrawBadFor.f
  simp only [h1, h2, ha, hb, hc, hd', Option.bind_some]
  exact hh

/-! ### the law -/
theorem lc_fin : ∀ t ∈ List.range 8, ∀ b ∈ List.range 8, both0 (t : Int) (b : Int) = true → ∀ i ∈ List.range 3, hasB (b : Int) (i : Int) = true → hasB (t : Int) (i : Int) = false := by decide +kernel
theorem lc_apart {t b i : Int} (ht : setB t = true) (hb : setB b = true) (h : both0 t b = true) (h0 : 0 ≤ i) (h1 : i < 3) (hi : hasB b i = true) : hasB t i = false := by
  obtain ⟨n, hn, rfl⟩ := sets ht
  obtain ⟨m, hm, rfl⟩ := sets hb
  have := lc_fin n hn m hm h i.toNat (by simp; omega)
  rw [show ((i.toNat : Nat) : Int) = i by omega] at this
  exact this hi
theorem lc_has (v i : Int) (h0 : 0 ≤ i) : laws_lcHas.f v i = some (hasB v i) := by simp [laws_lcHas.f, h0, hasB]
theorem and_zero : ∀ t ∈ List.range 8, both0 (t : Int) 0 = true := by decide +kernel

theorem FnBadFor : laws_FnBadFor.Pure := by
  intro l0 _ _ hwf
  have hx : ∀ x ∈ l0, 0 ≤ x ∧ x ≤ 255 := fun x h => by
    have := hwf x h
    simp [Lit.wf, IntKind.min, IntKind.max, IntKind.signed, IntKind.bits] at this
    omega
  refine ⟨30, ?_⟩
  unfold laws_FnBadFor.f
  by_cases hl : (l0.length : Int) > 1048576
  · rw [if_pos hl]
  · rw [if_neg hl]
    obtain ⟨tr, h, bad, hdraw, htr⟩ := draw_ok l0 hx
    have i30 := impl_bad tr htr h bad 26
    have s30 := spec_bad tr h bad 26
    have i2 := impl_bad tr htr h 0
    simp only [hdraw, Option.bind_some, i30, s30]
    have hne : (badB tr h bad != badB tr h bad) = false := by cases badB tr h bad <;> rfl
    simp only [hne, Bool.false_eq_true, if_false]
    cases hb : badB tr h bad with
    | false =>
      have s29 := spec_bad tr h bad 25
      rw [hb] at s29
      simp [laws_FnBadFor.j0, s29]
    | true =>
      have hb' := hb
      simp only [badB, Bool.and_eq_true, decide_eq_true_eq] at hb'
      obtain ⟨⟨⟨ht, h0, h2⟩, hs⟩, hz⟩ := hb'
      obtain ⟨hl3, hst, hown⟩ := own tr ht h h0 (by omega)
      have hlt : h < (tr.length : Int) := by omega
      have key : ∀ i : Int, 0 ≤ i → i < 3 → hasB bad i = true → hasB (rd tr h) i = false := fun i a b c => lc_apart hst hs hz a b c
      have hh : hasB bad h = false := by
        cases hq : hasB bad h with
        | false => rfl
        | true => rw [key h h0 (by omega) hq] at hown; cases hown
      have hzero : badB tr h 0 = true := by
        obtain ⟨n, hn, hn'⟩ := sets hst
        simp only [badB, ht, h0, h2, hn', and_zero n hn]
        rfl
      have b24 := i2 21
      rw [hzero] at b24
      have step : ∀ (k : Nat) (i : Int), 0 ≤ i → i < 3 → laws_FnBadFor.l0 (k + 1) h bad i tr [] [] = laws_FnBadFor.l0 k h bad (wrap64 (i + 1)) tr [] [] := by
        intro k i a b
        simp only [laws_FnBadFor.l0, b, if_true, lc_has _ i a, Option.bind_some, h0, hlt]
        cases hq : hasB bad i with
        | false => simp
        | true => simp [key i a b hq]
      simp only [Bool.not_true, laws_FnBadFor.j0, Bool.false_eq_true, if_false]
      rw [step 28 0 (by omega) (by omega), w1, step 27 1 (by omega) (by omega), w2, step 26 2 (by omega) (by omega), w3]
      have b25 := i2 21
      rw [hzero] at b25
      simp [laws_FnBadFor.l0, lc_has _ h h0, hh, b25]

end Go.Proofs.Ytkcneecnniimdaa.Pure
