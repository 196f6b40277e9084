/- What the law FnSwayAll, and what it alone calls, returns. Conditions: none. -/
import Derived.Test.YtbmeikhhfjefoaaA5
set_option linter.all false
section
namespace Go.Proofs.X
open Go Go.Proofs.XVai Go.Proofs Go.Proofs.XN
set_option linter.unusedVariables false
set_option linter.unusedSimpArgs false
set_option maxHeartbeats 40000000
set_option maxRecDepth 100000

theorem sameOn_app {a b : List Int} {vs : List Bool} {u w : Int} {t : Bool} (ha : a.length = vs.length) (hb : b.length = vs.length) (h : sameOn a b vs = true) (ht : t = true → u = w) : sameOn (a ++ [u]) (b ++ [w]) (vs ++ [t]) = true := by
  rw [sameOn_get] at h ⊢
  intro i hi hv
  rw [List.length_append, List.length_singleton] at hi
  by_cases he : i < vs.length
  · have := h i he (by
      rw [List.getD_eq_getElem?_getD, List.getElem?_append_left he] at hv
      rw [List.getD_eq_getElem?_getD]; exact hv)
    rw [List.getD_eq_getElem?_getD, List.getD_eq_getElem?_getD] at this ⊢
    rw [List.getElem?_append_left (by omega), List.getElem?_append_left (by omega)]
    exact this
  · have e : i = vs.length := by omega
    subst e
    rw [List.getD_eq_getElem?_getD, List.getElem?_append_right (Nat.le_refl _), Nat.sub_self] at hv
    have := ht (by simpa using hv)
    rw [List.getD_eq_getElem?_getD, List.getD_eq_getElem?_getD, ← ha, List.getElem?_append_right (Nat.le_refl _), ha, ← hb, List.getElem?_append_right (Nat.le_refl _)]
    simpa using this
abbrev bitI (m : Nat) (i : Int) : Int := ((m : Int).fdiv (2 ^ (min i.toNat IntKind.i64.bits))).tmod 2
theorem bitI_01 {m : Nat} (hm : m ≤ 1048576) (i : Int) : bitI m i = 0 ∨ bitI m i = 1 := by
  have hp : (0 : Int) < 2 ^ (min i.toNat IntKind.i64.bits) := Int.pow_pos (by omega)
  have h1 : 0 ≤ (m : Int).fdiv (2 ^ (min i.toNat IntKind.i64.bits)) := Int.fdiv_nonneg (by omega) (by omega)
  rw [bitI, Int.tmod_eq_emod_of_nonneg h1]
  omega
theorem appx {xs : List (List HV)} {x : List HV} {n : Nat} (h : xs.length = n) : (xs ++ [x])[n]? = some x := by
  subst h; simp
theorem sets {xs : List (List HV)} {x y : List HV} {n : Nat} (h : xs.length = n) : (xs ++ [x]).set n y = xs ++ [y] := by
  subst h; simp
theorem fzV_slF {n0 : Nat} {S : St} {x : HV} {k n : Nat} {rows : List (List HV)} (h0 : x = .sl k n) (hk : n0 ≤ k) (h1 : S[k]? = some (.cells false rows)) (hn : rows.length = n) (hp : rows.all (fun r => r.all pureC) = true) : frzV n0 x S = some (.lst rows, S.set k (.cells true rows)) := by
  subst h0
  exact fz_slF rfl hk h1 hn hp
/-- The two rows that are made. -/
structure Two (S : St) (ls : List Lab) (ss : Stps) (tr : List Bool) (S1 : St) (a b : List Int) (n : Nat) : Prop where
  la : a.length = n
  lb : b.length = n
  ba : ∀ x ∈ a, x = 0 ∨ x = 1
  bb : ∀ x ∈ b, x = 0 ∨ x = 1
  sm : sameOn a b tr = true
  f0 : S1[S.length + 0]? = some (.cells false [[LS ls, .lst ss.rows]])
  f1 : S1[S.length + 1]? = some (.cells false (a.map irow))
  f2 : S1[S.length + 2]? = some (.cells false (b.map irow))
theorem Two.add {S : St} {ls : List Lab} {ss : Stps} {tr : List Bool} {S1 S1' : St} {a b : List Int} {n : Nat} {u w : Int} {t : Bool} (h : Two S ls ss tr S1 a b n) (hn : tr.length = n) (hu : u = 0 ∨ u = 1) (hw : w = 0 ∨ w = 1) (ht : t = true → u = w)
    (g0 : S1'[S.length + 0]? = some (.cells false [[LS ls, .lst ss.rows]])) (g1 : S1'[S.length + 1]? = some (.cells false (a.map irow ++ [irow u]))) (g2 : S1'[S.length + 2]? = some (.cells false (b.map irow ++ [irow w]))) : Two S ls ss (tr ++ [t]) S1' (a ++ [u]) (b ++ [w]) (n + 1) :=
  ⟨by simp [h.la], by simp [h.lb], fun x hx => by rcases List.mem_append.1 hx with hx | hx
                                                  · exact h.ba x hx
                                                  · simp at hx; subst hx; exact hu,
    fun x hx => by rcases List.mem_append.1 hx with hx | hx
                   · exact h.bb x hx
                   · simp at hx; subst hx; exact hw,
    sameOn_app (by rw [h.la, hn]) (by rw [h.lb, hn]) h.sm ht, g0, by rw [g1, List.map_append]; rfl, by rw [g2, List.map_append]; rfl⟩
theorem law_SwayAll (bs more : List UInt8) (S : St) : Ev Y laws_FnSwayAll [BY bs, BY more] S (.bool true) S := by
  by_cases hlen : bs.length > 1048576
  · have hc0 : ((bs.map brow).length : Int) > 1048576 := by simp; omega
    refine E_start (h := ?_)
    repeat' (first | refine c0 ?_ | refine c1 ?_ | refine c7 ?_ | refine d2 ?_ | refine c9 ?_ | refine d4 ?_ | refine a0 (hk := ?_) | refine u3 (hk := ?_) | refine a5 (hk := ?_) | refine d6 (ht := ?_))
    exact rB (hv := rfl)
  by_cases hlen2 : more.length > 1048576
  · have hc0 : ¬ (((bs.map brow).length : Int) > 1048576) := by simp; omega
    have hc1 : ((more.map brow).length : Int) > 1048576 := by simp; omega
    refine E_start (h := ?_)
    repeat' (first | refine c0 ?_ | refine c1 ?_ | refine c7 ?_ | refine d2 ?_ | refine c9 ?_ | refine d4 ?_ | refine u4 (hk := ?_) | refine a5 (hk := ?_) | refine u7 (hk := ?_))
    · exact rB (hv := rfl)
  have hc0 : ¬ (((bs.map brow).length : Int) > 1048576) := by simp; omega
  have hc1 : ¬ (((more.map brow).length : Int) > 1048576) := by simp; omega
  refine E_start (h := ?_)
  repeat' (first | refine c0 ?_ | refine c7 ?_ | refine d2 ?_ | refine d0 ?_ | refine d4 ?_ | refine u4 (hk := ?_) | refine a5 (hk := ?_) | refine u8 (hk := ?_))
  refine kX (he := k_DrawSwayOf bs _) (hk := ?_)
  rintro v S2 ⟨rfl, ls, ss, h, rfl, hs, hl, hh1, hh2⟩
  have hrl := fun m => row2_len m ls.length
  by_cases hg : progOk ls ss = true ∧ inB h 0 2 = true ∧ swayOf ls ss h = none
  · obtain ⟨hok, hin, hr⟩ := hg
    obtain ⟨p1, p2, p3, p4⟩ := progOk_in hok
    have f1 : ∀ S, Ev Y spec_SwayOf [PR ls ss, I h] S (.tup [L [], L [], .bool false]) S := fun S => by
      have := k_spec_SwayOf ls ss h S (by omega) (by omega)
      rw [hr] at this; exact this
    have f2 : ∀ S, Ev Y impl_SwayOf [PR ls ss, I h] S (.tup [L [], L [], .bool false]) S := fun S => by
      have := k_impl_SwayOf ls ss h S (by omega) (by omega)
      rw [hr] at this; exact this
    have f3 : ∀ S, Ev Y spec_ProgOk [PR ls ss] S (.bool true) S := fun S => by
      have := k_spec_ProgOk ls ss S (by omega) (by omega)
      rwa [hok] at this
    have hin' : 0 ≤ h ∧ h ≤ 2 := by simpa [inB] using hin
    have hd1 : ¬ (h < 0) := by omega
    have hd2 : ¬ (h ≥ 3) := by omega
    repeat' (first | refine c0 ?_ | refine c7 ?_ | refine d2 ?_ | refine c8 ?_ | refine d0 ?_ | refine d4 ?_ | refine k0 (he := (by first | exact f1 _ | exact f2 _ | exact lcInts_eq _ _ (by simp) | exact f3 _ | exact k_impl_TypeTrusts' _ _ hok)) (hk := ?_) | refine b0 (hk := ?_) | refine b4 (hk := ?_) | refine a2 (hk := ?_) | refine u4 (hk := ?_) | refine a5 (hk := ?_) | refine b5 (hk := ?_) | refine b7 (hk := ?_) | refine u8 (hk := ?_))
    have hqv : ∀ x y : List Int, x.length = ls.length → y.length = ls.length → (∀ z ∈ x, z = 0 ∨ z = 1) → (∀ z ∈ y, z = 0 ∨ z = 1) → sameOn x y (trustsOf ls h) = true → (runSets (runOf ls ss x).ws (trustsOf ls h) == runSets (runOf ls ss y).ws (trustsOf ls h)) = true := fun x y a b c d e => by
      rw [sway_all hok hin hr a b c d e]; exact beq_self_eq_true _
    refine C_list ls (fun pre r T' S' => ∃ (T0 : Tm) (S1 : St) (a b : List Int), Ext S S1 ∧ Two S ls ss (trustsOf pre h) S1 a b pre.length ∧
        T' = putL T0 [(1, BY more), (5, .ptr (S.length + 0) 1 0 0), (13, .sl (S.length + 1) pre.length), (14, .sl (S.length + 2) pre.length), (15, BL (trustsOf ls h)), (16, I pre.length)] ∧ S' = S1 ++ [])
      ⟨_, _, [], [], ex0, ⟨rfl, rfl, by simp, by simp, rfl, get_own rfl, get_own rfl, get_own rfl⟩, at_mk ⟨rfl, rfl, rfl, rfl, rfl, rfl, trivial⟩, (List.append_nil _).symm⟩ ?_ ?_
    · rintro pre x r T' S' hx ⟨T0, S1, a, b, hE, hT, rfl, rfl⟩
      have hg := mid hx
      have hlt := mid_lt hx
      have hf0 := hT.f0
      have hf1 := hT.f1
      have hf2 := hT.f2
      have la := hT.la
      have lb := hT.lb
      have hcc : (pre.length : Int) < ((ls.map lrow).length : Int) := by simp; omega
      have hgt : (trustsOf ls h)[pre.length]? = some (hasG x.t h) := by simp [trustsOf, hg]
      have ht1 : trustsOf (pre ++ [x]) h = trustsOf pre h ++ [hasG x.t h] := by simp [trustsOf]
      have e1 : (a.map irow).length = pre.length := by simp [la]
      have e2 : (b.map irow).length = pre.length := by simp [lb]
      have n01 : S.length + 0 ≠ S.length + 1 := by omega
      have n02 : S.length + 0 ≠ S.length + 2 := by omega
      have n12 : S.length + 1 ≠ S.length + 2 := by omega
      have z1 : (a.map irow).all (fun r => r.length == 1) = true := by simp
      have z2 : (b.map irow).all (fun r => r.length == 1) = true := by simp
      have hi2 : IntKind.i64.wrap ((pre.length : Int) + 2) = ((pre.length + 2 : Nat) : Int) := by rw [i64_id (by omega) (by omega)]; simp
      have hml : (more.map brow).length ≤ 1048576 := by simp; omega
      have hb1 := bitI_01 hml (pre.length : Int)
      have hb2 := bitI_01 hml (IntKind.i64.wrap ((pre.length : Int) + 2))
      repeat' (first | refine c0 ?_ | refine c3 ?_ | refine c7 ?_ | refine d2 ?_ | refine c8 ?_ | refine d0 ?_ | refine d4 ?_ | refine a5 (hk := ?_) | refine b5 (hk := ?_) | refine b6 (hk := ?_) | refine b8 (hk := ?_) | refine p0 (hk := ?_) | refine g2 (hw := ?_) | (with_reducible intro hc) | refine u7 (hk := ?_) | refine d9 (ht := ?_) (hf := ?_))
      · refine b9 (hS := get_old (setN n12 (setE hf1))) (hm := by simp [la]) (h6 := appx e1) (hk := ?_)
        refine b5 (h3 := get_old (setN n12 (setE hf1))) (h4 := by simp [la]) (h5 := appx e1) (hk := ?_)
        refine b9 (hS := get_old (setE (setN (Ne.symm n12) hf2))) (hm := by simp [lb]) (h6 := appx e2) (hk := ?_)
        refine b7 (h3 := get_old (setE (setN (Ne.symm n12) hf2))) (h4 := by simp [lb]) (h5 := appx e2) (h10 := set_old (setE (setN (Ne.symm n12) hf2))) (hk := ?_)
        repeat' (first | refine c0 ?_ | refine c3 ?_ | refine d2 ?_ | refine d4 ?_ | refine a5 (hk := ?_))
        refine ⟨_, _, a ++ [bitI (more.map brow).length pre.length], b ++ [bitI (more.map brow).length pre.length], ex1 (ex2 (ex2 (ex2 hE (by omega)) (by omega)) (by omega)), ?_, at_mk ⟨rfl, rfl, by show HV.sl _ _ = _; simp, by show HV.sl _ _ = _; simp, rfl, inc (by omega), trivial⟩, (List.append_nil _).symm⟩
        rw [ht1, List.length_append]
        refine hT.add (by simp [trustsOf]) hb1 hb1 (fun _ => rfl) (get_old (setN n02 (setN n02 (setN n01 hf0)))) (get_old (setN n12 (setN n12 (setE hf1)))) ?_
        rw [get_old (setE (setE (setN (Ne.symm n12) hf2))), sets e2]; rfl
      · refine ⟨_, _, a ++ [bitI (more.map brow).length pre.length], b ++ [bitI (more.map brow).length (IntKind.i64.wrap ((pre.length : Int) + 2))], ex1 (ex2 (ex2 hE (by omega)) (by omega)), ?_, at_mk ⟨rfl, rfl, by show HV.sl _ _ = _; simp, by show HV.sl _ _ = _; simp, rfl, inc (by omega), trivial⟩, (List.append_nil _).symm⟩
        rw [ht1, List.length_append]
        exact hT.add (by simp [trustsOf]) hb1 hb2 (fun h => by rw [hc] at h; cases h) (get_old (setN n02 (setN n01 hf0))) (get_old (setN n12 (setE hf1))) (get_old (setE (setN (Ne.symm n12) hf2)))
    · rintro T' S' ⟨T0, S1, a, b, hE, hT, rfl, rfl⟩
      have hf0 := hT.f0
      have hf1 := hT.f1
      have hf2 := hT.f2
      have la := hT.la
      have lb := hT.lb
      have hcc : ¬ ((ls.length : Int) < ((ls.map lrow).length : Int)) := by simp
      have n01 : S.length + 0 ≠ S.length + 1 := by omega
      have n02 : S.length + 0 ≠ S.length + 2 := by omega
      have n12 : S.length + 1 ≠ S.length + 2 := by omega
      have z1 := runOf_sz hok a
      have z2 := runOf_sz hok b
      have hfin := hqv a b la lb hT.ba hT.bb hT.sm
      repeat' (first | refine c0 ?_ | refine c2 ?_ | refine c5 ?_ | refine c7 ?_ | refine d2 ?_ | refine d1 ?_ | refine d4 ?_ | refine a5 (hk := ?_) | refine b5 (hk := ?_) | refine u8 (hk := ?_))
      refine kZ (ha := fmS rfl (fmS (fzV_slF rfl (Nat.zero_le _) (get_old hf1) (by simp [la]) (irow_pure a)) fm0)) (he := k_impl_RunOf ls ss a _ (by omega) (by omega) (by omega)) (hk := ?_)
      rw [set_old hf1]
      repeat' (first | refine c0 ?_ | refine c7 ?_ | refine d2 ?_ | refine d4 ?_ | refine b0 (hk := ?_) | refine a5 (hk := ?_) | refine b5 (hk := ?_) | refine b7 (hk := ?_))
      refine kZ (ha := fmS rfl (fmS (fzV_slF rfl (Nat.zero_le _) (get_old (setN (Ne.symm n12) hf2)) (by simp [lb]) (irow_pure b)) fm0)) (he := k_impl_RunOf ls ss b _ (by omega) (by omega) (by omega)) (hk := ?_)
      rw [set_old (setN (Ne.symm n12) hf2)]
      repeat' (first | refine c0 ?_ | refine c7 ?_ | refine c9 ?_ | refine d4 ?_ | refine d3' (h := ?_) | refine d4' ?_ | refine k0' (he := (by first | exact k_impl_RunSets _ _ _ _ _ (by omega) (by simp [trustsOf]; omega) | exact k_laws_lcWrites _ _ _ (by have := runSets_len (runOf ls ss a).ws (trustsOf ls h); omega) (by have := runSets_len (runOf ls ss b).ws (trustsOf ls h); omega))) (hk := ?_) | refine b0 (hk := ?_) | refine a5 (hk := ?_) | refine b7 (hk := ?_) | refine e5' (hk := ?_) | refine f5' (hk := ?_))
      exact rBx (ex2 (ex2 hE (by omega)) (by omega)) (hv := hfin)
  · cases hr : swayOf ls ss h with
    | some p =>
      obtain ⟨k, i⟩ := p
      obtain ⟨w1, w2, w3, w4, w5, w6⟩ := sway_found hr
      obtain ⟨p1, p2, p3, p4⟩ := progOk_in w1
      have f1 : ∀ S, Ev Y spec_SwayOf [PR ls ss, I h] S (.tup [L (row2 k ls.length), L (row2 i ls.length), .bool true]) S := fun S => by
        have := k_spec_SwayOf ls ss h S (by omega) (by omega)
        rw [hr] at this; exact this
      have f2 : ∀ S, Ev Y impl_SwayOf [PR ls ss, I h] S (.tup [L (row2 k ls.length), L (row2 i ls.length), .bool true]) S := fun S => by
        have := k_impl_SwayOf ls ss h S (by omega) (by omega)
        rw [hr] at this; exact this
      repeat' (first | refine c0 ?_ | refine c1 ?_ | refine c7 ?_ | refine d2 ?_ | refine c9 ?_ | refine d4 ?_ | refine a0 (hk := ?_) | refine k0 (he := (by first | exact f1 _ | exact f2 _ | exact lcInts_eq _ _ (by rw [hrl]; omega))) (hk := ?_) | refine b0 (hk := ?_) | refine a1 (hk := ?_) | refine a2 (hk := ?_) | refine a5 (hk := ?_) | refine b5 (hk := ?_) | refine b7 (hk := ?_) | refine d6 (ht := ?_))
      exact rB (hv := rfl)
    | none =>
      have f1 : ∀ S, Ev Y spec_SwayOf [PR ls ss, I h] S (.tup [L [], L [], .bool false]) S := fun S => by
        have := k_spec_SwayOf ls ss h S (by omega) (by omega)
        rw [hr] at this; exact this
      have f2 : ∀ S, Ev Y impl_SwayOf [PR ls ss, I h] S (.tup [L [], L [], .bool false]) S := fun S => by
        have := k_impl_SwayOf ls ss h S (by omega) (by omega)
        rw [hr] at this; exact this
      by_cases hok : progOk ls ss = true
      · have f3 : ∀ S, Ev Y spec_ProgOk [PR ls ss] S (.bool true) S := fun S => by
          have := k_spec_ProgOk ls ss S (by omega) (by omega)
          rwa [hok] at this
        have hni : ¬ (0 ≤ h ∧ h ≤ 2) := fun e => hg ⟨hok, by simpa [inB] using e, hr⟩
        by_cases hd1 : h < 0
        · repeat' (first | refine c0 ?_ | refine c1 ?_ | refine c7 ?_ | refine d2 ?_ | refine c9 ?_ | refine d4 ?_ | refine a0 (hk := ?_) | refine k0 (he := (by first | exact f1 _ | exact f2 _ | exact lcInts_eq _ _ (by simp) | exact f3 _)) (hk := ?_) | refine b0 (hk := ?_) | refine a1 (hk := ?_) | refine a2 (hk := ?_) | refine u3 (hk := ?_) | refine a5 (hk := ?_) | refine b5 (hk := ?_) | refine b7 (hk := ?_) | refine d6 (ht := ?_))
          all_goals exact rB (hv := rfl)
        · have hd2 : h ≥ 3 := by omega
          repeat' (first | refine c0 ?_ | refine c1 ?_ | refine c7 ?_ | refine d2 ?_ | refine c9 ?_ | refine d4 ?_ | refine k0 (he := (by first | exact f1 _ | exact f2 _ | exact lcInts_eq _ _ (by simp) | exact f3 _)) (hk := ?_) | refine b0 (hk := ?_) | refine a1 (hk := ?_) | refine a2 (hk := ?_) | refine u4 (hk := ?_) | refine a5 (hk := ?_) | refine b5 (hk := ?_) | refine b7 (hk := ?_) | refine u7 (hk := ?_))
          all_goals exact rB (hv := rfl)
      · have f3 : ∀ S, Ev Y spec_ProgOk [PR ls ss] S (.bool false) S := fun S => by
          have := k_spec_ProgOk ls ss S (by omega) (by omega)
          rwa [show progOk ls ss = false by simpa using hok] at this
        repeat' (first | refine c0 ?_ | refine c1 ?_ | refine c7 ?_ | refine d2 ?_ | refine c9 ?_ | refine d4 ?_ | refine a0 (hk := ?_) | refine k0 (he := (by first | exact f1 _ | exact f2 _ | exact lcInts_eq _ _ (by simp) | exact f3 _)) (hk := ?_) | refine b0 (hk := ?_) | refine a1 (hk := ?_) | refine a2 (hk := ?_) | refine a5 (hk := ?_) | refine b5 (hk := ?_) | refine b7 (hk := ?_) | refine d6 (ht := ?_))
        all_goals exact rB (hv := rfl)
end Go.Proofs.X
end
