/- The contracts of functions that the statement reaches, part 8. Conditions: none. -/
import Derived.Test.YtkcneecnniimdaaT7
namespace Go.Proofs.XT
open Go Go.Proofs.XVai Go.Proofs
set_option linter.unusedVariables false
set_option linter.unusedSimpArgs false

theorem setG_nat {v : Int} (h : setG v = true) : ∃ n : Nat, n ∈ List.range 8 ∧ v = n := by
  simp [setG] at h
  exact ⟨v.toNat, by simp; omega, by omega⟩
theorem has_fin : ∀ n ∈ List.range 8, ∀ i ∈ List.range 3, hasG (n : Int) (i : Int) = hasI (n : Int) (i : Int) := by decide +kernel
theorem has_eq {v : Int} (h : setG v = true) {i : Nat} (hi : i < 3) : hasG v i = hasI v i := by
  obtain ⟨n, hn, rfl⟩ := setG_nat h
  exact has_fin n hn i (by simpa using hi)
theorem both_fin : ∀ t ∈ List.range 8, ∀ b ∈ List.range 8, (bothG (t : Int) (b : Int) == 0) = (IntKind.i64.wrap (BitVec.ofInt 64 (t : Int) &&& BitVec.ofInt 64 (b : Int)).toNat == 0) := by decide +kernel
theorem both_eq {t b : Int} (ht : setG t = true) (hb : setG b = true) : (bothG t b == 0) = (IntKind.i64.wrap (BitVec.ofInt 64 t &&& BitVec.ofInt 64 b).toNat == 0) := by
  obtain ⟨n, hn, rfl⟩ := setG_nat ht
  obtain ⟨m, hm, rfl⟩ := setG_nat hb
  exact both_fin n hn m hm
theorem tG_okI (a b c : Int) : tG a b c = okI 0 [a, b, c] := by
  simp only [tG, okI]
  cases ha : setG a with
  | false => simp
  | true =>
    rw [show hasG a 0 = hasI a (0 : Nat) from has_eq (i := 0) ha (by omega)]
    cases hb : setG b with
    | false => simp
    | true =>
      rw [show hasG b 1 = hasI b (1 : Nat) from has_eq (i := 1) hb (by omega)]
      cases hc : setG c with
      | false => simp
      | true =>
        rw [show hasG c 2 = hasI c (2 : Nat) from has_eq (i := 2) hc (by omega)]
        simp [Bool.and_assoc]
theorem bad_eq (xs : List Int) (h bad : Int) : badI xs h bad = badG xs h bad := by
  by_cases h3 : xs.length = 3
  · obtain ⟨a, b, c, rfl⟩ : ∃ a b c, xs = [a, b, c] := by
      match xs, h3 with
      | [a, b, c], _ => exact ⟨a, b, c, rfl⟩
    simp only [badI, badG, ← tG_okI]
    cases ht : tG a b c with
    | false => simp
    | true =>
      by_cases hh : 0 ≤ h ∧ h ≤ 2
      · cases hs : setG bad with
        | false => simp
        | true =>
          simp only [tG, Bool.and_eq_true] at ht
          have h012 : h = 0 ∨ h = 1 ∨ h = 2 := by omega
          rcases h012 with rfl | rfl | rfl
          · simp [both_eq ht.1.1.1.1.1 hs]
          · simp [both_eq ht.1.1.1.2 hs]
          · simp [both_eq ht.1.2 hs]
      · simp [hh]
  · rw [badG_n h3]
    have : (xs.length == 3) = false := by simpa using h3
    simp [badI, this]

theorem c4 (a b c : List Int) (h bad : Int) (S : St) (ha : a.length ≤ maxLen) (hb : b.length ≤ maxLen) (hcc : c.length ≤ maxLen) : Ev Y 4 [P3 a b c, I h, I bad] S (.bool true) S := by
  refine Ev_start (fn := Try.f4) rfl rfl (Nat.le_of_ble_eq_true rfl) ?_
  repeat' (first
    | with_reducible apply Then_norm
    | with_reducible apply Then_ret
    | with_reducible apply Then_exit
    | with_reducible apply InB_norm
    | with_reducible apply InB_ret
    | with_reducible apply InB_exit
    | with_reducible apply W_seq
    | with_reducible apply W_reg
    | with_reducible apply W_ret
    | with_reducible apply W_skip
    | with_reducible apply W_exit
    | with_reducible apply W_block
    | with_reducible apply WX_nil
    | ((with_reducible apply InB_other); rfl)
    | ((with_reducible apply W_regL); (· first | (simp only [List.length_cons, List.length_nil, Nat.reduceAdd]; rfl) | rfl))
    | ((with_reducible apply WX_call); (· rfl); (· rfl); (· rfl); (· rfl); (· first | exact c9 _ _ _ _ _ (by omega) (by assumption) (by assumption) (by assumption) | exact c10 _ _ _ _ (by omega) (by omega) (by omega) | exact c7 _ _ _ _ _ _ (by assumption) | exact c6 _ _ _ _ _ _ (by assumption) | exact c11 _ _ _ _ _ _ _ (by assumption) (by assumption) (by assumption) (by assumption) (by assumption) (by assumption)))
    | ((with_reducible apply D_call); (· rfl); (· rfl); (· rfl); (· rfl); (· first | exact c9 _ _ _ _ _ (by omega) (by assumption) (by assumption) (by assumption) | exact c10 _ _ _ _ (by omega) (by omega) (by omega) | exact c7 _ _ _ _ _ _ (by assumption) | exact c6 _ _ _ _ _ _ (by assumption) | exact c11 _ _ _ _ _ _ _ (by assumption) (by assumption) (by assumption) (by assumption) (by assumption) (by assumption)))
    | ((with_reducible apply A_no); (· rfl))
    | ((with_reducible apply WX_alloc); (· rfl); (· rfl); (· first | (simp only [List.length_cons, List.length_nil, Nat.reduceAdd]; rfl) | rfl); (· first | (simp only [List.nil_append, List.cons_append]; rfl) | rfl))
    | ((with_reducible apply WX_box); (· rfl); (· rfl); (· first | (simp only [List.length_cons, List.length_nil, Nat.reduceAdd]; rfl) | rfl); (· first | (simp only [List.nil_append, List.cons_append]; rfl) | rfl))
    | ((with_reducible apply A_int); (· rfl); (· rfl))
    | ((with_reducible apply A_true); (· rfl); (· rfl))
    | ((with_reducible apply A_false); (· rfl); (· rfl))
    | ((with_reducible apply A_splitP); (· rfl); (· rfl); (· with_reducible rfl))
    | ((with_reducible apply A_split); (· rfl); (· rfl))
    | ((with_reducible apply A_bool); (· rfl); (· rfl))
    | ((with_reducible apply A_lst); (· rfl); (· rfl))
    | ((with_reducible apply A_iptr); (· rfl); (· rfl))
    | ((with_reducible apply A_agg); (· rfl); (· rfl))
    | ((with_reducible apply A_ptr); (· rfl); (· rfl))
    | ((with_reducible apply A_fn); (· rfl); (· rfl))
    | ((with_reducible apply A_sl); (· rfl); (· rfl))
    | ((with_reducible apply A_load); (· rfl); (· rfl); (· rfl); (· first | exact get_own rfl | assumption | exact get_old (by assumption)); (· first | rfl | assumption); (· first | rfl | exact map_get (by assumption) | assumption); (· rfl))
    | ((with_reducible apply A_loadI); (· rfl); (· rfl); (· rfl); (· first | rfl | exact map_get (by assumption) | assumption); (· rfl))
    | ((with_reducible apply A_at); (· rfl); (· rfl); (· rfl); (· rfl); (· rfl); (· rfl); (· first | rfl | exact map_get (by assumption) | assumption); (· rfl))
    | ((with_reducible apply A_atS); (· rfl); (· rfl); (· rfl); (· rfl); (· rfl); (· rfl); (· first | exact get_own rfl | assumption | exact get_old (by assumption)); (· first | rfl | assumption); (· first | rfl | exact map_get (by assumption) | assumption); (· rfl))
    | ((with_reducible apply WX_store); (· rfl); (· rfl); (· rfl); (· first | exact get_own rfl | assumption | exact get_old (by assumption)); (· first | rfl | assumption); (· first | rfl | exact map_get (by assumption) | assumption); (· rfl); (· rfl); (· exact Nat.le_of_ble_eq_true rfl); (· rfl); (· first | exact set_own | exact set_old (by assumption)))
    | ((with_reducible apply WX_make); (· rfl); (· rfl); (· rfl); (· rfl); (· rfl); (· rfl); (· rfl); (· rfl); (· first | decide | assumption); (· rfl); (· first | (simp only [List.length_cons, List.length_nil, Nat.reduceAdd]; rfl) | rfl); (· first | (simp only [List.nil_append, List.cons_append]; rfl) | rfl))
    | ((with_reducible apply A_shl); (· rfl); (· rfl); (· rfl); (· first | decide | assumption | omega))
    | ((with_reducible apply A_shr); (· rfl); (· rfl); (· rfl); (· first | decide | assumption | omega))
    | ((with_reducible apply A_quo); (· rfl); (· rfl); (· rfl); (· rfl); (· first | decide | assumption | omega))
    | ((with_reducible apply A_rem); (· rfl); (· rfl); (· rfl); (· rfl); (· first | decide | assumption | omega))
    | ((with_reducible apply A_str); (· rfl); (· rfl))
    | ((with_reducible apply A_tup); (· rfl); (· rfl))
    | ((with_reducible apply A_nils); (· rfl); (· rfl))
    | ((with_reducible apply A_map); (· rfl); (· rfl))
    | ((with_reducible apply A_nilptr); (· rfl); (· rfl))
    | ((with_reducible apply A_nilfn); (· rfl); (· rfl))
    | ((with_reducible apply A_nilmap); (· rfl); (· rfl))
    | ((with_reducible apply A_gp); (· rfl); (· rfl))
    | ((with_reducible apply D_no); (· rfl))
    | ((with_reducible apply D_int); (· rfl); (· rfl); (· rfl))
    | ((with_reducible apply D_true); (· rfl); (· rfl); (· rfl))
    | ((with_reducible apply D_false); (· rfl); (· rfl); (· rfl))
    | ((with_reducible apply D_splitP); (· rfl); (· rfl); (· with_reducible rfl))
    | ((with_reducible apply D_split); (· rfl); (· rfl))
    | ((with_reducible apply D_bool); (· rfl); (· rfl); (· rfl))
    | ((with_reducible apply D_lst); (· rfl); (· rfl); (· rfl))
    | ((with_reducible apply D_iptr); (· rfl); (· rfl); (· rfl))
    | ((with_reducible apply D_agg); (· rfl); (· rfl); (· rfl))
    | ((with_reducible apply D_ptr); (· rfl); (· rfl); (· rfl))
    | ((with_reducible apply D_fn); (· rfl); (· rfl); (· rfl))
    | ((with_reducible apply D_sl); (· rfl); (· rfl); (· rfl))
    | ((with_reducible apply D_load); (· rfl); (· rfl); (· rfl); (· first | exact get_own rfl | assumption | exact get_old (by assumption)); (· first | rfl | assumption); (· first | rfl | exact map_get (by assumption) | assumption); (· rfl))
    | ((with_reducible apply D_loadI); (· rfl); (· rfl); (· rfl); (· first | rfl | exact map_get (by assumption) | assumption); (· rfl))
    | ((with_reducible apply D_at); (· rfl); (· rfl); (· rfl); (· rfl); (· rfl); (· rfl); (· first | rfl | exact map_get (by assumption) | assumption); (· rfl))
    | ((with_reducible apply D_atS); (· rfl); (· rfl); (· rfl); (· rfl); (· rfl); (· rfl); (· first | exact get_own rfl | assumption | exact get_old (by assumption)); (· first | rfl | assumption); (· first | rfl | exact map_get (by assumption) | assumption); (· rfl))
    | ((with_reducible apply D_shl); (· rfl); (· rfl); (· rfl); (· first | decide | assumption | omega))
    | ((with_reducible apply D_shr); (· rfl); (· rfl); (· rfl); (· first | decide | assumption | omega))
    | ((with_reducible apply D_quo); (· rfl); (· rfl); (· rfl); (· rfl); (· first | decide | assumption | omega))
    | ((with_reducible apply D_rem); (· rfl); (· rfl); (· rfl); (· rfl); (· first | decide | assumption | omega))
    | ((with_reducible apply D_str); (· rfl); (· rfl); (· rfl))
    | ((with_reducible apply D_tup); (· rfl); (· rfl); (· rfl))
    | ((with_reducible apply D_nils); (· rfl); (· rfl); (· rfl))
    | ((with_reducible apply D_map); (· rfl); (· rfl); (· rfl))
    | ((with_reducible apply D_nilptr); (· rfl); (· rfl); (· rfl))
    | ((with_reducible apply D_nilfn); (· rfl); (· rfl); (· rfl))
    | ((with_reducible apply D_nilmap); (· rfl); (· rfl); (· rfl))
    | ((with_reducible apply D_gp); (· rfl); (· rfl); (· rfl))
    | (with_reducible intro hc)
    | ((with_reducible apply W_condT); (· rfl))
    | ((with_reducible apply W_condF); (· rfl))
    | ((with_reducible apply W_cond2); (· rfl); (· with_reducible rfl))
    | ((with_reducible apply W_cond1); (· rfl)))
  all_goals try (exact ret_bool ret_not rfl (by rfl) rfl)
  all_goals try (refine ret_bool ret_not rfl rfl ?_; first | rfl | (simp_all [bad_eq]; done))
  all_goals try (exfalso; simp [bad_eq] at *; done)
end Go.Proofs.XT
