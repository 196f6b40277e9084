/- The contracts of functions that the statement reaches, part 3. Conditions: none. -/
import Derived.Test.YtkcneecnniimdaaT2
namespace Go.Proofs.XT
open Go Go.Proofs.XVai Go.Proofs
set_option linter.unusedVariables false
set_option linter.unusedSimpArgs false

abbrev I (n : Int) : HV := .int .i64 n
abbrev L (xs : List Int) : HV := .lst (xs.map fun x => [.int .i64 x])
theorem i64_id {n : Int} (h0 : -9223372036854775808 ≤ n) (h1 : n ≤ 9223372036854775807) : IntKind.i64.wrap n = n := by rw [IntKind.wrap_i64]; omega
theorem maxLen_eq : maxLen = 9223372036854775807 := rfl

theorem c22 (xs : List Int) (n : Int) (S : St) (h : 0 ≤ n ∧ n ≤ 1048576) (hl : xs.length ≤ maxLen) : Ev Y 22 [L xs, I n] S (I (if n - xs.length < 0 then -1 else n - xs.length)) S := by
  rw [maxLen_eq] at hl
  refine Ev_start (fn := Try.f22) rfl rfl (Nat.le_of_ble_eq_true rfl) ?_
  repeat' (first
    | with_reducible apply Then_norm
    | with_reducible apply Then_ret
    | with_reducible apply Then_exit
    | with_reducible apply InB_norm
    | with_reducible apply InB_ret
    | with_reducible apply InB_exit
    | with_reducible apply W_seq
    | with_reducible apply W_reg
    | with_reducible apply W_ret
    | with_reducible apply W_skip
    | with_reducible apply W_exit
    | with_reducible apply W_block
    | with_reducible apply WX_nil
    | ((with_reducible apply InB_other); rfl)
    | ((with_reducible apply W_regL); (· first | (simp only [List.length_cons, List.length_nil, Nat.reduceAdd]; rfl) | rfl))
    | ((with_reducible apply A_no); (· rfl))
    | ((with_reducible apply WX_alloc); (· rfl); (· rfl); (· first | (simp only [List.length_cons, List.length_nil, Nat.reduceAdd]; rfl) | rfl); (· first | (simp only [List.nil_append, List.cons_append]; rfl) | rfl))
    | ((with_reducible apply WX_box); (· rfl); (· rfl); (· first | (simp only [List.length_cons, List.length_nil, Nat.reduceAdd]; rfl) | rfl); (· first | (simp only [List.nil_append, List.cons_append]; rfl) | rfl))
    | ((with_reducible apply A_int); (· rfl); (· rfl))
    | ((with_reducible apply A_true); (· rfl); (· rfl))
    | ((with_reducible apply A_false); (· rfl); (· rfl))
    | ((with_reducible apply A_splitP); (· rfl); (· rfl); (· with_reducible rfl))
    | ((with_reducible apply A_split); (· rfl); (· rfl))
    | ((with_reducible apply A_bool); (· rfl); (· rfl))
    | ((with_reducible apply A_lst); (· rfl); (· rfl))
    | ((with_reducible apply A_iptr); (· rfl); (· rfl))
    | ((with_reducible apply A_agg); (· rfl); (· rfl))
    | ((with_reducible apply A_ptr); (· rfl); (· rfl))
    | ((with_reducible apply A_fn); (· rfl); (· rfl))
    | ((with_reducible apply A_sl); (· rfl); (· rfl))
    | ((with_reducible apply A_load); (· rfl); (· rfl); (· rfl); (· first | exact get_own rfl | assumption | exact get_old (by assumption)); (· first | rfl | assumption); (· first | rfl | exact map_get (by assumption) | assumption); (· rfl))
    | ((with_reducible apply A_loadI); (· rfl); (· rfl); (· rfl); (· first | rfl | exact map_get (by assumption) | assumption); (· rfl))
    | ((with_reducible apply A_at); (· rfl); (· rfl); (· rfl); (· rfl); (· rfl); (· rfl); (· first | rfl | exact map_get (by assumption) | assumption); (· rfl))
    | ((with_reducible apply A_atS); (· rfl); (· rfl); (· rfl); (· rfl); (· rfl); (· rfl); (· first | exact get_own rfl | assumption | exact get_old (by assumption)); (· first | rfl | assumption); (· first | rfl | exact map_get (by assumption) | assumption); (· rfl))
    | ((with_reducible apply WX_store); (· rfl); (· rfl); (· rfl); (· first | exact get_own rfl | assumption | exact get_old (by assumption)); (· first | rfl | assumption); (· first | rfl | exact map_get (by assumption) | assumption); (· rfl); (· rfl); (· exact Nat.le_of_ble_eq_true rfl); (· rfl); (· first | exact set_own | exact set_old (by assumption)))
    | ((with_reducible apply WX_make); (· rfl); (· rfl); (· rfl); (· rfl); (· rfl); (· rfl); (· rfl); (· rfl); (· first | decide | assumption); (· rfl); (· first | (simp only [List.length_cons, List.length_nil, Nat.reduceAdd]; rfl) | rfl); (· first | (simp only [List.nil_append, List.cons_append]; rfl) | rfl))
    | ((with_reducible apply A_shl); (· rfl); (· rfl); (· rfl); (· first | decide | assumption | omega))
    | ((with_reducible apply A_shr); (· rfl); (· rfl); (· rfl); (· first | decide | assumption | omega))
    | ((with_reducible apply A_quo); (· rfl); (· rfl); (· rfl); (· rfl); (· first | decide | assumption | omega))
    | ((with_reducible apply A_rem); (· rfl); (· rfl); (· rfl); (· rfl); (· first | decide | assumption | omega))
    | ((with_reducible apply A_str); (· rfl); (· rfl))
    | ((with_reducible apply A_tup); (· rfl); (· rfl))
    | ((with_reducible apply A_nils); (· rfl); (· rfl))
    | ((with_reducible apply A_map); (· rfl); (· rfl))
    | ((with_reducible apply A_nilptr); (· rfl); (· rfl))
    | ((with_reducible apply A_nilfn); (· rfl); (· rfl))
    | ((with_reducible apply A_nilmap); (· rfl); (· rfl))
    | ((with_reducible apply A_gp); (· rfl); (· rfl))
    | ((with_reducible apply D_no); (· rfl))
    | ((with_reducible apply D_int); (· rfl); (· rfl); (· rfl))
    | ((with_reducible apply D_true); (· rfl); (· rfl); (· rfl))
    | ((with_reducible apply D_false); (· rfl); (· rfl); (· rfl))
    | ((with_reducible apply D_splitP); (· rfl); (· rfl); (· with_reducible rfl))
    | ((with_reducible apply D_split); (· rfl); (· rfl))
    | ((with_reducible apply D_bool); (· rfl); (· rfl); (· rfl))
    | ((with_reducible apply D_lst); (· rfl); (· rfl); (· rfl))
    | ((with_reducible apply D_iptr); (· rfl); (· rfl); (· rfl))
    | ((with_reducible apply D_agg); (· rfl); (· rfl); (· rfl))
    | ((with_reducible apply D_ptr); (· rfl); (· rfl); (· rfl))
    | ((with_reducible apply D_fn); (· rfl); (· rfl); (· rfl))
    | ((with_reducible apply D_sl); (· rfl); (· rfl); (· rfl))
    | ((with_reducible apply D_load); (· rfl); (· rfl); (· rfl); (· first | exact get_own rfl | assumption | exact get_old (by assumption)); (· first | rfl | assumption); (· first | rfl | exact map_get (by assumption) | assumption); (· rfl))
    | ((with_reducible apply D_loadI); (· rfl); (· rfl); (· rfl); (· first | rfl | exact map_get (by assumption) | assumption); (· rfl))
    | ((with_reducible apply D_at); (· rfl); (· rfl); (· rfl); (· rfl); (· rfl); (· rfl); (· first | rfl | exact map_get (by assumption) | assumption); (· rfl))
    | ((with_reducible apply D_atS); (· rfl); (· rfl); (· rfl); (· rfl); (· rfl); (· rfl); (· first | exact get_own rfl | assumption | exact get_old (by assumption)); (· first | rfl | assumption); (· first | rfl | exact map_get (by assumption) | assumption); (· rfl))
    | ((with_reducible apply D_shl); (· rfl); (· rfl); (· rfl); (· first | decide | assumption | omega))
    | ((with_reducible apply D_shr); (· rfl); (· rfl); (· rfl); (· first | decide | assumption | omega))
    | ((with_reducible apply D_quo); (· rfl); (· rfl); (· rfl); (· rfl); (· first | decide | assumption | omega))
    | ((with_reducible apply D_rem); (· rfl); (· rfl); (· rfl); (· rfl); (· first | decide | assumption | omega))
    | ((with_reducible apply D_str); (· rfl); (· rfl); (· rfl))
    | ((with_reducible apply D_tup); (· rfl); (· rfl); (· rfl))
    | ((with_reducible apply D_nils); (· rfl); (· rfl); (· rfl))
    | ((with_reducible apply D_map); (· rfl); (· rfl); (· rfl))
    | ((with_reducible apply D_nilptr); (· rfl); (· rfl); (· rfl))
    | ((with_reducible apply D_nilfn); (· rfl); (· rfl); (· rfl))
    | ((with_reducible apply D_nilmap); (· rfl); (· rfl); (· rfl))
    | ((with_reducible apply D_gp); (· rfl); (· rfl); (· rfl))
    | (with_reducible intro hc)
    | ((with_reducible apply W_condT); (· rfl))
    | ((with_reducible apply W_condF); (· rfl))
    | ((with_reducible apply W_cond2); (· rfl); (· with_reducible rfl))
    | ((with_reducible apply W_cond1); (· rfl)))
  · rw [i64_id (by simp; omega) (by simp; omega)] at hc
    refine ret_int ret_not rfl rfl ?_
    simp at hc
    rw [if_pos (by omega)]
  · rw [i64_id (by simp; omega) (by simp; omega)] at hc
    refine ret_int ret_not rfl rfl ?_
    simp at hc
    rw [if_neg (by omega), i64_id (by simp; omega) (by simp; omega)]
    simp

theorem c24 (xs ys : List Int) (S : St) (hx : xs.length ≤ maxLen) (hy : ys.length ≤ maxLen) : Ev Y 24 [L xs, L ys] S (.bool (xs == ys)) S := by
  rw [maxLen_eq] at hx hy
  refine Ev_start (fn := Try.f24) rfl rfl (Nat.le_of_ble_eq_true rfl) ?_
  repeat' (first
    | with_reducible apply Then_norm
    | with_reducible apply Then_ret
    | with_reducible apply Then_exit
    | with_reducible apply InB_norm
    | with_reducible apply InB_ret
    | with_reducible apply InB_exit
    | with_reducible apply W_seq
    | with_reducible apply W_reg
    | with_reducible apply W_ret
    | with_reducible apply W_skip
    | with_reducible apply W_exit
    | with_reducible apply W_block
    | with_reducible apply WX_nil
    | ((with_reducible apply InB_other); rfl)
    | ((with_reducible apply W_regL); (· first | (simp only [List.length_cons, List.length_nil, Nat.reduceAdd]; rfl) | rfl))
    | ((with_reducible apply A_no); (· rfl))
    | ((with_reducible apply WX_alloc); (· rfl); (· rfl); (· first | (simp only [List.length_cons, List.length_nil, Nat.reduceAdd]; rfl) | rfl); (· first | (simp only [List.nil_append, List.cons_append]; rfl) | rfl))
    | ((with_reducible apply WX_box); (· rfl); (· rfl); (· first | (simp only [List.length_cons, List.length_nil, Nat.reduceAdd]; rfl) | rfl); (· first | (simp only [List.nil_append, List.cons_append]; rfl) | rfl))
    | ((with_reducible apply A_int); (· rfl); (· rfl))
    | ((with_reducible apply A_true); (· rfl); (· rfl))
    | ((with_reducible apply A_false); (· rfl); (· rfl))
    | ((with_reducible apply A_splitP); (· rfl); (· rfl); (· with_reducible rfl))
    | ((with_reducible apply A_split); (· rfl); (· rfl))
    | ((with_reducible apply A_bool); (· rfl); (· rfl))
    | ((with_reducible apply A_lst); (· rfl); (· rfl))
    | ((with_reducible apply A_iptr); (· rfl); (· rfl))
    | ((with_reducible apply A_agg); (· rfl); (· rfl))
    | ((with_reducible apply A_ptr); (· rfl); (· rfl))
    | ((with_reducible apply A_fn); (· rfl); (· rfl))
    | ((with_reducible apply A_sl); (· rfl); (· rfl))
    | ((with_reducible apply A_load); (· rfl); (· rfl); (· rfl); (· first | exact get_own rfl | assumption | exact get_old (by assumption)); (· first | rfl | assumption); (· first | rfl | exact map_get (by assumption) | assumption); (· rfl))
    | ((with_reducible apply A_loadI); (· rfl); (· rfl); (· rfl); (· first | rfl | exact map_get (by assumption) | assumption); (· rfl))
    | ((with_reducible apply A_at); (· rfl); (· rfl); (· rfl); (· rfl); (· rfl); (· rfl); (· first | rfl | exact map_get (by assumption) | assumption); (· rfl))
    | ((with_reducible apply A_atS); (· rfl); (· rfl); (· rfl); (· rfl); (· rfl); (· rfl); (· first | exact get_own rfl | assumption | exact get_old (by assumption)); (· first | rfl | assumption); (· first | rfl | exact map_get (by assumption) | assumption); (· rfl))
    | ((with_reducible apply WX_store); (· rfl); (· rfl); (· rfl); (· first | exact get_own rfl | assumption | exact get_old (by assumption)); (· first | rfl | assumption); (· first | rfl | exact map_get (by assumption) | assumption); (· rfl); (· rfl); (· exact Nat.le_of_ble_eq_true rfl); (· rfl); (· first | exact set_own | exact set_old (by assumption)))
    | ((with_reducible apply WX_make); (· rfl); (· rfl); (· rfl); (· rfl); (· rfl); (· rfl); (· rfl); (· rfl); (· first | decide | assumption); (· rfl); (· first | (simp only [List.length_cons, List.length_nil, Nat.reduceAdd]; rfl) | rfl); (· first | (simp only [List.nil_append, List.cons_append]; rfl) | rfl))
    | ((with_reducible apply A_shl); (· rfl); (· rfl); (· rfl); (· first | decide | assumption | omega))
    | ((with_reducible apply A_shr); (· rfl); (· rfl); (· rfl); (· first | decide | assumption | omega))
    | ((with_reducible apply A_quo); (· rfl); (· rfl); (· rfl); (· rfl); (· first | decide | assumption | omega))
    | ((with_reducible apply A_rem); (· rfl); (· rfl); (· rfl); (· rfl); (· first | decide | assumption | omega))
    | ((with_reducible apply A_str); (· rfl); (· rfl))
    | ((with_reducible apply A_tup); (· rfl); (· rfl))
    | ((with_reducible apply A_nils); (· rfl); (· rfl))
    | ((with_reducible apply A_map); (· rfl); (· rfl))
    | ((with_reducible apply A_nilptr); (· rfl); (· rfl))
    | ((with_reducible apply A_nilfn); (· rfl); (· rfl))
    | ((with_reducible apply A_nilmap); (· rfl); (· rfl))
    | ((with_reducible apply A_gp); (· rfl); (· rfl))
    | ((with_reducible apply D_no); (· rfl))
    | ((with_reducible apply D_int); (· rfl); (· rfl); (· rfl))
    | ((with_reducible apply D_true); (· rfl); (· rfl); (· rfl))
    | ((with_reducible apply D_false); (· rfl); (· rfl); (· rfl))
    | ((with_reducible apply D_splitP); (· rfl); (· rfl); (· with_reducible rfl))
    | ((with_reducible apply D_split); (· rfl); (· rfl))
    | ((with_reducible apply D_bool); (· rfl); (· rfl); (· rfl))
    | ((with_reducible apply D_lst); (· rfl); (· rfl); (· rfl))
    | ((with_reducible apply D_iptr); (· rfl); (· rfl); (· rfl))
    | ((with_reducible apply D_agg); (· rfl); (· rfl); (· rfl))
    | ((with_reducible apply D_ptr); (· rfl); (· rfl); (· rfl))
    | ((with_reducible apply D_fn); (· rfl); (· rfl); (· rfl))
    | ((with_reducible apply D_sl); (· rfl); (· rfl); (· rfl))
    | ((with_reducible apply D_load); (· rfl); (· rfl); (· rfl); (· first | exact get_own rfl | assumption | exact get_old (by assumption)); (· first | rfl | assumption); (· first | rfl | exact map_get (by assumption) | assumption); (· rfl))
    | ((with_reducible apply D_loadI); (· rfl); (· rfl); (· rfl); (· first | rfl | exact map_get (by assumption) | assumption); (· rfl))
    | ((with_reducible apply D_at); (· rfl); (· rfl); (· rfl); (· rfl); (· rfl); (· rfl); (· first | rfl | exact map_get (by assumption) | assumption); (· rfl))
    | ((with_reducible apply D_atS); (· rfl); (· rfl); (· rfl); (· rfl); (· rfl); (· rfl); (· first | exact get_own rfl | assumption | exact get_old (by assumption)); (· first | rfl | assumption); (· first | rfl | exact map_get (by assumption) | assumption); (· rfl))
    | ((with_reducible apply D_shl); (· rfl); (· rfl); (· rfl); (· first | decide | assumption | omega))
    | ((with_reducible apply D_shr); (· rfl); (· rfl); (· rfl); (· first | decide | assumption | omega))
    | ((with_reducible apply D_quo); (· rfl); (· rfl); (· rfl); (· rfl); (· first | decide | assumption | omega))
    | ((with_reducible apply D_rem); (· rfl); (· rfl); (· rfl); (· rfl); (· first | decide | assumption | omega))
    | ((with_reducible apply D_str); (· rfl); (· rfl); (· rfl))
    | ((with_reducible apply D_tup); (· rfl); (· rfl); (· rfl))
    | ((with_reducible apply D_nils); (· rfl); (· rfl); (· rfl))
    | ((with_reducible apply D_map); (· rfl); (· rfl); (· rfl))
    | ((with_reducible apply D_nilptr); (· rfl); (· rfl); (· rfl))
    | ((with_reducible apply D_nilfn); (· rfl); (· rfl); (· rfl))
    | ((with_reducible apply D_nilmap); (· rfl); (· rfl); (· rfl))
    | ((with_reducible apply D_gp); (· rfl); (· rfl); (· rfl))
    | (with_reducible intro hc)
    | ((with_reducible apply W_condT); (· rfl))
    | ((with_reducible apply W_condF); (· rfl))
    | ((with_reducible apply W_cond2); (· rfl); (· with_reducible rfl))
    | ((with_reducible apply W_cond1); (· rfl)))
  · refine ret_bool ret_not rfl rfl ?_
    simp at hc
    symm; simp; intro e; rw [e] at hc; exact hc rfl
  · simp at hc
    refine W_loop (fun n T' S' => ∃ (T0 : Tm) (i : Nat) (L0 : St), i ≤ xs.length ∧ n = xs.length - i ∧ xs.take i = ys.take i ∧ T' = putL T0 [(0, L xs), (1, L ys), (5, I i)] ∧ S' = S ++ L0) xs.length
      ⟨_, 0, [], by omega, by omega, rfl, at_mk ⟨rfl, rfl, rfl, trivial⟩, rfl⟩ ?_
    rintro n T' S' ⟨T0, i, L0, hi, rfl, hpre, rfl, rfl⟩
    by_cases hlt : i < xs.length
    · have hlt' : i < ys.length := by omega
      have hx1 : xs[i]? = some xs[i] := by simp
      have hy1 : ys[i]? = some ys[i] := by simp
      repeat' (first
        | with_reducible apply Then_norm
        | with_reducible apply Then_ret
        | with_reducible apply Then_exit
        | with_reducible apply InB_norm
        | with_reducible apply InB_ret
        | with_reducible apply InB_exit
        | with_reducible apply W_seq
        | with_reducible apply W_reg
        | with_reducible apply W_ret
        | with_reducible apply W_skip
        | with_reducible apply W_exit
        | with_reducible apply W_block
        | with_reducible apply WX_nil
        | ((with_reducible apply InB_other); rfl)
        | ((with_reducible apply W_regL); (· first | (simp only [List.length_cons, List.length_nil, Nat.reduceAdd]; rfl) | rfl))
        | ((with_reducible apply A_no); (· rfl))
        | ((with_reducible apply WX_alloc); (· rfl); (· rfl); (· first | (simp only [List.length_cons, List.length_nil, Nat.reduceAdd]; rfl) | rfl); (· first | (simp only [List.nil_append, List.cons_append]; rfl) | rfl))
        | ((with_reducible apply WX_box); (· rfl); (· rfl); (· first | (simp only [List.length_cons, List.length_nil, Nat.reduceAdd]; rfl) | rfl); (· first | (simp only [List.nil_append, List.cons_append]; rfl) | rfl))
        | ((with_reducible apply A_int); (· rfl); (· rfl))
        | ((with_reducible apply A_true); (· rfl); (· rfl))
        | ((with_reducible apply A_false); (· rfl); (· rfl))
        | ((with_reducible apply A_splitP); (· rfl); (· rfl); (· with_reducible rfl))
        | ((with_reducible apply A_split); (· rfl); (· rfl))
        | ((with_reducible apply A_bool); (· rfl); (· rfl))
        | ((with_reducible apply A_lst); (· rfl); (· rfl))
        | ((with_reducible apply A_iptr); (· rfl); (· rfl))
        | ((with_reducible apply A_agg); (· rfl); (· rfl))
        | ((with_reducible apply A_ptr); (· rfl); (· rfl))
        | ((with_reducible apply A_fn); (· rfl); (· rfl))
        | ((with_reducible apply A_sl); (· rfl); (· rfl))
        | ((with_reducible apply A_load); (· rfl); (· rfl); (· rfl); (· first | exact get_own rfl | assumption | exact get_old (by assumption)); (· first | rfl | assumption); (· first | rfl | exact map_get (by assumption) | assumption); (· rfl))
        | ((with_reducible apply A_loadI); (· rfl); (· rfl); (· rfl); (· first | rfl | exact map_get (by assumption) | assumption); (· rfl))
        | ((with_reducible apply A_at); (· rfl); (· rfl); (· rfl); (· rfl); (· rfl); (· rfl); (· first | rfl | exact map_get (by assumption) | assumption); (· rfl))
        | ((with_reducible apply A_atS); (· rfl); (· rfl); (· rfl); (· rfl); (· rfl); (· rfl); (· first | exact get_own rfl | assumption | exact get_old (by assumption)); (· first | rfl | assumption); (· first | rfl | exact map_get (by assumption) | assumption); (· rfl))
        | ((with_reducible apply WX_store); (· rfl); (· rfl); (· rfl); (· first | exact get_own rfl | assumption | exact get_old (by assumption)); (· first | rfl | assumption); (· first | rfl | exact map_get (by assumption) | assumption); (· rfl); (· rfl); (· exact Nat.le_of_ble_eq_true rfl); (· rfl); (· first | exact set_own | exact set_old (by assumption)))
        | ((with_reducible apply WX_make); (· rfl); (· rfl); (· rfl); (· rfl); (· rfl); (· rfl); (· rfl); (· rfl); (· first | decide | assumption); (· rfl); (· first | (simp only [List.length_cons, List.length_nil, Nat.reduceAdd]; rfl) | rfl); (· first | (simp only [List.nil_append, List.cons_append]; rfl) | rfl))
        | ((with_reducible apply A_shl); (· rfl); (· rfl); (· rfl); (· first | decide | assumption | omega))
        | ((with_reducible apply A_shr); (· rfl); (· rfl); (· rfl); (· first | decide | assumption | omega))
        | ((with_reducible apply A_quo); (· rfl); (· rfl); (· rfl); (· rfl); (· first | decide | assumption | omega))
        | ((with_reducible apply A_rem); (· rfl); (· rfl); (· rfl); (· rfl); (· first | decide | assumption | omega))
        | ((with_reducible apply A_str); (· rfl); (· rfl))
        | ((with_reducible apply A_tup); (· rfl); (· rfl))
        | ((with_reducible apply A_nils); (· rfl); (· rfl))
        | ((with_reducible apply A_map); (· rfl); (· rfl))
        | ((with_reducible apply A_nilptr); (· rfl); (· rfl))
        | ((with_reducible apply A_nilfn); (· rfl); (· rfl))
        | ((with_reducible apply A_nilmap); (· rfl); (· rfl))
        | ((with_reducible apply A_gp); (· rfl); (· rfl))
        | ((with_reducible apply D_no); (· rfl))
        | ((with_reducible apply D_int); (· rfl); (· rfl); (· rfl))
        | ((with_reducible apply D_true); (· rfl); (· rfl); (· rfl))
        | ((with_reducible apply D_false); (· rfl); (· rfl); (· rfl))
        | ((with_reducible apply D_splitP); (· rfl); (· rfl); (· with_reducible rfl))
        | ((with_reducible apply D_split); (· rfl); (· rfl))
        | ((with_reducible apply D_bool); (· rfl); (· rfl); (· rfl))
        | ((with_reducible apply D_lst); (· rfl); (· rfl); (· rfl))
        | ((with_reducible apply D_iptr); (· rfl); (· rfl); (· rfl))
        | ((with_reducible apply D_agg); (· rfl); (· rfl); (· rfl))
        | ((with_reducible apply D_ptr); (· rfl); (· rfl); (· rfl))
        | ((with_reducible apply D_fn); (· rfl); (· rfl); (· rfl))
        | ((with_reducible apply D_sl); (· rfl); (· rfl); (· rfl))
        | ((with_reducible apply D_load); (· rfl); (· rfl); (· rfl); (· first | exact get_own rfl | assumption | exact get_old (by assumption)); (· first | rfl | assumption); (· first | rfl | exact map_get (by assumption) | assumption); (· rfl))
        | ((with_reducible apply D_loadI); (· rfl); (· rfl); (· rfl); (· first | rfl | exact map_get (by assumption) | assumption); (· rfl))
        | ((with_reducible apply D_at); (· rfl); (· rfl); (· rfl); (· rfl); (· rfl); (· rfl); (· first | rfl | exact map_get (by assumption) | assumption); (· rfl))
        | ((with_reducible apply D_atS); (· rfl); (· rfl); (· rfl); (· rfl); (· rfl); (· rfl); (· first | exact get_own rfl | assumption | exact get_old (by assumption)); (· first | rfl | assumption); (· first | rfl | exact map_get (by assumption) | assumption); (· rfl))
        | ((with_reducible apply D_shl); (· rfl); (· rfl); (· rfl); (· first | decide | assumption | omega))
        | ((with_reducible apply D_shr); (· rfl); (· rfl); (· rfl); (· first | decide | assumption | omega))
        | ((with_reducible apply D_quo); (· rfl); (· rfl); (· rfl); (· rfl); (· first | decide | assumption | omega))
        | ((with_reducible apply D_rem); (· rfl); (· rfl); (· rfl); (· rfl); (· first | decide | assumption | omega))
        | ((with_reducible apply D_str); (· rfl); (· rfl); (· rfl))
        | ((with_reducible apply D_tup); (· rfl); (· rfl); (· rfl))
        | ((with_reducible apply D_nils); (· rfl); (· rfl); (· rfl))
        | ((with_reducible apply D_map); (· rfl); (· rfl); (· rfl))
        | ((with_reducible apply D_nilptr); (· rfl); (· rfl); (· rfl))
        | ((with_reducible apply D_nilfn); (· rfl); (· rfl); (· rfl))
        | ((with_reducible apply D_nilmap); (· rfl); (· rfl); (· rfl))
        | ((with_reducible apply D_gp); (· rfl); (· rfl); (· rfl))
        | (with_reducible intro hc)
        | ((with_reducible apply W_condT); (· rfl))
        | ((with_reducible apply W_condF); (· rfl))
        | ((with_reducible apply W_cond2); (· rfl); (· with_reducible rfl))
        | ((with_reducible apply W_cond1); (· rfl)))
      · refine ret_bool ret_not rfl rfl ?_
        symm; simp; intro e; subst e; simp at hc
      · refine ⟨_, ?_, _, i + 1, _, by omega, rfl, ?_, at_mk ⟨rfl, rfl, ?_, trivial⟩, rfl⟩
        · omega
        · simp at hc
          rw [List.take_add_one, List.take_add_one, hpre, hx1, hy1, hc]
        · show HV.int _ _ = _
          rw [i64_id (by omega) (by omega)]; rfl
      · rename_i hc
        simp at hc; omega
    · have hie : i = xs.length := by omega
      subst hie
      repeat' (first
        | with_reducible apply Then_norm
        | with_reducible apply Then_ret
        | with_reducible apply Then_exit
        | with_reducible apply InB_norm
        | with_reducible apply InB_ret
        | with_reducible apply InB_exit
        | with_reducible apply W_seq
        | with_reducible apply W_reg
        | with_reducible apply W_ret
        | with_reducible apply W_skip
        | with_reducible apply W_exit
        | with_reducible apply W_block
        | with_reducible apply WX_nil
        | ((with_reducible apply InB_other); rfl)
        | ((with_reducible apply W_regL); (· first | (simp only [List.length_cons, List.length_nil, Nat.reduceAdd]; rfl) | rfl))
        | ((with_reducible apply A_no); (· rfl))
        | ((with_reducible apply WX_alloc); (· rfl); (· rfl); (· first | (simp only [List.length_cons, List.length_nil, Nat.reduceAdd]; rfl) | rfl); (· first | (simp only [List.nil_append, List.cons_append]; rfl) | rfl))
        | ((with_reducible apply WX_box); (· rfl); (· rfl); (· first | (simp only [List.length_cons, List.length_nil, Nat.reduceAdd]; rfl) | rfl); (· first | (simp only [List.nil_append, List.cons_append]; rfl) | rfl))
        | ((with_reducible apply A_int); (· rfl); (· rfl))
        | ((with_reducible apply A_true); (· rfl); (· rfl))
        | ((with_reducible apply A_false); (· rfl); (· rfl))
        | ((with_reducible apply A_splitP); (· rfl); (· rfl); (· with_reducible rfl))
        | ((with_reducible apply A_split); (· rfl); (· rfl))
        | ((with_reducible apply A_bool); (· rfl); (· rfl))
        | ((with_reducible apply A_lst); (· rfl); (· rfl))
        | ((with_reducible apply A_iptr); (· rfl); (· rfl))
        | ((with_reducible apply A_agg); (· rfl); (· rfl))
        | ((with_reducible apply A_ptr); (· rfl); (· rfl))
        | ((with_reducible apply A_fn); (· rfl); (· rfl))
        | ((with_reducible apply A_sl); (· rfl); (· rfl))
        | ((with_reducible apply A_load); (· rfl); (· rfl); (· rfl); (· first | exact get_own rfl | assumption | exact get_old (by assumption)); (· first | rfl | assumption); (· first | rfl | exact map_get (by assumption) | assumption); (· rfl))
        | ((with_reducible apply A_loadI); (· rfl); (· rfl); (· rfl); (· first | rfl | exact map_get (by assumption) | assumption); (· rfl))
        | ((with_reducible apply A_at); (· rfl); (· rfl); (· rfl); (· rfl); (· rfl); (· rfl); (· first | rfl | exact map_get (by assumption) | assumption); (· rfl))
        | ((with_reducible apply A_atS); (· rfl); (· rfl); (· rfl); (· rfl); (· rfl); (· rfl); (· first | exact get_own rfl | assumption | exact get_old (by assumption)); (· first | rfl | assumption); (· first | rfl | exact map_get (by assumption) | assumption); (· rfl))
        | ((with_reducible apply WX_store); (· rfl); (· rfl); (· rfl); (· first | exact get_own rfl | assumption | exact get_old (by assumption)); (· first | rfl | assumption); (· first | rfl | exact map_get (by assumption) | assumption); (· rfl); (· rfl); (· exact Nat.le_of_ble_eq_true rfl); (· rfl); (· first | exact set_own | exact set_old (by assumption)))
        | ((with_reducible apply WX_make); (· rfl); (· rfl); (· rfl); (· rfl); (· rfl); (· rfl); (· rfl); (· rfl); (· first | decide | assumption); (· rfl); (· first | (simp only [List.length_cons, List.length_nil, Nat.reduceAdd]; rfl) | rfl); (· first | (simp only [List.nil_append, List.cons_append]; rfl) | rfl))
        | ((with_reducible apply A_shl); (· rfl); (· rfl); (· rfl); (· first | decide | assumption | omega))
        | ((with_reducible apply A_shr); (· rfl); (· rfl); (· rfl); (· first | decide | assumption | omega))
        | ((with_reducible apply A_quo); (· rfl); (· rfl); (· rfl); (· rfl); (· first | decide | assumption | omega))
        | ((with_reducible apply A_rem); (· rfl); (· rfl); (· rfl); (· rfl); (· first | decide | assumption | omega))
        | ((with_reducible apply A_str); (· rfl); (· rfl))
        | ((with_reducible apply A_tup); (· rfl); (· rfl))
        | ((with_reducible apply A_nils); (· rfl); (· rfl))
        | ((with_reducible apply A_map); (· rfl); (· rfl))
        | ((with_reducible apply A_nilptr); (· rfl); (· rfl))
        | ((with_reducible apply A_nilfn); (· rfl); (· rfl))
        | ((with_reducible apply A_nilmap); (· rfl); (· rfl))
        | ((with_reducible apply A_gp); (· rfl); (· rfl))
        | ((with_reducible apply D_no); (· rfl))
        | ((with_reducible apply D_int); (· rfl); (· rfl); (· rfl))
        | ((with_reducible apply D_true); (· rfl); (· rfl); (· rfl))
        | ((with_reducible apply D_false); (· rfl); (· rfl); (· rfl))
        | ((with_reducible apply D_splitP); (· rfl); (· rfl); (· with_reducible rfl))
        | ((with_reducible apply D_split); (· rfl); (· rfl))
        | ((with_reducible apply D_bool); (· rfl); (· rfl); (· rfl))
        | ((with_reducible apply D_lst); (· rfl); (· rfl); (· rfl))
        | ((with_reducible apply D_iptr); (· rfl); (· rfl); (· rfl))
        | ((with_reducible apply D_agg); (· rfl); (· rfl); (· rfl))
        | ((with_reducible apply D_ptr); (· rfl); (· rfl); (· rfl))
        | ((with_reducible apply D_fn); (· rfl); (· rfl); (· rfl))
        | ((with_reducible apply D_sl); (· rfl); (· rfl); (· rfl))
        | ((with_reducible apply D_load); (· rfl); (· rfl); (· rfl); (· first | exact get_own rfl | assumption | exact get_old (by assumption)); (· first | rfl | assumption); (· first | rfl | exact map_get (by assumption) | assumption); (· rfl))
        | ((with_reducible apply D_loadI); (· rfl); (· rfl); (· rfl); (· first | rfl | exact map_get (by assumption) | assumption); (· rfl))
        | ((with_reducible apply D_at); (· rfl); (· rfl); (· rfl); (· rfl); (· rfl); (· rfl); (· first | rfl | exact map_get (by assumption) | assumption); (· rfl))
        | ((with_reducible apply D_atS); (· rfl); (· rfl); (· rfl); (· rfl); (· rfl); (· rfl); (· first | exact get_own rfl | assumption | exact get_old (by assumption)); (· first | rfl | assumption); (· first | rfl | exact map_get (by assumption) | assumption); (· rfl))
        | ((with_reducible apply D_shl); (· rfl); (· rfl); (· rfl); (· first | decide | assumption | omega))
        | ((with_reducible apply D_shr); (· rfl); (· rfl); (· rfl); (· first | decide | assumption | omega))
        | ((with_reducible apply D_quo); (· rfl); (· rfl); (· rfl); (· rfl); (· first | decide | assumption | omega))
        | ((with_reducible apply D_rem); (· rfl); (· rfl); (· rfl); (· rfl); (· first | decide | assumption | omega))
        | ((with_reducible apply D_str); (· rfl); (· rfl); (· rfl))
        | ((with_reducible apply D_tup); (· rfl); (· rfl); (· rfl))
        | ((with_reducible apply D_nils); (· rfl); (· rfl); (· rfl))
        | ((with_reducible apply D_map); (· rfl); (· rfl); (· rfl))
        | ((with_reducible apply D_nilptr); (· rfl); (· rfl); (· rfl))
        | ((with_reducible apply D_nilfn); (· rfl); (· rfl); (· rfl))
        | ((with_reducible apply D_nilmap); (· rfl); (· rfl); (· rfl))
        | ((with_reducible apply D_gp); (· rfl); (· rfl); (· rfl))
        | (with_reducible intro hc)
        | ((with_reducible apply W_condT); (· rfl))
        | ((with_reducible apply W_condF); (· rfl))
        | ((with_reducible apply W_cond2); (· rfl); (· with_reducible rfl))
        | ((with_reducible apply W_cond1); (· rfl)))
      · rename_i hc
        simp at hc
      · refine ret_bool ret_not rfl rfl ?_
        symm
        have h1 : xs = ys.take xs.length := by rw [← hpre]; simp
        have h2 : ys.take xs.length = ys := List.take_of_length_le (by omega)
        simp [h1.trans h2]

theorem c23 (xs : List Int) (S : St) (hx : xs.length ≤ 1048576) : Ev Y 23 [L xs] S (L xs) S := by
  refine Ev_start (fn := Try.f23) rfl rfl (Nat.le_of_ble_eq_true rfl) ?_
  have hlim : (List.map (fun x => [HV.int IntKind.i64 x]) xs).length ≤ lim := by simp [lim]; omega
  repeat' (first
    | with_reducible apply Then_norm
    | with_reducible apply Then_ret
    | with_reducible apply Then_exit
    | with_reducible apply InB_norm
    | with_reducible apply InB_ret
    | with_reducible apply InB_exit
    | with_reducible apply W_seq
    | with_reducible apply W_reg
    | with_reducible apply W_ret
    | with_reducible apply W_skip
    | with_reducible apply W_exit
    | with_reducible apply W_block
    | with_reducible apply WX_nil
    | ((with_reducible apply InB_other); rfl)
    | ((with_reducible apply W_regL); (· first | (simp only [List.length_cons, List.length_nil, Nat.reduceAdd]; rfl) | rfl))
    | ((with_reducible apply A_no); (· rfl))
    | ((with_reducible apply WX_alloc); (· rfl); (· rfl); (· first | (simp only [List.length_cons, List.length_nil, Nat.reduceAdd]; rfl) | rfl); (· first | (simp only [List.nil_append, List.cons_append]; rfl) | rfl))
    | ((with_reducible apply WX_box); (· rfl); (· rfl); (· first | (simp only [List.length_cons, List.length_nil, Nat.reduceAdd]; rfl) | rfl); (· first | (simp only [List.nil_append, List.cons_append]; rfl) | rfl))
    | ((with_reducible apply A_int); (· rfl); (· rfl))
    | ((with_reducible apply A_true); (· rfl); (· rfl))
    | ((with_reducible apply A_false); (· rfl); (· rfl))
    | ((with_reducible apply A_splitP); (· rfl); (· rfl); (· with_reducible rfl))
    | ((with_reducible apply A_split); (· rfl); (· rfl))
    | ((with_reducible apply A_bool); (· rfl); (· rfl))
    | ((with_reducible apply A_lst); (· rfl); (· rfl))
    | ((with_reducible apply A_iptr); (· rfl); (· rfl))
    | ((with_reducible apply A_agg); (· rfl); (· rfl))
    | ((with_reducible apply A_ptr); (· rfl); (· rfl))
    | ((with_reducible apply A_fn); (· rfl); (· rfl))
    | ((with_reducible apply A_sl); (· rfl); (· rfl))
    | ((with_reducible apply A_load); (· rfl); (· rfl); (· rfl); (· first | exact get_own rfl | assumption | exact get_old (by assumption)); (· first | rfl | assumption); (· first | rfl | exact map_get (by assumption) | assumption); (· rfl))
    | ((with_reducible apply A_loadI); (· rfl); (· rfl); (· rfl); (· first | rfl | exact map_get (by assumption) | assumption); (· rfl))
    | ((with_reducible apply A_at); (· rfl); (· rfl); (· rfl); (· rfl); (· rfl); (· rfl); (· first | rfl | exact map_get (by assumption) | assumption); (· rfl))
    | ((with_reducible apply A_atS); (· rfl); (· rfl); (· rfl); (· rfl); (· rfl); (· rfl); (· first | exact get_own rfl | assumption | exact get_old (by assumption)); (· first | rfl | assumption); (· first | rfl | exact map_get (by assumption) | assumption); (· rfl))
    | ((with_reducible apply WX_store); (· rfl); (· rfl); (· rfl); (· first | exact get_own rfl | assumption | exact get_old (by assumption)); (· first | rfl | assumption); (· first | rfl | exact map_get (by assumption) | assumption); (· rfl); (· rfl); (· exact Nat.le_of_ble_eq_true rfl); (· rfl); (· first | exact set_own | exact set_old (by assumption)))
    | ((with_reducible apply WX_make); (· rfl); (· rfl); (· rfl); (· rfl); (· rfl); (· rfl); (· rfl); (· rfl); (· first | decide | assumption); (· rfl); (· first | (simp only [List.length_cons, List.length_nil, Nat.reduceAdd]; rfl) | rfl); (· first | (simp only [List.nil_append, List.cons_append]; rfl) | rfl))
    | ((with_reducible apply A_shl); (· rfl); (· rfl); (· rfl); (· first | decide | assumption | omega))
    | ((with_reducible apply A_shr); (· rfl); (· rfl); (· rfl); (· first | decide | assumption | omega))
    | ((with_reducible apply A_quo); (· rfl); (· rfl); (· rfl); (· rfl); (· first | decide | assumption | omega))
    | ((with_reducible apply A_rem); (· rfl); (· rfl); (· rfl); (· rfl); (· first | decide | assumption | omega))
    | ((with_reducible apply A_str); (· rfl); (· rfl))
    | ((with_reducible apply A_tup); (· rfl); (· rfl))
    | ((with_reducible apply A_nils); (· rfl); (· rfl))
    | ((with_reducible apply A_map); (· rfl); (· rfl))
    | ((with_reducible apply A_nilptr); (· rfl); (· rfl))
    | ((with_reducible apply A_nilfn); (· rfl); (· rfl))
    | ((with_reducible apply A_nilmap); (· rfl); (· rfl))
    | ((with_reducible apply A_gp); (· rfl); (· rfl))
    | ((with_reducible apply D_no); (· rfl))
    | ((with_reducible apply D_int); (· rfl); (· rfl); (· rfl))
    | ((with_reducible apply D_true); (· rfl); (· rfl); (· rfl))
    | ((with_reducible apply D_false); (· rfl); (· rfl); (· rfl))
    | ((with_reducible apply D_splitP); (· rfl); (· rfl); (· with_reducible rfl))
    | ((with_reducible apply D_split); (· rfl); (· rfl))
    | ((with_reducible apply D_bool); (· rfl); (· rfl); (· rfl))
    | ((with_reducible apply D_lst); (· rfl); (· rfl); (· rfl))
    | ((with_reducible apply D_iptr); (· rfl); (· rfl); (· rfl))
    | ((with_reducible apply D_agg); (· rfl); (· rfl); (· rfl))
    | ((with_reducible apply D_ptr); (· rfl); (· rfl); (· rfl))
    | ((with_reducible apply D_fn); (· rfl); (· rfl); (· rfl))
    | ((with_reducible apply D_sl); (· rfl); (· rfl); (· rfl))
    | ((with_reducible apply D_load); (· rfl); (· rfl); (· rfl); (· first | exact get_own rfl | assumption | exact get_old (by assumption)); (· first | rfl | assumption); (· first | rfl | exact map_get (by assumption) | assumption); (· rfl))
    | ((with_reducible apply D_loadI); (· rfl); (· rfl); (· rfl); (· first | rfl | exact map_get (by assumption) | assumption); (· rfl))
    | ((with_reducible apply D_at); (· rfl); (· rfl); (· rfl); (· rfl); (· rfl); (· rfl); (· first | rfl | exact map_get (by assumption) | assumption); (· rfl))
    | ((with_reducible apply D_atS); (· rfl); (· rfl); (· rfl); (· rfl); (· rfl); (· rfl); (· first | exact get_own rfl | assumption | exact get_old (by assumption)); (· first | rfl | assumption); (· first | rfl | exact map_get (by assumption) | assumption); (· rfl))
    | ((with_reducible apply D_shl); (· rfl); (· rfl); (· rfl); (· first | decide | assumption | omega))
    | ((with_reducible apply D_shr); (· rfl); (· rfl); (· rfl); (· first | decide | assumption | omega))
    | ((with_reducible apply D_quo); (· rfl); (· rfl); (· rfl); (· rfl); (· first | decide | assumption | omega))
    | ((with_reducible apply D_rem); (· rfl); (· rfl); (· rfl); (· rfl); (· first | decide | assumption | omega))
    | ((with_reducible apply D_str); (· rfl); (· rfl); (· rfl))
    | ((with_reducible apply D_tup); (· rfl); (· rfl); (· rfl))
    | ((with_reducible apply D_nils); (· rfl); (· rfl); (· rfl))
    | ((with_reducible apply D_map); (· rfl); (· rfl); (· rfl))
    | ((with_reducible apply D_nilptr); (· rfl); (· rfl); (· rfl))
    | ((with_reducible apply D_nilfn); (· rfl); (· rfl); (· rfl))
    | ((with_reducible apply D_nilmap); (· rfl); (· rfl); (· rfl))
    | ((with_reducible apply D_gp); (· rfl); (· rfl); (· rfl))
    | (with_reducible intro hc)
    | ((with_reducible apply W_condT); (· rfl))
    | ((with_reducible apply W_condF); (· rfl))
    | ((with_reducible apply W_cond2); (· rfl); (· with_reducible rfl))
    | ((with_reducible apply W_cond1); (· rfl)))
  refine W_loop (fun n T' S' => ∃ (T0 : Tm) (i : Nat) (rows : List (List HV)), i ≤ xs.length ∧ n = xs.length - i ∧ rows.length = xs.length ∧ (∀ j, j < i → rows[j]? = (xs[j]?).map fun x => [HV.int .i64 x]) ∧ (∀ j, i ≤ j → j < xs.length → rows[j]? = some [HV.int .i64 0]) ∧
      T' = putL T0 [(0, L xs), (3, .sl (S.length + 0) xs.length), (4, I i)] ∧ S' = S ++ [.cells false rows]) xs.length
      ⟨_, 0, _, by omega, by omega, (by simp), (by simp), (fun j _ hj => by simp [hj]), at_mk ⟨rfl, (by show HV.sl _ _ = _; rw [List.length_map]), rfl, trivial⟩, rfl⟩ ?_
  rintro n T' S' ⟨T0, i, rows, hi, rfl, hlen, hpre, hsuf, rfl, rfl⟩
  by_cases hlt : i < xs.length
  · have hx1 : xs[i]? = some xs[i] := by simp
    have hr1 : rows[i]? = some [HV.int .i64 0] := hsuf i (Nat.le_refl _) hlt
    repeat' (first
      | with_reducible apply Then_norm
      | with_reducible apply Then_ret
      | with_reducible apply Then_exit
      | with_reducible apply InB_norm
      | with_reducible apply InB_ret
      | with_reducible apply InB_exit
      | with_reducible apply W_seq
      | with_reducible apply W_reg
      | with_reducible apply W_ret
      | with_reducible apply W_skip
      | with_reducible apply W_exit
      | with_reducible apply W_block
      | with_reducible apply WX_nil
      | ((with_reducible apply InB_other); rfl)
      | ((with_reducible apply W_regL); (· first | (simp only [List.length_cons, List.length_nil, Nat.reduceAdd]; rfl) | rfl))
      | ((with_reducible apply A_no); (· rfl))
      | ((with_reducible apply WX_alloc); (· rfl); (· rfl); (· first | (simp only [List.length_cons, List.length_nil, Nat.reduceAdd]; rfl) | rfl); (· first | (simp only [List.nil_append, List.cons_append]; rfl) | rfl))
      | ((with_reducible apply WX_box); (· rfl); (· rfl); (· first | (simp only [List.length_cons, List.length_nil, Nat.reduceAdd]; rfl) | rfl); (· first | (simp only [List.nil_append, List.cons_append]; rfl) | rfl))
      | ((with_reducible apply A_int); (· rfl); (· rfl))
      | ((with_reducible apply A_true); (· rfl); (· rfl))
      | ((with_reducible apply A_false); (· rfl); (· rfl))
      | ((with_reducible apply A_splitP); (· rfl); (· rfl); (· with_reducible rfl))
      | ((with_reducible apply A_split); (· rfl); (· rfl))
      | ((with_reducible apply A_bool); (· rfl); (· rfl))
      | ((with_reducible apply A_lst); (· rfl); (· rfl))
      | ((with_reducible apply A_iptr); (· rfl); (· rfl))
      | ((with_reducible apply A_agg); (· rfl); (· rfl))
      | ((with_reducible apply A_ptr); (· rfl); (· rfl))
      | ((with_reducible apply A_fn); (· rfl); (· rfl))
      | ((with_reducible apply A_sl); (· rfl); (· rfl))
      | ((with_reducible apply A_load); (· rfl); (· rfl); (· rfl); (· first | exact get_own rfl | assumption | exact get_old (by assumption)); (· first | rfl | assumption); (· first | rfl | exact map_get (by assumption) | assumption); (· rfl))
      | ((with_reducible apply A_loadI); (· rfl); (· rfl); (· rfl); (· first | rfl | exact map_get (by assumption) | assumption); (· rfl))
      | ((with_reducible apply A_at); (· rfl); (· rfl); (· rfl); (· rfl); (· rfl); (· rfl); (· first | rfl | exact map_get (by assumption) | assumption); (· rfl))
      | ((with_reducible apply A_atS); (· rfl); (· rfl); (· rfl); (· rfl); (· rfl); (· rfl); (· first | exact get_own rfl | assumption | exact get_old (by assumption)); (· first | rfl | assumption); (· first | rfl | exact map_get (by assumption) | assumption); (· rfl))
      | ((with_reducible apply WX_store); (· rfl); (· rfl); (· rfl); (· first | exact get_own rfl | assumption | exact get_old (by assumption)); (· first | rfl | assumption); (· first | rfl | exact map_get (by assumption) | assumption); (· rfl); (· rfl); (· exact Nat.le_of_ble_eq_true rfl); (· rfl); (· first | exact set_own | exact set_old (by assumption)))
      | ((with_reducible apply WX_make); (· rfl); (· rfl); (· rfl); (· rfl); (· rfl); (· rfl); (· rfl); (· rfl); (· first | decide | assumption); (· rfl); (· first | (simp only [List.length_cons, List.length_nil, Nat.reduceAdd]; rfl) | rfl); (· first | (simp only [List.nil_append, List.cons_append]; rfl) | rfl))
      | ((with_reducible apply A_shl); (· rfl); (· rfl); (· rfl); (· first | decide | assumption | omega))
      | ((with_reducible apply A_shr); (· rfl); (· rfl); (· rfl); (· first | decide | assumption | omega))
      | ((with_reducible apply A_quo); (· rfl); (· rfl); (· rfl); (· rfl); (· first | decide | assumption | omega))
      | ((with_reducible apply A_rem); (· rfl); (· rfl); (· rfl); (· rfl); (· first | decide | assumption | omega))
      | ((with_reducible apply A_str); (· rfl); (· rfl))
      | ((with_reducible apply A_tup); (· rfl); (· rfl))
      | ((with_reducible apply A_nils); (· rfl); (· rfl))
      | ((with_reducible apply A_map); (· rfl); (· rfl))
      | ((with_reducible apply A_nilptr); (· rfl); (· rfl))
      | ((with_reducible apply A_nilfn); (· rfl); (· rfl))
      | ((with_reducible apply A_nilmap); (· rfl); (· rfl))
      | ((with_reducible apply A_gp); (· rfl); (· rfl))
      | ((with_reducible apply D_no); (· rfl))
      | ((with_reducible apply D_int); (· rfl); (· rfl); (· rfl))
      | ((with_reducible apply D_true); (· rfl); (· rfl); (· rfl))
      | ((with_reducible apply D_false); (· rfl); (· rfl); (· rfl))
      | ((with_reducible apply D_splitP); (· rfl); (· rfl); (· with_reducible rfl))
      | ((with_reducible apply D_split); (· rfl); (· rfl))
      | ((with_reducible apply D_bool); (· rfl); (· rfl); (· rfl))
      | ((with_reducible apply D_lst); (· rfl); (· rfl); (· rfl))
      | ((with_reducible apply D_iptr); (· rfl); (· rfl); (· rfl))
      | ((with_reducible apply D_agg); (· rfl); (· rfl); (· rfl))
      | ((with_reducible apply D_ptr); (· rfl); (· rfl); (· rfl))
      | ((with_reducible apply D_fn); (· rfl); (· rfl); (· rfl))
      | ((with_reducible apply D_sl); (· rfl); (· rfl); (· rfl))
      | ((with_reducible apply D_load); (· rfl); (· rfl); (· rfl); (· first | exact get_own rfl | assumption | exact get_old (by assumption)); (· first | rfl | assumption); (· first | rfl | exact map_get (by assumption) | assumption); (· rfl))
      | ((with_reducible apply D_loadI); (· rfl); (· rfl); (· rfl); (· first | rfl | exact map_get (by assumption) | assumption); (· rfl))
      | ((with_reducible apply D_at); (· rfl); (· rfl); (· rfl); (· rfl); (· rfl); (· rfl); (· first | rfl | exact map_get (by assumption) | assumption); (· rfl))
      | ((with_reducible apply D_atS); (· rfl); (· rfl); (· rfl); (· rfl); (· rfl); (· rfl); (· first | exact get_own rfl | assumption | exact get_old (by assumption)); (· first | rfl | assumption); (· first | rfl | exact map_get (by assumption) | assumption); (· rfl))
      | ((with_reducible apply D_shl); (· rfl); (· rfl); (· rfl); (· first | decide | assumption | omega))
      | ((with_reducible apply D_shr); (· rfl); (· rfl); (· rfl); (· first | decide | assumption | omega))
      | ((with_reducible apply D_quo); (· rfl); (· rfl); (· rfl); (· rfl); (· first | decide | assumption | omega))
      | ((with_reducible apply D_rem); (· rfl); (· rfl); (· rfl); (· rfl); (· first | decide | assumption | omega))
      | ((with_reducible apply D_str); (· rfl); (· rfl); (· rfl))
      | ((with_reducible apply D_tup); (· rfl); (· rfl); (· rfl))
      | ((with_reducible apply D_nils); (· rfl); (· rfl); (· rfl))
      | ((with_reducible apply D_map); (· rfl); (· rfl); (· rfl))
      | ((with_reducible apply D_nilptr); (· rfl); (· rfl); (· rfl))
      | ((with_reducible apply D_nilfn); (· rfl); (· rfl); (· rfl))
      | ((with_reducible apply D_nilmap); (· rfl); (· rfl); (· rfl))
      | ((with_reducible apply D_gp); (· rfl); (· rfl); (· rfl))
      | (with_reducible intro hc)
      | ((with_reducible apply W_condT); (· rfl))
      | ((with_reducible apply W_condF); (· rfl))
      | ((with_reducible apply W_cond2); (· rfl); (· with_reducible rfl))
      | ((with_reducible apply W_cond1); (· rfl)))
    · refine ⟨_, ?_, _, i + 1, _, by omega, rfl, ?_, ?_, ?_, at_mk ⟨rfl, rfl, ?_, trivial⟩, rfl⟩
      · omega
      · simp [hlen]
      · intro j hj
        rw [List.getElem?_set]
        split
        · rename_i e; subst e
          rw [if_pos (by omega), hx1]; rfl
        · exact hpre j (by omega)
      · intro j hj hjl
        rw [List.getElem?_set_ne (by omega)]
        exact hsuf j (by omega) hjl
      · show HV.int _ _ = _
        rw [i64_id (by omega) (by omega)]; rfl
    · simp at hc; omega
  · have hie : i = xs.length := by omega
    subst hie
    repeat' (first
      | with_reducible apply Then_norm
      | with_reducible apply Then_ret
      | with_reducible apply Then_exit
      | with_reducible apply InB_norm
      | with_reducible apply InB_ret
      | with_reducible apply InB_exit
      | with_reducible apply W_seq
      | with_reducible apply W_reg
      | with_reducible apply W_ret
      | with_reducible apply W_skip
      | with_reducible apply W_exit
      | with_reducible apply W_block
      | with_reducible apply WX_nil
      | ((with_reducible apply InB_other); rfl)
      | ((with_reducible apply W_regL); (· first | (simp only [List.length_cons, List.length_nil, Nat.reduceAdd]; rfl) | rfl))
      | ((with_reducible apply A_no); (· rfl))
      | ((with_reducible apply WX_alloc); (· rfl); (· rfl); (· first | (simp only [List.length_cons, List.length_nil, Nat.reduceAdd]; rfl) | rfl); (· first | (simp only [List.nil_append, List.cons_append]; rfl) | rfl))
      | ((with_reducible apply WX_box); (· rfl); (· rfl); (· first | (simp only [List.length_cons, List.length_nil, Nat.reduceAdd]; rfl) | rfl); (· first | (simp only [List.nil_append, List.cons_append]; rfl) | rfl))
      | ((with_reducible apply A_int); (· rfl); (· rfl))
      | ((with_reducible apply A_true); (· rfl); (· rfl))
      | ((with_reducible apply A_false); (· rfl); (· rfl))
      | ((with_reducible apply A_splitP); (· rfl); (· rfl); (· with_reducible rfl))
      | ((with_reducible apply A_split); (· rfl); (· rfl))
      | ((with_reducible apply A_bool); (· rfl); (· rfl))
      | ((with_reducible apply A_lst); (· rfl); (· rfl))
      | ((with_reducible apply A_iptr); (· rfl); (· rfl))
      | ((with_reducible apply A_agg); (· rfl); (· rfl))
      | ((with_reducible apply A_ptr); (· rfl); (· rfl))
      | ((with_reducible apply A_fn); (· rfl); (· rfl))
      | ((with_reducible apply A_sl); (· rfl); (· rfl))
      | ((with_reducible apply A_load); (· rfl); (· rfl); (· rfl); (· first | exact get_own rfl | assumption | exact get_old (by assumption)); (· first | rfl | assumption); (· first | rfl | exact map_get (by assumption) | assumption); (· rfl))
      | ((with_reducible apply A_loadI); (· rfl); (· rfl); (· rfl); (· first | rfl | exact map_get (by assumption) | assumption); (· rfl))
      | ((with_reducible apply A_at); (· rfl); (· rfl); (· rfl); (· rfl); (· rfl); (· rfl); (· first | rfl | exact map_get (by assumption) | assumption); (· rfl))
      | ((with_reducible apply A_atS); (· rfl); (· rfl); (· rfl); (· rfl); (· rfl); (· rfl); (· first | exact get_own rfl | assumption | exact get_old (by assumption)); (· first | rfl | assumption); (· first | rfl | exact map_get (by assumption) | assumption); (· rfl))
      | ((with_reducible apply WX_store); (· rfl); (· rfl); (· rfl); (· first | exact get_own rfl | assumption | exact get_old (by assumption)); (· first | rfl | assumption); (· first | rfl | exact map_get (by assumption) | assumption); (· rfl); (· rfl); (· exact Nat.le_of_ble_eq_true rfl); (· rfl); (· first | exact set_own | exact set_old (by assumption)))
      | ((with_reducible apply WX_make); (· rfl); (· rfl); (· rfl); (· rfl); (· rfl); (· rfl); (· rfl); (· rfl); (· first | decide | assumption); (· rfl); (· first | (simp only [List.length_cons, List.length_nil, Nat.reduceAdd]; rfl) | rfl); (· first | (simp only [List.nil_append, List.cons_append]; rfl) | rfl))
      | ((with_reducible apply A_shl); (· rfl); (· rfl); (· rfl); (· first | decide | assumption | omega))
      | ((with_reducible apply A_shr); (· rfl); (· rfl); (· rfl); (· first | decide | assumption | omega))
      | ((with_reducible apply A_quo); (· rfl); (· rfl); (· rfl); (· rfl); (· first | decide | assumption | omega))
      | ((with_reducible apply A_rem); (· rfl); (· rfl); (· rfl); (· rfl); (· first | decide | assumption | omega))
      | ((with_reducible apply A_str); (· rfl); (· rfl))
      | ((with_reducible apply A_tup); (· rfl); (· rfl))
      | ((with_reducible apply A_nils); (· rfl); (· rfl))
      | ((with_reducible apply A_map); (· rfl); (· rfl))
      | ((with_reducible apply A_nilptr); (· rfl); (· rfl))
      | ((with_reducible apply A_nilfn); (· rfl); (· rfl))
      | ((with_reducible apply A_nilmap); (· rfl); (· rfl))
      | ((with_reducible apply A_gp); (· rfl); (· rfl))
      | ((with_reducible apply D_no); (· rfl))
      | ((with_reducible apply D_int); (· rfl); (· rfl); (· rfl))
      | ((with_reducible apply D_true); (· rfl); (· rfl); (· rfl))
      | ((with_reducible apply D_false); (· rfl); (· rfl); (· rfl))
      | ((with_reducible apply D_splitP); (· rfl); (· rfl); (· with_reducible rfl))
      | ((with_reducible apply D_split); (· rfl); (· rfl))
      | ((with_reducible apply D_bool); (· rfl); (· rfl); (· rfl))
      | ((with_reducible apply D_lst); (· rfl); (· rfl); (· rfl))
      | ((with_reducible apply D_iptr); (· rfl); (· rfl); (· rfl))
      | ((with_reducible apply D_agg); (· rfl); (· rfl); (· rfl))
      | ((with_reducible apply D_ptr); (· rfl); (· rfl); (· rfl))
      | ((with_reducible apply D_fn); (· rfl); (· rfl); (· rfl))
      | ((with_reducible apply D_sl); (· rfl); (· rfl); (· rfl))
      | ((with_reducible apply D_load); (· rfl); (· rfl); (· rfl); (· first | exact get_own rfl | assumption | exact get_old (by assumption)); (· first | rfl | assumption); (· first | rfl | exact map_get (by assumption) | assumption); (· rfl))
      | ((with_reducible apply D_loadI); (· rfl); (· rfl); (· rfl); (· first | rfl | exact map_get (by assumption) | assumption); (· rfl))
      | ((with_reducible apply D_at); (· rfl); (· rfl); (· rfl); (· rfl); (· rfl); (· rfl); (· first | rfl | exact map_get (by assumption) | assumption); (· rfl))
      | ((with_reducible apply D_atS); (· rfl); (· rfl); (· rfl); (· rfl); (· rfl); (· rfl); (· first | exact get_own rfl | assumption | exact get_old (by assumption)); (· first | rfl | assumption); (· first | rfl | exact map_get (by assumption) | assumption); (· rfl))
      | ((with_reducible apply D_shl); (· rfl); (· rfl); (· rfl); (· first | decide | assumption | omega))
      | ((with_reducible apply D_shr); (· rfl); (· rfl); (· rfl); (· first | decide | assumption | omega))
      | ((with_reducible apply D_quo); (· rfl); (· rfl); (· rfl); (· rfl); (· first | decide | assumption | omega))
      | ((with_reducible apply D_rem); (· rfl); (· rfl); (· rfl); (· rfl); (· first | decide | assumption | omega))
      | ((with_reducible apply D_str); (· rfl); (· rfl); (· rfl))
      | ((with_reducible apply D_tup); (· rfl); (· rfl); (· rfl))
      | ((with_reducible apply D_nils); (· rfl); (· rfl); (· rfl))
      | ((with_reducible apply D_map); (· rfl); (· rfl); (· rfl))
      | ((with_reducible apply D_nilptr); (· rfl); (· rfl); (· rfl))
      | ((with_reducible apply D_nilfn); (· rfl); (· rfl); (· rfl))
      | ((with_reducible apply D_nilmap); (· rfl); (· rfl); (· rfl))
      | ((with_reducible apply D_gp); (· rfl); (· rfl); (· rfl))
      | (with_reducible intro hc)
      | ((with_reducible apply W_condT); (· rfl))
      | ((with_reducible apply W_condF); (· rfl))
      | ((with_reducible apply W_cond2); (· rfl); (· with_reducible rfl))
      | ((with_reducible apply W_cond1); (· rfl)))
    · simp at hc
    · have hrows : rows = xs.map fun x => [HV.int .i64 x] := List.ext_getElem? fun j => by
        rcases Nat.lt_or_ge j xs.length with h | h
        · rw [hpre j h, List.getElem?_map]
        · rw [List.getElem?_eq_none (by omega), List.getElem?_eq_none (by simp; omega)]
      refine ret_row ret_not rfl rfl rfl hlen ?_ (by rw [hrows])
      rw [hrows]; simp [pureC]
end Go.Proofs.XT
