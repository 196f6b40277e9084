/- The contracts of functions that the statement reaches, part 5. Conditions: none. -/
import Derived.Test.YtkcneecnniimdaaT4
namespace Go.Proofs.XT
open Go Go.Proofs.XVai Go.Proofs
set_option linter.unusedVariables false
set_option linter.unusedSimpArgs false

theorem c29 (S : St) : Ev Y 29 [] S (I 7) S := by
  refine Ev_start (fn := Try.f29) rfl rfl (Nat.le_of_ble_eq_true rfl) ?_
  repeat' (first
    | with_reducible apply Then_norm
    | with_reducible apply Then_ret
    | with_reducible apply Then_exit
    | with_reducible apply InB_norm
    | with_reducible apply InB_ret
    | with_reducible apply InB_exit
    | with_reducible apply W_seq
    | with_reducible apply W_reg
    | with_reducible apply W_ret
    | with_reducible apply W_skip
    | with_reducible apply W_exit
    | with_reducible apply W_block
    | with_reducible apply WX_nil
    | ((with_reducible apply InB_other); rfl)
    | ((with_reducible apply W_regL); (· first | (simp only [List.length_cons, List.length_nil, Nat.reduceAdd]; rfl) | rfl))
    | ((with_reducible apply A_no); (· rfl))
    | ((with_reducible apply WX_alloc); (· rfl); (· rfl); (· first | (simp only [List.length_cons, List.length_nil, Nat.reduceAdd]; rfl) | rfl); (· first | (simp only [List.nil_append, List.cons_append]; rfl) | rfl))
    | ((with_reducible apply WX_box); (· rfl); (· rfl); (· first | (simp only [List.length_cons, List.length_nil, Nat.reduceAdd]; rfl) | rfl); (· first | (simp only [List.nil_append, List.cons_append]; rfl) | rfl))
    | ((with_reducible apply A_int); (· rfl); (· rfl))
    | ((with_reducible apply A_true); (· rfl); (· rfl))
    | ((with_reducible apply A_false); (· rfl); (· rfl))
    | ((with_reducible apply A_splitP); (· rfl); (· rfl); (· with_reducible rfl))
    | ((with_reducible apply A_split); (· rfl); (· rfl))
    | ((with_reducible apply A_bool); (· rfl); (· rfl))
    | ((with_reducible apply A_lst); (· rfl); (· rfl))
    | ((with_reducible apply A_iptr); (· rfl); (· rfl))
    | ((with_reducible apply A_agg); (· rfl); (· rfl))
    | ((with_reducible apply A_ptr); (· rfl); (· rfl))
    | ((with_reducible apply A_fn); (· rfl); (· rfl))
    | ((with_reducible apply A_sl); (· rfl); (· rfl))
    | ((with_reducible apply A_load); (· rfl); (· rfl); (· rfl); (· first | exact get_own rfl | assumption | exact get_old (by assumption)); (· first | rfl | assumption); (· first | rfl | exact map_get (by assumption) | assumption); (· rfl))
    | ((with_reducible apply A_loadI); (· rfl); (· rfl); (· rfl); (· first | rfl | exact map_get (by assumption) | assumption); (· rfl))
    | ((with_reducible apply A_at); (· rfl); (· rfl); (· rfl); (· rfl); (· rfl); (· rfl); (· first | rfl | exact map_get (by assumption) | assumption); (· rfl))
    | ((with_reducible apply A_atS); (· rfl); (· rfl); (· rfl); (· rfl); (· rfl); (· rfl); (· first | exact get_own rfl | assumption | exact get_old (by assumption)); (· first | rfl | assumption); (· first | rfl | exact map_get (by assumption) | assumption); (· rfl))
    | ((with_reducible apply WX_store); (· rfl); (· rfl); (· rfl); (· first | exact get_own rfl | assumption | exact get_old (by assumption)); (· first | rfl | assumption); (· first | rfl | exact map_get (by assumption) | assumption); (· rfl); (· rfl); (· exact Nat.le_of_ble_eq_true rfl); (· rfl); (· first | exact set_own | exact set_old (by assumption)))
    | ((with_reducible apply WX_make); (· rfl); (· rfl); (· rfl); (· rfl); (· rfl); (· rfl); (· rfl); (· rfl); (· first | decide | assumption); (· rfl); (· first | (simp only [List.length_cons, List.length_nil, Nat.reduceAdd]; rfl) | rfl); (· first | (simp only [List.nil_append, List.cons_append]; rfl) | rfl))
    | ((with_reducible apply A_shl); (· rfl); (· rfl); (· rfl); (· first | decide | assumption | omega))
    | ((with_reducible apply A_shr); (· rfl); (· rfl); (· rfl); (· first | decide | assumption | omega))
    | ((with_reducible apply A_quo); (· rfl); (· rfl); (· rfl); (· rfl); (· first | decide | assumption | omega))
    | ((with_reducible apply A_rem); (· rfl); (· rfl); (· rfl); (· rfl); (· first | decide | assumption | omega))
    | ((with_reducible apply A_str); (· rfl); (· rfl))
    | ((with_reducible apply A_tup); (· rfl); (· rfl))
    | ((with_reducible apply A_nils); (· rfl); (· rfl))
    | ((with_reducible apply A_map); (· rfl); (· rfl))
    | ((with_reducible apply A_nilptr); (· rfl); (· rfl))
    | ((with_reducible apply A_nilfn); (· rfl); (· rfl))
    | ((with_reducible apply A_nilmap); (· rfl); (· rfl))
    | ((with_reducible apply A_gp); (· rfl); (· rfl))
    | ((with_reducible apply D_no); (· rfl))
    | ((with_reducible apply D_int); (· rfl); (· rfl); (· rfl))
    | ((with_reducible apply D_true); (· rfl); (· rfl); (· rfl))
    | ((with_reducible apply D_false); (· rfl); (· rfl); (· rfl))
    | ((with_reducible apply D_splitP); (· rfl); (· rfl); (· with_reducible rfl))
    | ((with_reducible apply D_split); (· rfl); (· rfl))
    | ((with_reducible apply D_bool); (· rfl); (· rfl); (· rfl))
    | ((with_reducible apply D_lst); (· rfl); (· rfl); (· rfl))
    | ((with_reducible apply D_iptr); (· rfl); (· rfl); (· rfl))
    | ((with_reducible apply D_agg); (· rfl); (· rfl); (· rfl))
    | ((with_reducible apply D_ptr); (· rfl); (· rfl); (· rfl))
    | ((with_reducible apply D_fn); (· rfl); (· rfl); (· rfl))
    | ((with_reducible apply D_sl); (· rfl); (· rfl); (· rfl))
    | ((with_reducible apply D_load); (· rfl); (· rfl); (· rfl); (· first | exact get_own rfl | assumption | exact get_old (by assumption)); (· first | rfl | assumption); (· first | rfl | exact map_get (by assumption) | assumption); (· rfl))
    | ((with_reducible apply D_loadI); (· rfl); (· rfl); (· rfl); (· first | rfl | exact map_get (by assumption) | assumption); (· rfl))
    | ((with_reducible apply D_at); (· rfl); (· rfl); (· rfl); (· rfl); (· rfl); (· rfl); (· first | rfl | exact map_get (by assumption) | assumption); (· rfl))
    | ((with_reducible apply D_atS); (· rfl); (· rfl); (· rfl); (· rfl); (· rfl); (· rfl); (· first | exact get_own rfl | assumption | exact get_old (by assumption)); (· first | rfl | assumption); (· first | rfl | exact map_get (by assumption) | assumption); (· rfl))
    | ((with_reducible apply D_shl); (· rfl); (· rfl); (· rfl); (· first | decide | assumption | omega))
    | ((with_reducible apply D_shr); (· rfl); (· rfl); (· rfl); (· first | decide | assumption | omega))
    | ((with_reducible apply D_quo); (· rfl); (· rfl); (· rfl); (· rfl); (· first | decide | assumption | omega))
    | ((with_reducible apply D_rem); (· rfl); (· rfl); (· rfl); (· rfl); (· first | decide | assumption | omega))
    | ((with_reducible apply D_str); (· rfl); (· rfl); (· rfl))
    | ((with_reducible apply D_tup); (· rfl); (· rfl); (· rfl))
    | ((with_reducible apply D_nils); (· rfl); (· rfl); (· rfl))
    | ((with_reducible apply D_map); (· rfl); (· rfl); (· rfl))
    | ((with_reducible apply D_nilptr); (· rfl); (· rfl); (· rfl))
    | ((with_reducible apply D_nilfn); (· rfl); (· rfl); (· rfl))
    | ((with_reducible apply D_nilmap); (· rfl); (· rfl); (· rfl))
    | ((with_reducible apply D_gp); (· rfl); (· rfl); (· rfl))
    | (with_reducible intro hc)
    | ((with_reducible apply W_condT); (· rfl))
    | ((with_reducible apply W_condF); (· rfl))
    | ((with_reducible apply W_cond2); (· rfl); (· with_reducible rfl))
    | ((with_reducible apply W_cond1); (· rfl)))
  all_goals (refine ret_int ret_not rfl rfl ?_; first | rfl | decide)
theorem c19 (a lo hi : Int) (S : St) : Ev Y 19 [I a, I lo, I hi] S (.bool (decide (lo ≤ a ∧ a ≤ hi))) S := by
  refine Ev_start (fn := Try.f19) rfl rfl (Nat.le_of_ble_eq_true rfl) ?_
  repeat' (first
    | with_reducible apply Then_norm
    | with_reducible apply Then_ret
    | with_reducible apply Then_exit
    | with_reducible apply InB_norm
    | with_reducible apply InB_ret
    | with_reducible apply InB_exit
    | with_reducible apply W_seq
    | with_reducible apply W_reg
    | with_reducible apply W_ret
    | with_reducible apply W_skip
    | with_reducible apply W_exit
    | with_reducible apply W_block
    | with_reducible apply WX_nil
    | ((with_reducible apply InB_other); rfl)
    | ((with_reducible apply W_regL); (· first | (simp only [List.length_cons, List.length_nil, Nat.reduceAdd]; rfl) | rfl))
    | ((with_reducible apply A_no); (· rfl))
    | ((with_reducible apply WX_alloc); (· rfl); (· rfl); (· first | (simp only [List.length_cons, List.length_nil, Nat.reduceAdd]; rfl) | rfl); (· first | (simp only [List.nil_append, List.cons_append]; rfl) | rfl))
    | ((with_reducible apply WX_box); (· rfl); (· rfl); (· first | (simp only [List.length_cons, List.length_nil, Nat.reduceAdd]; rfl) | rfl); (· first | (simp only [List.nil_append, List.cons_append]; rfl) | rfl))
    | ((with_reducible apply A_int); (· rfl); (· rfl))
    | ((with_reducible apply A_true); (· rfl); (· rfl))
    | ((with_reducible apply A_false); (· rfl); (· rfl))
    | ((with_reducible apply A_splitP); (· rfl); (· rfl); (· with_reducible rfl))
    | ((with_reducible apply A_split); (· rfl); (· rfl))
    | ((with_reducible apply A_bool); (· rfl); (· rfl))
    | ((with_reducible apply A_lst); (· rfl); (· rfl))
    | ((with_reducible apply A_iptr); (· rfl); (· rfl))
    | ((with_reducible apply A_agg); (· rfl); (· rfl))
    | ((with_reducible apply A_ptr); (· rfl); (· rfl))
    | ((with_reducible apply A_fn); (· rfl); (· rfl))
    | ((with_reducible apply A_sl); (· rfl); (· rfl))
    | ((with_reducible apply A_load); (· rfl); (· rfl); (· rfl); (· first | exact get_own rfl | assumption | exact get_old (by assumption)); (· first | rfl | assumption); (· first | rfl | exact map_get (by assumption) | assumption); (· rfl))
    | ((with_reducible apply A_loadI); (· rfl); (· rfl); (· rfl); (· first | rfl | exact map_get (by assumption) | assumption); (· rfl))
    | ((with_reducible apply A_at); (· rfl); (· rfl); (· rfl); (· rfl); (· rfl); (· rfl); (· first | rfl | exact map_get (by assumption) | assumption); (· rfl))
    | ((with_reducible apply A_atS); (· rfl); (· rfl); (· rfl); (· rfl); (· rfl); (· rfl); (· first | exact get_own rfl | assumption | exact get_old (by assumption)); (· first | rfl | assumption); (· first | rfl | exact map_get (by assumption) | assumption); (· rfl))
    | ((with_reducible apply WX_store); (· rfl); (· rfl); (· rfl); (· first | exact get_own rfl | assumption | exact get_old (by assumption)); (· first | rfl | assumption); (· first | rfl | exact map_get (by assumption) | assumption); (· rfl); (· rfl); (· exact Nat.le_of_ble_eq_true rfl); (· rfl); (· first | exact set_own | exact set_old (by assumption)))
    | ((with_reducible apply WX_make); (· rfl); (· rfl); (· rfl); (· rfl); (· rfl); (· rfl); (· rfl); (· rfl); (· first | decide | assumption); (· rfl); (· first | (simp only [List.length_cons, List.length_nil, Nat.reduceAdd]; rfl) | rfl); (· first | (simp only [List.nil_append, List.cons_append]; rfl) | rfl))
    | ((with_reducible apply A_shl); (· rfl); (· rfl); (· rfl); (· first | decide | assumption | omega))
    | ((with_reducible apply A_shr); (· rfl); (· rfl); (· rfl); (· first | decide | assumption | omega))
    | ((with_reducible apply A_quo); (· rfl); (· rfl); (· rfl); (· rfl); (· first | decide | assumption | omega))
    | ((with_reducible apply A_rem); (· rfl); (· rfl); (· rfl); (· rfl); (· first | decide | assumption | omega))
    | ((with_reducible apply A_str); (· rfl); (· rfl))
    | ((with_reducible apply A_tup); (· rfl); (· rfl))
    | ((with_reducible apply A_nils); (· rfl); (· rfl))
    | ((with_reducible apply A_map); (· rfl); (· rfl))
    | ((with_reducible apply A_nilptr); (· rfl); (· rfl))
    | ((with_reducible apply A_nilfn); (· rfl); (· rfl))
    | ((with_reducible apply A_nilmap); (· rfl); (· rfl))
    | ((with_reducible apply A_gp); (· rfl); (· rfl))
    | ((with_reducible apply D_no); (· rfl))
    | ((with_reducible apply D_int); (· rfl); (· rfl); (· rfl))
    | ((with_reducible apply D_true); (· rfl); (· rfl); (· rfl))
    | ((with_reducible apply D_false); (· rfl); (· rfl); (· rfl))
    | ((with_reducible apply D_splitP); (· rfl); (· rfl); (· with_reducible rfl))
    | ((with_reducible apply D_split); (· rfl); (· rfl))
    | ((with_reducible apply D_bool); (· rfl); (· rfl); (· rfl))
    | ((with_reducible apply D_lst); (· rfl); (· rfl); (· rfl))
    | ((with_reducible apply D_iptr); (· rfl); (· rfl); (· rfl))
    | ((with_reducible apply D_agg); (· rfl); (· rfl); (· rfl))
    | ((with_reducible apply D_ptr); (· rfl); (· rfl); (· rfl))
    | ((with_reducible apply D_fn); (· rfl); (· rfl); (· rfl))
    | ((with_reducible apply D_sl); (· rfl); (· rfl); (· rfl))
    | ((with_reducible apply D_load); (· rfl); (· rfl); (· rfl); (· first | exact get_own rfl | assumption | exact get_old (by assumption)); (· first | rfl | assumption); (· first | rfl | exact map_get (by assumption) | assumption); (· rfl))
    | ((with_reducible apply D_loadI); (· rfl); (· rfl); (· rfl); (· first | rfl | exact map_get (by assumption) | assumption); (· rfl))
    | ((with_reducible apply D_at); (· rfl); (· rfl); (· rfl); (· rfl); (· rfl); (· rfl); (· first | rfl | exact map_get (by assumption) | assumption); (· rfl))
    | ((with_reducible apply D_atS); (· rfl); (· rfl); (· rfl); (· rfl); (· rfl); (· rfl); (· first | exact get_own rfl | assumption | exact get_old (by assumption)); (· first | rfl | assumption); (· first | rfl | exact map_get (by assumption) | assumption); (· rfl))
    | ((with_reducible apply D_shl); (· rfl); (· rfl); (· rfl); (· first | decide | assumption | omega))
    | ((with_reducible apply D_shr); (· rfl); (· rfl); (· rfl); (· first | decide | assumption | omega))
    | ((with_reducible apply D_quo); (· rfl); (· rfl); (· rfl); (· rfl); (· first | decide | assumption | omega))
    | ((with_reducible apply D_rem); (· rfl); (· rfl); (· rfl); (· rfl); (· first | decide | assumption | omega))
    | ((with_reducible apply D_str); (· rfl); (· rfl); (· rfl))
    | ((with_reducible apply D_tup); (· rfl); (· rfl); (· rfl))
    | ((with_reducible apply D_nils); (· rfl); (· rfl); (· rfl))
    | ((with_reducible apply D_map); (· rfl); (· rfl); (· rfl))
    | ((with_reducible apply D_nilptr); (· rfl); (· rfl); (· rfl))
    | ((with_reducible apply D_nilfn); (· rfl); (· rfl); (· rfl))
    | ((with_reducible apply D_nilmap); (· rfl); (· rfl); (· rfl))
    | ((with_reducible apply D_gp); (· rfl); (· rfl); (· rfl))
    | (with_reducible intro hc)
    | ((with_reducible apply W_condT); (· rfl))
    | ((with_reducible apply W_condF); (· rfl))
    | ((with_reducible apply W_cond2); (· rfl); (· with_reducible rfl))
    | ((with_reducible apply W_cond1); (· rfl)))
  all_goals (refine ret_bool ret_not rfl rfl ?_; first | (simp_all; done) | (simp_all; omega))
theorem c20 (a : Int) (S : St) : Ev Y 20 [I a] S (.bool (decide (0 ≤ a ∧ a ≤ 7))) S := by
  refine Ev_start (fn := Try.f20) rfl rfl (Nat.le_of_ble_eq_true rfl) ?_
  repeat' (first
    | with_reducible apply Then_norm
    | with_reducible apply Then_ret
    | with_reducible apply Then_exit
    | with_reducible apply InB_norm
    | with_reducible apply InB_ret
    | with_reducible apply InB_exit
    | with_reducible apply W_seq
    | with_reducible apply W_reg
    | with_reducible apply W_ret
    | with_reducible apply W_skip
    | with_reducible apply W_exit
    | with_reducible apply W_block
    | with_reducible apply WX_nil
    | ((with_reducible apply InB_other); rfl)
    | ((with_reducible apply W_regL); (· first | (simp only [List.length_cons, List.length_nil, Nat.reduceAdd]; rfl) | rfl))
    | ((with_reducible apply WX_call); (· rfl); (· rfl); (· rfl); (· rfl); (· first | exact c29 _ | exact c19 _ _ _ _))
    | ((with_reducible apply D_call); (· rfl); (· rfl); (· rfl); (· rfl); (· first | exact c29 _ | exact c19 _ _ _ _))
    | ((with_reducible apply A_no); (· rfl))
    | ((with_reducible apply WX_alloc); (· rfl); (· rfl); (· first | (simp only [List.length_cons, List.length_nil, Nat.reduceAdd]; rfl) | rfl); (· first | (simp only [List.nil_append, List.cons_append]; rfl) | rfl))
    | ((with_reducible apply WX_box); (· rfl); (· rfl); (· first | (simp only [List.length_cons, List.length_nil, Nat.reduceAdd]; rfl) | rfl); (· first | (simp only [List.nil_append, List.cons_append]; rfl) | rfl))
    | ((with_reducible apply A_int); (· rfl); (· rfl))
    | ((with_reducible apply A_true); (· rfl); (· rfl))
    | ((with_reducible apply A_false); (· rfl); (· rfl))
    | ((with_reducible apply A_splitP); (· rfl); (· rfl); (· with_reducible rfl))
    | ((with_reducible apply A_split); (· rfl); (· rfl))
    | ((with_reducible apply A_bool); (· rfl); (· rfl))
    | ((with_reducible apply A_lst); (· rfl); (· rfl))
    | ((with_reducible apply A_iptr); (· rfl); (· rfl))
    | ((with_reducible apply A_agg); (· rfl); (· rfl))
    | ((with_reducible apply A_ptr); (· rfl); (· rfl))
    | ((with_reducible apply A_fn); (· rfl); (· rfl))
    | ((with_reducible apply A_sl); (· rfl); (· rfl))
    | ((with_reducible apply A_load); (· rfl); (· rfl); (· rfl); (· first | exact get_own rfl | assumption | exact get_old (by assumption)); (· first | rfl | assumption); (· first | rfl | exact map_get (by assumption) | assumption); (· rfl))
    | ((with_reducible apply A_loadI); (· rfl); (· rfl); (· rfl); (· first | rfl | exact map_get (by assumption) | assumption); (· rfl))
    | ((with_reducible apply A_at); (· rfl); (· rfl); (· rfl); (· rfl); (· rfl); (· rfl); (· first | rfl | exact map_get (by assumption) | assumption); (· rfl))
    | ((with_reducible apply A_atS); (· rfl); (· rfl); (· rfl); (· rfl); (· rfl); (· rfl); (· first | exact get_own rfl | assumption | exact get_old (by assumption)); (· first | rfl | assumption); (· first | rfl | exact map_get (by assumption) | assumption); (· rfl))
    | ((with_reducible apply WX_store); (· rfl); (· rfl); (· rfl); (· first | exact get_own rfl | assumption | exact get_old (by assumption)); (· first | rfl | assumption); (· first | rfl | exact map_get (by assumption) | assumption); (· rfl); (· rfl); (· exact Nat.le_of_ble_eq_true rfl); (· rfl); (· first | exact set_own | exact set_old (by assumption)))
    | ((with_reducible apply WX_make); (· rfl); (· rfl); (· rfl); (· rfl); (· rfl); (· rfl); (· rfl); (· rfl); (· first | decide | assumption); (· rfl); (· first | (simp only [List.length_cons, List.length_nil, Nat.reduceAdd]; rfl) | rfl); (· first | (simp only [List.nil_append, List.cons_append]; rfl) | rfl))
    | ((with_reducible apply A_shl); (· rfl); (· rfl); (· rfl); (· first | decide | assumption | omega))
    | ((with_reducible apply A_shr); (· rfl); (· rfl); (· rfl); (· first | decide | assumption | omega))
    | ((with_reducible apply A_quo); (· rfl); (· rfl); (· rfl); (· rfl); (· first | decide | assumption | omega))
    | ((with_reducible apply A_rem); (· rfl); (· rfl); (· rfl); (· rfl); (· first | decide | assumption | omega))
    | ((with_reducible apply A_str); (· rfl); (· rfl))
    | ((with_reducible apply A_tup); (· rfl); (· rfl))
    | ((with_reducible apply A_nils); (· rfl); (· rfl))
    | ((with_reducible apply A_map); (· rfl); (· rfl))
    | ((with_reducible apply A_nilptr); (· rfl); (· rfl))
    | ((with_reducible apply A_nilfn); (· rfl); (· rfl))
    | ((with_reducible apply A_nilmap); (· rfl); (· rfl))
    | ((with_reducible apply A_gp); (· rfl); (· rfl))
    | ((with_reducible apply D_no); (· rfl))
    | ((with_reducible apply D_int); (· rfl); (· rfl); (· rfl))
    | ((with_reducible apply D_true); (· rfl); (· rfl); (· rfl))
    | ((with_reducible apply D_false); (· rfl); (· rfl); (· rfl))
    | ((with_reducible apply D_splitP); (· rfl); (· rfl); (· with_reducible rfl))
    | ((with_reducible apply D_split); (· rfl); (· rfl))
    | ((with_reducible apply D_bool); (· rfl); (· rfl); (· rfl))
    | ((with_reducible apply D_lst); (· rfl); (· rfl); (· rfl))
    | ((with_reducible apply D_iptr); (· rfl); (· rfl); (· rfl))
    | ((with_reducible apply D_agg); (· rfl); (· rfl); (· rfl))
    | ((with_reducible apply D_ptr); (· rfl); (· rfl); (· rfl))
    | ((with_reducible apply D_fn); (· rfl); (· rfl); (· rfl))
    | ((with_reducible apply D_sl); (· rfl); (· rfl); (· rfl))
    | ((with_reducible apply D_load); (· rfl); (· rfl); (· rfl); (· first | exact get_own rfl | assumption | exact get_old (by assumption)); (· first | rfl | assumption); (· first | rfl | exact map_get (by assumption) | assumption); (· rfl))
    | ((with_reducible apply D_loadI); (· rfl); (· rfl); (· rfl); (· first | rfl | exact map_get (by assumption) | assumption); (· rfl))
    | ((with_reducible apply D_at); (· rfl); (· rfl); (· rfl); (· rfl); (· rfl); (· rfl); (· first | rfl | exact map_get (by assumption) | assumption); (· rfl))
    | ((with_reducible apply D_atS); (· rfl); (· rfl); (· rfl); (· rfl); (· rfl); (· rfl); (· first | exact get_own rfl | assumption | exact get_old (by assumption)); (· first | rfl | assumption); (· first | rfl | exact map_get (by assumption) | assumption); (· rfl))
    | ((with_reducible apply D_shl); (· rfl); (· rfl); (· rfl); (· first | decide | assumption | omega))
    | ((with_reducible apply D_shr); (· rfl); (· rfl); (· rfl); (· first | decide | assumption | omega))
    | ((with_reducible apply D_quo); (· rfl); (· rfl); (· rfl); (· rfl); (· first | decide | assumption | omega))
    | ((with_reducible apply D_rem); (· rfl); (· rfl); (· rfl); (· rfl); (· first | decide | assumption | omega))
    | ((with_reducible apply D_str); (· rfl); (· rfl); (· rfl))
    | ((with_reducible apply D_tup); (· rfl); (· rfl); (· rfl))
    | ((with_reducible apply D_nils); (· rfl); (· rfl); (· rfl))
    | ((with_reducible apply D_map); (· rfl); (· rfl); (· rfl))
    | ((with_reducible apply D_nilptr); (· rfl); (· rfl); (· rfl))
    | ((with_reducible apply D_nilfn); (· rfl); (· rfl); (· rfl))
    | ((with_reducible apply D_nilmap); (· rfl); (· rfl); (· rfl))
    | ((with_reducible apply D_gp); (· rfl); (· rfl); (· rfl))
    | (with_reducible intro hc)
    | ((with_reducible apply W_condT); (· rfl))
    | ((with_reducible apply W_condF); (· rfl))
    | ((with_reducible apply W_cond2); (· rfl); (· with_reducible rfl))
    | ((with_reducible apply W_cond1); (· rfl)))
  all_goals (refine ret_bool ret_not rfl rfl ?_; simp_all)
def hasG (a i : Int) : Bool := decide (0 ≤ i ∧ i < 3) && ((a.fdiv (2 ^ (min i.toNat 64))).tmod 2 == 1)
theorem c28 (a i : Int) (S : St) : Ev Y 28 [I a, I i] S (.bool (hasG a i)) S := by
  refine Ev_start (fn := Try.f28) rfl rfl (Nat.le_of_ble_eq_true rfl) ?_
  repeat' (first
    | with_reducible apply Then_norm
    | with_reducible apply Then_ret
    | with_reducible apply Then_exit
    | with_reducible apply InB_norm
    | with_reducible apply InB_ret
    | with_reducible apply InB_exit
    | with_reducible apply W_seq
    | with_reducible apply W_reg
    | with_reducible apply W_ret
    | with_reducible apply W_skip
    | with_reducible apply W_exit
    | with_reducible apply W_block
    | with_reducible apply WX_nil
    | ((with_reducible apply InB_other); rfl)
    | ((with_reducible apply W_regL); (· first | (simp only [List.length_cons, List.length_nil, Nat.reduceAdd]; rfl) | rfl))
    | ((with_reducible apply A_no); (· rfl))
    | ((with_reducible apply WX_alloc); (· rfl); (· rfl); (· first | (simp only [List.length_cons, List.length_nil, Nat.reduceAdd]; rfl) | rfl); (· first | (simp only [List.nil_append, List.cons_append]; rfl) | rfl))
    | ((with_reducible apply WX_box); (· rfl); (· rfl); (· first | (simp only [List.length_cons, List.length_nil, Nat.reduceAdd]; rfl) | rfl); (· first | (simp only [List.nil_append, List.cons_append]; rfl) | rfl))
    | ((with_reducible apply A_int); (· rfl); (· rfl))
    | ((with_reducible apply A_true); (· rfl); (· rfl))
    | ((with_reducible apply A_false); (· rfl); (· rfl))
    | ((with_reducible apply A_splitP); (· rfl); (· rfl); (· with_reducible rfl))
    | ((with_reducible apply A_split); (· rfl); (· rfl))
    | ((with_reducible apply A_bool); (· rfl); (· rfl))
    | ((with_reducible apply A_lst); (· rfl); (· rfl))
    | ((with_reducible apply A_iptr); (· rfl); (· rfl))
    | ((with_reducible apply A_agg); (· rfl); (· rfl))
    | ((with_reducible apply A_ptr); (· rfl); (· rfl))
    | ((with_reducible apply A_fn); (· rfl); (· rfl))
    | ((with_reducible apply A_sl); (· rfl); (· rfl))
    | ((with_reducible apply A_load); (· rfl); (· rfl); (· rfl); (· first | exact get_own rfl | assumption | exact get_old (by assumption)); (· first | rfl | assumption); (· first | rfl | exact map_get (by assumption) | assumption); (· rfl))
    | ((with_reducible apply A_loadI); (· rfl); (· rfl); (· rfl); (· first | rfl | exact map_get (by assumption) | assumption); (· rfl))
    | ((with_reducible apply A_at); (· rfl); (· rfl); (· rfl); (· rfl); (· rfl); (· rfl); (· first | rfl | exact map_get (by assumption) | assumption); (· rfl))
    | ((with_reducible apply A_atS); (· rfl); (· rfl); (· rfl); (· rfl); (· rfl); (· rfl); (· first | exact get_own rfl | assumption | exact get_old (by assumption)); (· first | rfl | assumption); (· first | rfl | exact map_get (by assumption) | assumption); (· rfl))
    | ((with_reducible apply WX_store); (· rfl); (· rfl); (· rfl); (· first | exact get_own rfl | assumption | exact get_old (by assumption)); (· first | rfl | assumption); (· first | rfl | exact map_get (by assumption) | assumption); (· rfl); (· rfl); (· exact Nat.le_of_ble_eq_true rfl); (· rfl); (· first | exact set_own | exact set_old (by assumption)))
    | ((with_reducible apply WX_make); (· rfl); (· rfl); (· rfl); (· rfl); (· rfl); (· rfl); (· rfl); (· rfl); (· first | decide | assumption); (· rfl); (· first | (simp only [List.length_cons, List.length_nil, Nat.reduceAdd]; rfl) | rfl); (· first | (simp only [List.nil_append, List.cons_append]; rfl) | rfl))
    | ((with_reducible apply A_shl); (· rfl); (· rfl); (· rfl); (· first | decide | assumption | omega))
    | ((with_reducible apply A_shr); (· rfl); (· rfl); (· rfl); (· first | decide | assumption | omega))
    | ((with_reducible apply A_quo); (· rfl); (· rfl); (· rfl); (· rfl); (· first | decide | assumption | omega))
    | ((with_reducible apply A_rem); (· rfl); (· rfl); (· rfl); (· rfl); (· first | decide | assumption | omega))
    | ((with_reducible apply A_str); (· rfl); (· rfl))
    | ((with_reducible apply A_tup); (· rfl); (· rfl))
    | ((with_reducible apply A_nils); (· rfl); (· rfl))
    | ((with_reducible apply A_map); (· rfl); (· rfl))
    | ((with_reducible apply A_nilptr); (· rfl); (· rfl))
    | ((with_reducible apply A_nilfn); (· rfl); (· rfl))
    | ((with_reducible apply A_nilmap); (· rfl); (· rfl))
    | ((with_reducible apply A_gp); (· rfl); (· rfl))
    | ((with_reducible apply D_no); (· rfl))
    | ((with_reducible apply D_int); (· rfl); (· rfl); (· rfl))
    | ((with_reducible apply D_true); (· rfl); (· rfl); (· rfl))
    | ((with_reducible apply D_false); (· rfl); (· rfl); (· rfl))
    | ((with_reducible apply D_splitP); (· rfl); (· rfl); (· with_reducible rfl))
    | ((with_reducible apply D_split); (· rfl); (· rfl))
    | ((with_reducible apply D_bool); (· rfl); (· rfl); (· rfl))
    | ((with_reducible apply D_lst); (· rfl); (· rfl); (· rfl))
    | ((with_reducible apply D_iptr); (· rfl); (· rfl); (· rfl))
    | ((with_reducible apply D_agg); (· rfl); (· rfl); (· rfl))
    | ((with_reducible apply D_ptr); (· rfl); (· rfl); (· rfl))
    | ((with_reducible apply D_fn); (· rfl); (· rfl); (· rfl))
    | ((with_reducible apply D_sl); (· rfl); (· rfl); (· rfl))
    | ((with_reducible apply D_load); (· rfl); (· rfl); (· rfl); (· first | exact get_own rfl | assumption | exact get_old (by assumption)); (· first | rfl | assumption); (· first | rfl | exact map_get (by assumption) | assumption); (· rfl))
    | ((with_reducible apply D_loadI); (· rfl); (· rfl); (· rfl); (· first | rfl | exact map_get (by assumption) | assumption); (· rfl))
    | ((with_reducible apply D_at); (· rfl); (· rfl); (· rfl); (· rfl); (· rfl); (· rfl); (· first | rfl | exact map_get (by assumption) | assumption); (· rfl))
    | ((with_reducible apply D_atS); (· rfl); (· rfl); (· rfl); (· rfl); (· rfl); (· rfl); (· first | exact get_own rfl | assumption | exact get_old (by assumption)); (· first | rfl | assumption); (· first | rfl | exact map_get (by assumption) | assumption); (· rfl))
    | ((with_reducible apply D_shl); (· rfl); (· rfl); (· rfl); (· first | decide | assumption | omega))
    | ((with_reducible apply D_shr); (· rfl); (· rfl); (· rfl); (· first | decide | assumption | omega))
    | ((with_reducible apply D_quo); (· rfl); (· rfl); (· rfl); (· rfl); (· first | decide | assumption | omega))
    | ((with_reducible apply D_rem); (· rfl); (· rfl); (· rfl); (· rfl); (· first | decide | assumption | omega))
    | ((with_reducible apply D_str); (· rfl); (· rfl); (· rfl))
    | ((with_reducible apply D_tup); (· rfl); (· rfl); (· rfl))
    | ((with_reducible apply D_nils); (· rfl); (· rfl); (· rfl))
    | ((with_reducible apply D_map); (· rfl); (· rfl); (· rfl))
    | ((with_reducible apply D_nilptr); (· rfl); (· rfl); (· rfl))
    | ((with_reducible apply D_nilfn); (· rfl); (· rfl); (· rfl))
    | ((with_reducible apply D_nilmap); (· rfl); (· rfl); (· rfl))
    | ((with_reducible apply D_gp); (· rfl); (· rfl); (· rfl))
    | (with_reducible intro hc)
    | ((with_reducible apply W_condT); (· rfl))
    | ((with_reducible apply W_condF); (· rfl))
    | ((with_reducible apply W_cond2); (· rfl); (· with_reducible rfl))
    | ((with_reducible apply W_cond1); (· rfl)))
  · refine ret_bool ret_not rfl rfl ?_
    have : (0 ≤ i ∧ i < 3) := by omega
    simp [hasG, this]; rfl
  · refine ret_bool ret_not rfl rfl ?_
    have : ¬ (0 ≤ i ∧ i < 3) := by omega
    simp only [hasG, this, decide_false, Bool.false_and]
  · refine ret_bool ret_not rfl rfl ?_
    have : ¬ (0 ≤ i ∧ i < 3) := by omega
    simp only [hasG, this, decide_false, Bool.false_and]

theorem c27 (a lo hi : Int) (S : St) : Ev Y 27 [I a, I lo, I hi] S (.bool (decide (lo ≤ a ∧ a ≤ hi))) S := by
  refine Ev_start (fn := Try.f27) rfl rfl (Nat.le_of_ble_eq_true rfl) ?_
  repeat' (first
    | with_reducible apply Then_norm
    | with_reducible apply Then_ret
    | with_reducible apply Then_exit
    | with_reducible apply InB_norm
    | with_reducible apply InB_ret
    | with_reducible apply InB_exit
    | with_reducible apply W_seq
    | with_reducible apply W_reg
    | with_reducible apply W_ret
    | with_reducible apply W_skip
    | with_reducible apply W_exit
    | with_reducible apply W_block
    | with_reducible apply WX_nil
    | ((with_reducible apply InB_other); rfl)
    | ((with_reducible apply W_regL); (· first | (simp only [List.length_cons, List.length_nil, Nat.reduceAdd]; rfl) | rfl))
    | ((with_reducible apply A_no); (· rfl))
    | ((with_reducible apply WX_alloc); (· rfl); (· rfl); (· first | (simp only [List.length_cons, List.length_nil, Nat.reduceAdd]; rfl) | rfl); (· first | (simp only [List.nil_append, List.cons_append]; rfl) | rfl))
    | ((with_reducible apply WX_box); (· rfl); (· rfl); (· first | (simp only [List.length_cons, List.length_nil, Nat.reduceAdd]; rfl) | rfl); (· first | (simp only [List.nil_append, List.cons_append]; rfl) | rfl))
    | ((with_reducible apply A_int); (· rfl); (· rfl))
    | ((with_reducible apply A_true); (· rfl); (· rfl))
    | ((with_reducible apply A_false); (· rfl); (· rfl))
    | ((with_reducible apply A_splitP); (· rfl); (· rfl); (· with_reducible rfl))
    | ((with_reducible apply A_split); (· rfl); (· rfl))
    | ((with_reducible apply A_bool); (· rfl); (· rfl))
    | ((with_reducible apply A_lst); (· rfl); (· rfl))
    | ((with_reducible apply A_iptr); (· rfl); (· rfl))
    | ((with_reducible apply A_agg); (· rfl); (· rfl))
    | ((with_reducible apply A_ptr); (· rfl); (· rfl))
    | ((with_reducible apply A_fn); (· rfl); (· rfl))
    | ((with_reducible apply A_sl); (· rfl); (· rfl))
    | ((with_reducible apply A_load); (· rfl); (· rfl); (· rfl); (· first | exact get_own rfl | assumption | exact get_old (by assumption)); (· first | rfl | assumption); (· first | rfl | exact map_get (by assumption) | assumption); (· rfl))
    | ((with_reducible apply A_loadI); (· rfl); (· rfl); (· rfl); (· first | rfl | exact map_get (by assumption) | assumption); (· rfl))
    | ((with_reducible apply A_at); (· rfl); (· rfl); (· rfl); (· rfl); (· rfl); (· rfl); (· first | rfl | exact map_get (by assumption) | assumption); (· rfl))
    | ((with_reducible apply A_atS); (· rfl); (· rfl); (· rfl); (· rfl); (· rfl); (· rfl); (· first | exact get_own rfl | assumption | exact get_old (by assumption)); (· first | rfl | assumption); (· first | rfl | exact map_get (by assumption) | assumption); (· rfl))
    | ((with_reducible apply WX_store); (· rfl); (· rfl); (· rfl); (· first | exact get_own rfl | assumption | exact get_old (by assumption)); (· first | rfl | assumption); (· first | rfl | exact map_get (by assumption) | assumption); (· rfl); (· rfl); (· exact Nat.le_of_ble_eq_true rfl); (· rfl); (· first | exact set_own | exact set_old (by assumption)))
    | ((with_reducible apply WX_make); (· rfl); (· rfl); (· rfl); (· rfl); (· rfl); (· rfl); (· rfl); (· rfl); (· first | decide | assumption); (· rfl); (· first | (simp only [List.length_cons, List.length_nil, Nat.reduceAdd]; rfl) | rfl); (· first | (simp only [List.nil_append, List.cons_append]; rfl) | rfl))
    | ((with_reducible apply A_shl); (· rfl); (· rfl); (· rfl); (· first | decide | assumption | omega))
    | ((with_reducible apply A_shr); (· rfl); (· rfl); (· rfl); (· first | decide | assumption | omega))
    | ((with_reducible apply A_quo); (· rfl); (· rfl); (· rfl); (· rfl); (· first | decide | assumption | omega))
    | ((with_reducible apply A_rem); (· rfl); (· rfl); (· rfl); (· rfl); (· first | decide | assumption | omega))
    | ((with_reducible apply A_str); (· rfl); (· rfl))
    | ((with_reducible apply A_tup); (· rfl); (· rfl))
    | ((with_reducible apply A_nils); (· rfl); (· rfl))
    | ((with_reducible apply A_map); (· rfl); (· rfl))
    | ((with_reducible apply A_nilptr); (· rfl); (· rfl))
    | ((with_reducible apply A_nilfn); (· rfl); (· rfl))
    | ((with_reducible apply A_nilmap); (· rfl); (· rfl))
    | ((with_reducible apply A_gp); (· rfl); (· rfl))
    | ((with_reducible apply D_no); (· rfl))
    | ((with_reducible apply D_int); (· rfl); (· rfl); (· rfl))
    | ((with_reducible apply D_true); (· rfl); (· rfl); (· rfl))
    | ((with_reducible apply D_false); (· rfl); (· rfl); (· rfl))
    | ((with_reducible apply D_splitP); (· rfl); (· rfl); (· with_reducible rfl))
    | ((with_reducible apply D_split); (· rfl); (· rfl))
    | ((with_reducible apply D_bool); (· rfl); (· rfl); (· rfl))
    | ((with_reducible apply D_lst); (· rfl); (· rfl); (· rfl))
    | ((with_reducible apply D_iptr); (· rfl); (· rfl); (· rfl))
    | ((with_reducible apply D_agg); (· rfl); (· rfl); (· rfl))
    | ((with_reducible apply D_ptr); (· rfl); (· rfl); (· rfl))
    | ((with_reducible apply D_fn); (· rfl); (· rfl); (· rfl))
    | ((with_reducible apply D_sl); (· rfl); (· rfl); (· rfl))
    | ((with_reducible apply D_load); (· rfl); (· rfl); (· rfl); (· first | exact get_own rfl | assumption | exact get_old (by assumption)); (· first | rfl | assumption); (· first | rfl | exact map_get (by assumption) | assumption); (· rfl))
    | ((with_reducible apply D_loadI); (· rfl); (· rfl); (· rfl); (· first | rfl | exact map_get (by assumption) | assumption); (· rfl))
    | ((with_reducible apply D_at); (· rfl); (· rfl); (· rfl); (· rfl); (· rfl); (· rfl); (· first | rfl | exact map_get (by assumption) | assumption); (· rfl))
    | ((with_reducible apply D_atS); (· rfl); (· rfl); (· rfl); (· rfl); (· rfl); (· rfl); (· first | exact get_own rfl | assumption | exact get_old (by assumption)); (· first | rfl | assumption); (· first | rfl | exact map_get (by assumption) | assumption); (· rfl))
    | ((with_reducible apply D_shl); (· rfl); (· rfl); (· rfl); (· first | decide | assumption | omega))
    | ((with_reducible apply D_shr); (· rfl); (· rfl); (· rfl); (· first | decide | assumption | omega))
    | ((with_reducible apply D_quo); (· rfl); (· rfl); (· rfl); (· rfl); (· first | decide | assumption | omega))
    | ((with_reducible apply D_rem); (· rfl); (· rfl); (· rfl); (· rfl); (· first | decide | assumption | omega))
    | ((with_reducible apply D_str); (· rfl); (· rfl); (· rfl))
    | ((with_reducible apply D_tup); (· rfl); (· rfl); (· rfl))
    | ((with_reducible apply D_nils); (· rfl); (· rfl); (· rfl))
    | ((with_reducible apply D_map); (· rfl); (· rfl); (· rfl))
    | ((with_reducible apply D_nilptr); (· rfl); (· rfl); (· rfl))
    | ((with_reducible apply D_nilfn); (· rfl); (· rfl); (· rfl))
    | ((with_reducible apply D_nilmap); (· rfl); (· rfl); (· rfl))
    | ((with_reducible apply D_gp); (· rfl); (· rfl); (· rfl))
    | (with_reducible intro hc)
    | ((with_reducible apply W_condT); (· rfl))
    | ((with_reducible apply W_condF); (· rfl))
    | ((with_reducible apply W_cond2); (· rfl); (· with_reducible rfl))
    | ((with_reducible apply W_cond1); (· rfl)))
  all_goals (refine ret_bool ret_not rfl rfl ?_; first | (simp_all; done) | (simp_all; omega))
theorem c17 (a : Int) (S : St) : Ev Y 17 [I a] S (.bool (decide (0 ≤ a ∧ a ≤ 7))) S := by
  refine Ev_start (fn := Try.f17) rfl rfl (Nat.le_of_ble_eq_true rfl) ?_
  repeat' (first
    | with_reducible apply Then_norm
    | with_reducible apply Then_ret
    | with_reducible apply Then_exit
    | with_reducible apply InB_norm
    | with_reducible apply InB_ret
    | with_reducible apply InB_exit
    | with_reducible apply W_seq
    | with_reducible apply W_reg
    | with_reducible apply W_ret
    | with_reducible apply W_skip
    | with_reducible apply W_exit
    | with_reducible apply W_block
    | with_reducible apply WX_nil
    | ((with_reducible apply InB_other); rfl)
    | ((with_reducible apply W_regL); (· first | (simp only [List.length_cons, List.length_nil, Nat.reduceAdd]; rfl) | rfl))
    | ((with_reducible apply WX_call); (· rfl); (· rfl); (· rfl); (· rfl); (· first | exact c27 _ _ _ _))
    | ((with_reducible apply D_call); (· rfl); (· rfl); (· rfl); (· rfl); (· first | exact c27 _ _ _ _))
    | ((with_reducible apply A_no); (· rfl))
    | ((with_reducible apply WX_alloc); (· rfl); (· rfl); (· first | (simp only [List.length_cons, List.length_nil, Nat.reduceAdd]; rfl) | rfl); (· first | (simp only [List.nil_append, List.cons_append]; rfl) | rfl))
    | ((with_reducible apply WX_box); (· rfl); (· rfl); (· first | (simp only [List.length_cons, List.length_nil, Nat.reduceAdd]; rfl) | rfl); (· first | (simp only [List.nil_append, List.cons_append]; rfl) | rfl))
    | ((with_reducible apply A_int); (· rfl); (· rfl))
    | ((with_reducible apply A_true); (· rfl); (· rfl))
    | ((with_reducible apply A_false); (· rfl); (· rfl))
    | ((with_reducible apply A_splitP); (· rfl); (· rfl); (· with_reducible rfl))
    | ((with_reducible apply A_split); (· rfl); (· rfl))
    | ((with_reducible apply A_bool); (· rfl); (· rfl))
    | ((with_reducible apply A_lst); (· rfl); (· rfl))
    | ((with_reducible apply A_iptr); (· rfl); (· rfl))
    | ((with_reducible apply A_agg); (· rfl); (· rfl))
    | ((with_reducible apply A_ptr); (· rfl); (· rfl))
    | ((with_reducible apply A_fn); (· rfl); (· rfl))
    | ((with_reducible apply A_sl); (· rfl); (· rfl))
    | ((with_reducible apply A_load); (· rfl); (· rfl); (· rfl); (· first | exact get_own rfl | assumption | exact get_old (by assumption)); (· first | rfl | assumption); (· first | rfl | exact map_get (by assumption) | assumption); (· rfl))
    | ((with_reducible apply A_loadI); (· rfl); (· rfl); (· rfl); (· first | rfl | exact map_get (by assumption) | assumption); (· rfl))
    | ((with_reducible apply A_at); (· rfl); (· rfl); (· rfl); (· rfl); (· rfl); (· rfl); (· first | rfl | exact map_get (by assumption) | assumption); (· rfl))
    | ((with_reducible apply A_atS); (· rfl); (· rfl); (· rfl); (· rfl); (· rfl); (· rfl); (· first | exact get_own rfl | assumption | exact get_old (by assumption)); (· first | rfl | assumption); (· first | rfl | exact map_get (by assumption) | assumption); (· rfl))
    | ((with_reducible apply WX_store); (· rfl); (· rfl); (· rfl); (· first | exact get_own rfl | assumption | exact get_old (by assumption)); (· first | rfl | assumption); (· first | rfl | exact map_get (by assumption) | assumption); (· rfl); (· rfl); (· exact Nat.le_of_ble_eq_true rfl); (· rfl); (· first | exact set_own | exact set_old (by assumption)))
    | ((with_reducible apply WX_make); (· rfl); (· rfl); (· rfl); (· rfl); (· rfl); (· rfl); (· rfl); (· rfl); (· first | decide | assumption); (· rfl); (· first | (simp only [List.length_cons, List.length_nil, Nat.reduceAdd]; rfl) | rfl); (· first | (simp only [List.nil_append, List.cons_append]; rfl) | rfl))
    | ((with_reducible apply A_shl); (· rfl); (· rfl); (· rfl); (· first | decide | assumption | omega))
    | ((with_reducible apply A_shr); (· rfl); (· rfl); (· rfl); (· first | decide | assumption | omega))
    | ((with_reducible apply A_quo); (· rfl); (· rfl); (· rfl); (· rfl); (· first | decide | assumption | omega))
    | ((with_reducible apply A_rem); (· rfl); (· rfl); (· rfl); (· rfl); (· first | decide | assumption | omega))
    | ((with_reducible apply A_str); (· rfl); (· rfl))
    | ((with_reducible apply A_tup); (· rfl); (· rfl))
    | ((with_reducible apply A_nils); (· rfl); (· rfl))
    | ((with_reducible apply A_map); (· rfl); (· rfl))
    | ((with_reducible apply A_nilptr); (· rfl); (· rfl))
    | ((with_reducible apply A_nilfn); (· rfl); (· rfl))
    | ((with_reducible apply A_nilmap); (· rfl); (· rfl))
    | ((with_reducible apply A_gp); (· rfl); (· rfl))
    | ((with_reducible apply D_no); (· rfl))
    | ((with_reducible apply D_int); (· rfl); (· rfl); (· rfl))
    | ((with_reducible apply D_true); (· rfl); (· rfl); (· rfl))
    | ((with_reducible apply D_false); (· rfl); (· rfl); (· rfl))
    | ((with_reducible apply D_splitP); (· rfl); (· rfl); (· with_reducible rfl))
    | ((with_reducible apply D_split); (· rfl); (· rfl))
    | ((with_reducible apply D_bool); (· rfl); (· rfl); (· rfl))
    | ((with_reducible apply D_lst); (· rfl); (· rfl); (· rfl))
    | ((with_reducible apply D_iptr); (· rfl); (· rfl); (· rfl))
    | ((with_reducible apply D_agg); (· rfl); (· rfl); (· rfl))
    | ((with_reducible apply D_ptr); (· rfl); (· rfl); (· rfl))
    | ((with_reducible apply D_fn); (· rfl); (· rfl); (· rfl))
    | ((with_reducible apply D_sl); (· rfl); (· rfl); (· rfl))
    | ((with_reducible apply D_load); (· rfl); (· rfl); (· rfl); (· first | exact get_own rfl | assumption | exact get_old (by assumption)); (· first | rfl | assumption); (· first | rfl | exact map_get (by assumption) | assumption); (· rfl))
    | ((with_reducible apply D_loadI); (· rfl); (· rfl); (· rfl); (· first | rfl | exact map_get (by assumption) | assumption); (· rfl))
    | ((with_reducible apply D_at); (· rfl); (· rfl); (· rfl); (· rfl); (· rfl); (· rfl); (· first | rfl | exact map_get (by assumption) | assumption); (· rfl))
    | ((with_reducible apply D_atS); (· rfl); (· rfl); (· rfl); (· rfl); (· rfl); (· rfl); (· first | exact get_own rfl | assumption | exact get_old (by assumption)); (· first | rfl | assumption); (· first | rfl | exact map_get (by assumption) | assumption); (· rfl))
    | ((with_reducible apply D_shl); (· rfl); (· rfl); (· rfl); (· first | decide | assumption | omega))
    | ((with_reducible apply D_shr); (· rfl); (· rfl); (· rfl); (· first | decide | assumption | omega))
    | ((with_reducible apply D_quo); (· rfl); (· rfl); (· rfl); (· rfl); (· first | decide | assumption | omega))
    | ((with_reducible apply D_rem); (· rfl); (· rfl); (· rfl); (· rfl); (· first | decide | assumption | omega))
    | ((with_reducible apply D_str); (· rfl); (· rfl); (· rfl))
    | ((with_reducible apply D_tup); (· rfl); (· rfl); (· rfl))
    | ((with_reducible apply D_nils); (· rfl); (· rfl); (· rfl))
    | ((with_reducible apply D_map); (· rfl); (· rfl); (· rfl))
    | ((with_reducible apply D_nilptr); (· rfl); (· rfl); (· rfl))
    | ((with_reducible apply D_nilfn); (· rfl); (· rfl); (· rfl))
    | ((with_reducible apply D_nilmap); (· rfl); (· rfl); (· rfl))
    | ((with_reducible apply D_gp); (· rfl); (· rfl); (· rfl))
    | (with_reducible intro hc)
    | ((with_reducible apply W_condT); (· rfl))
    | ((with_reducible apply W_condF); (· rfl))
    | ((with_reducible apply W_cond2); (· rfl); (· with_reducible rfl))
    | ((with_reducible apply W_cond1); (· rfl)))
  all_goals (refine ret_bool ret_not rfl rfl ?_; simp_all)
theorem c16 (a : Int) (S : St) : Ev Y 16 [I a] S (.bool (decide (0 ≤ a ∧ a ≤ 2))) S := by
  refine Ev_start (fn := Try.f16) rfl rfl (Nat.le_of_ble_eq_true rfl) ?_
  repeat' (first
    | with_reducible apply Then_norm
    | with_reducible apply Then_ret
    | with_reducible apply Then_exit
    | with_reducible apply InB_norm
    | with_reducible apply InB_ret
    | with_reducible apply InB_exit
    | with_reducible apply W_seq
    | with_reducible apply W_reg
    | with_reducible apply W_ret
    | with_reducible apply W_skip
    | with_reducible apply W_exit
    | with_reducible apply W_block
    | with_reducible apply WX_nil
    | ((with_reducible apply InB_other); rfl)
    | ((with_reducible apply W_regL); (· first | (simp only [List.length_cons, List.length_nil, Nat.reduceAdd]; rfl) | rfl))
    | ((with_reducible apply WX_call); (· rfl); (· rfl); (· rfl); (· rfl); (· first | exact c27 _ _ _ _))
    | ((with_reducible apply D_call); (· rfl); (· rfl); (· rfl); (· rfl); (· first | exact c27 _ _ _ _))
    | ((with_reducible apply A_no); (· rfl))
    | ((with_reducible apply WX_alloc); (· rfl); (· rfl); (· first | (simp only [List.length_cons, List.length_nil, Nat.reduceAdd]; rfl) | rfl); (· first | (simp only [List.nil_append, List.cons_append]; rfl) | rfl))
    | ((with_reducible apply WX_box); (· rfl); (· rfl); (· first | (simp only [List.length_cons, List.length_nil, Nat.reduceAdd]; rfl) | rfl); (· first | (simp only [List.nil_append, List.cons_append]; rfl) | rfl))
    | ((with_reducible apply A_int); (· rfl); (· rfl))
    | ((with_reducible apply A_true); (· rfl); (· rfl))
    | ((with_reducible apply A_false); (· rfl); (· rfl))
    | ((with_reducible apply A_splitP); (· rfl); (· rfl); (· with_reducible rfl))
    | ((with_reducible apply A_split); (· rfl); (· rfl))
    | ((with_reducible apply A_bool); (· rfl); (· rfl))
    | ((with_reducible apply A_lst); (· rfl); (· rfl))
    | ((with_reducible apply A_iptr); (· rfl); (· rfl))
    | ((with_reducible apply A_agg); (· rfl); (· rfl))
    | ((with_reducible apply A_ptr); (· rfl); (· rfl))
    | ((with_reducible apply A_fn); (· rfl); (· rfl))
    | ((with_reducible apply A_sl); (· rfl); (· rfl))
    | ((with_reducible apply A_load); (· rfl); (· rfl); (· rfl); (· first | exact get_own rfl | assumption | exact get_old (by assumption)); (· first | rfl | assumption); (· first | rfl | exact map_get (by assumption) | assumption); (· rfl))
    | ((with_reducible apply A_loadI); (· rfl); (· rfl); (· rfl); (· first | rfl | exact map_get (by assumption) | assumption); (· rfl))
    | ((with_reducible apply A_at); (· rfl); (· rfl); (· rfl); (· rfl); (· rfl); (· rfl); (· first | rfl | exact map_get (by assumption) | assumption); (· rfl))
    | ((with_reducible apply A_atS); (· rfl); (· rfl); (· rfl); (· rfl); (· rfl); (· rfl); (· first | exact get_own rfl | assumption | exact get_old (by assumption)); (· first | rfl | assumption); (· first | rfl | exact map_get (by assumption) | assumption); (· rfl))
    | ((with_reducible apply WX_store); (· rfl); (· rfl); (· rfl); (· first | exact get_own rfl | assumption | exact get_old (by assumption)); (· first | rfl | assumption); (· first | rfl | exact map_get (by assumption) | assumption); (· rfl); (· rfl); (· exact Nat.le_of_ble_eq_true rfl); (· rfl); (· first | exact set_own | exact set_old (by assumption)))
    | ((with_reducible apply WX_make); (· rfl); (· rfl); (· rfl); (· rfl); (· rfl); (· rfl); (· rfl); (· rfl); (· first | decide | assumption); (· rfl); (· first | (simp only [List.length_cons, List.length_nil, Nat.reduceAdd]; rfl) | rfl); (· first | (simp only [List.nil_append, List.cons_append]; rfl) | rfl))
    | ((with_reducible apply A_shl); (· rfl); (· rfl); (· rfl); (· first | decide | assumption | omega))
    | ((with_reducible apply A_shr); (· rfl); (· rfl); (· rfl); (· first | decide | assumption | omega))
    | ((with_reducible apply A_quo); (· rfl); (· rfl); (· rfl); (· rfl); (· first | decide | assumption | omega))
    | ((with_reducible apply A_rem); (· rfl); (· rfl); (· rfl); (· rfl); (· first | decide | assumption | omega))
    | ((with_reducible apply A_str); (· rfl); (· rfl))
    | ((with_reducible apply A_tup); (· rfl); (· rfl))
    | ((with_reducible apply A_nils); (· rfl); (· rfl))
    | ((with_reducible apply A_map); (· rfl); (· rfl))
    | ((with_reducible apply A_nilptr); (· rfl); (· rfl))
    | ((with_reducible apply A_nilfn); (· rfl); (· rfl))
    | ((with_reducible apply A_nilmap); (· rfl); (· rfl))
    | ((with_reducible apply A_gp); (· rfl); (· rfl))
    | ((with_reducible apply D_no); (· rfl))
    | ((with_reducible apply D_int); (· rfl); (· rfl); (· rfl))
    | ((with_reducible apply D_true); (· rfl); (· rfl); (· rfl))
    | ((with_reducible apply D_false); (· rfl); (· rfl); (· rfl))
    | ((with_reducible apply D_splitP); (· rfl); (· rfl); (· with_reducible rfl))
    | ((with_reducible apply D_split); (· rfl); (· rfl))
    | ((with_reducible apply D_bool); (· rfl); (· rfl); (· rfl))
    | ((with_reducible apply D_lst); (· rfl); (· rfl); (· rfl))
    | ((with_reducible apply D_iptr); (· rfl); (· rfl); (· rfl))
    | ((with_reducible apply D_agg); (· rfl); (· rfl); (· rfl))
    | ((with_reducible apply D_ptr); (· rfl); (· rfl); (· rfl))
    | ((with_reducible apply D_fn); (· rfl); (· rfl); (· rfl))
    | ((with_reducible apply D_sl); (· rfl); (· rfl); (· rfl))
    | ((with_reducible apply D_load); (· rfl); (· rfl); (· rfl); (· first | exact get_own rfl | assumption | exact get_old (by assumption)); (· first | rfl | assumption); (· first | rfl | exact map_get (by assumption) | assumption); (· rfl))
    | ((with_reducible apply D_loadI); (· rfl); (· rfl); (· rfl); (· first | rfl | exact map_get (by assumption) | assumption); (· rfl))
    | ((with_reducible apply D_at); (· rfl); (· rfl); (· rfl); (· rfl); (· rfl); (· rfl); (· first | rfl | exact map_get (by assumption) | assumption); (· rfl))
    | ((with_reducible apply D_atS); (· rfl); (· rfl); (· rfl); (· rfl); (· rfl); (· rfl); (· first | exact get_own rfl | assumption | exact get_old (by assumption)); (· first | rfl | assumption); (· first | rfl | exact map_get (by assumption) | assumption); (· rfl))
    | ((with_reducible apply D_shl); (· rfl); (· rfl); (· rfl); (· first | decide | assumption | omega))
    | ((with_reducible apply D_shr); (· rfl); (· rfl); (· rfl); (· first | decide | assumption | omega))
    | ((with_reducible apply D_quo); (· rfl); (· rfl); (· rfl); (· rfl); (· first | decide | assumption | omega))
    | ((with_reducible apply D_rem); (· rfl); (· rfl); (· rfl); (· rfl); (· first | decide | assumption | omega))
    | ((with_reducible apply D_str); (· rfl); (· rfl); (· rfl))
    | ((with_reducible apply D_tup); (· rfl); (· rfl); (· rfl))
    | ((with_reducible apply D_nils); (· rfl); (· rfl); (· rfl))
    | ((with_reducible apply D_map); (· rfl); (· rfl); (· rfl))
    | ((with_reducible apply D_nilptr); (· rfl); (· rfl); (· rfl))
    | ((with_reducible apply D_nilfn); (· rfl); (· rfl); (· rfl))
    | ((with_reducible apply D_nilmap); (· rfl); (· rfl); (· rfl))
    | ((with_reducible apply D_gp); (· rfl); (· rfl); (· rfl))
    | (with_reducible intro hc)
    | ((with_reducible apply W_condT); (· rfl))
    | ((with_reducible apply W_condF); (· rfl))
    | ((with_reducible apply W_cond2); (· rfl); (· with_reducible rfl))
    | ((with_reducible apply W_cond1); (· rfl)))
  all_goals (refine ret_bool ret_not rfl rfl ?_; simp_all)
def hasI (a i : Int) : Bool := decide (0 ≤ i ∧ i ≤ 2) && (IntKind.i64.wrap (BitVec.ofInt 64 (a.fdiv (2 ^ (min i.toNat 64))) &&& BitVec.ofInt 64 1).toNat == 1)
theorem c26 (a i : Int) (S : St) : Ev Y 26 [I a, I i] S (.bool (hasI a i)) S := by
  refine Ev_start (fn := Try.f26) rfl rfl (Nat.le_of_ble_eq_true rfl) ?_
  repeat' (first
    | with_reducible apply Then_norm
    | with_reducible apply Then_ret
    | with_reducible apply Then_exit
    | with_reducible apply InB_norm
    | with_reducible apply InB_ret
    | with_reducible apply InB_exit
    | with_reducible apply W_seq
    | with_reducible apply W_reg
    | with_reducible apply W_ret
    | with_reducible apply W_skip
    | with_reducible apply W_exit
    | with_reducible apply W_block
    | with_reducible apply WX_nil
    | ((with_reducible apply InB_other); rfl)
    | ((with_reducible apply W_regL); (· first | (simp only [List.length_cons, List.length_nil, Nat.reduceAdd]; rfl) | rfl))
    | ((with_reducible apply WX_call); (· rfl); (· rfl); (· rfl); (· rfl); (· first | exact c16 _ _))
    | ((with_reducible apply D_call); (· rfl); (· rfl); (· rfl); (· rfl); (· first | exact c16 _ _))
    | ((with_reducible apply A_no); (· rfl))
    | ((with_reducible apply WX_alloc); (· rfl); (· rfl); (· first | (simp only [List.length_cons, List.length_nil, Nat.reduceAdd]; rfl) | rfl); (· first | (simp only [List.nil_append, List.cons_append]; rfl) | rfl))
    | ((with_reducible apply WX_box); (· rfl); (· rfl); (· first | (simp only [List.length_cons, List.length_nil, Nat.reduceAdd]; rfl) | rfl); (· first | (simp only [List.nil_append, List.cons_append]; rfl) | rfl))
    | ((with_reducible apply A_int); (· rfl); (· rfl))
    | ((with_reducible apply A_true); (· rfl); (· rfl))
    | ((with_reducible apply A_false); (· rfl); (· rfl))
    | ((with_reducible apply A_splitP); (· rfl); (· rfl); (· with_reducible rfl))
    | ((with_reducible apply A_split); (· rfl); (· rfl))
    | ((with_reducible apply A_bool); (· rfl); (· rfl))
    | ((with_reducible apply A_lst); (· rfl); (· rfl))
    | ((with_reducible apply A_iptr); (· rfl); (· rfl))
    | ((with_reducible apply A_agg); (· rfl); (· rfl))
    | ((with_reducible apply A_ptr); (· rfl); (· rfl))
    | ((with_reducible apply A_fn); (· rfl); (· rfl))
    | ((with_reducible apply A_sl); (· rfl); (· rfl))
    | ((with_reducible apply A_load); (· rfl); (· rfl); (· rfl); (· first | exact get_own rfl | assumption | exact get_old (by assumption)); (· first | rfl | assumption); (· first | rfl | exact map_get (by assumption) | assumption); (· rfl))
    | ((with_reducible apply A_loadI); (· rfl); (· rfl); (· rfl); (· first | rfl | exact map_get (by assumption) | assumption); (· rfl))
    | ((with_reducible apply A_at); (· rfl); (· rfl); (· rfl); (· rfl); (· rfl); (· rfl); (· first | rfl | exact map_get (by assumption) | assumption); (· rfl))
    | ((with_reducible apply A_atS); (· rfl); (· rfl); (· rfl); (· rfl); (· rfl); (· rfl); (· first | exact get_own rfl | assumption | exact get_old (by assumption)); (· first | rfl | assumption); (· first | rfl | exact map_get (by assumption) | assumption); (· rfl))
    | ((with_reducible apply WX_store); (· rfl); (· rfl); (· rfl); (· first | exact get_own rfl | assumption | exact get_old (by assumption)); (· first | rfl | assumption); (· first | rfl | exact map_get (by assumption) | assumption); (· rfl); (· rfl); (· exact Nat.le_of_ble_eq_true rfl); (· rfl); (· first | exact set_own | exact set_old (by assumption)))
    | ((with_reducible apply WX_make); (· rfl); (· rfl); (· rfl); (· rfl); (· rfl); (· rfl); (· rfl); (· rfl); (· first | decide | assumption); (· rfl); (· first | (simp only [List.length_cons, List.length_nil, Nat.reduceAdd]; rfl) | rfl); (· first | (simp only [List.nil_append, List.cons_append]; rfl) | rfl))
    | ((with_reducible apply A_shl); (· rfl); (· rfl); (· rfl); (· first | decide | assumption | omega))
    | ((with_reducible apply A_shr); (· rfl); (· rfl); (· rfl); (· first | decide | assumption | omega))
    | ((with_reducible apply A_quo); (· rfl); (· rfl); (· rfl); (· rfl); (· first | decide | assumption | omega))
    | ((with_reducible apply A_rem); (· rfl); (· rfl); (· rfl); (· rfl); (· first | decide | assumption | omega))
    | ((with_reducible apply A_str); (· rfl); (· rfl))
    | ((with_reducible apply A_tup); (· rfl); (· rfl))
    | ((with_reducible apply A_nils); (· rfl); (· rfl))
    | ((with_reducible apply A_map); (· rfl); (· rfl))
    | ((with_reducible apply A_nilptr); (· rfl); (· rfl))
    | ((with_reducible apply A_nilfn); (· rfl); (· rfl))
    | ((with_reducible apply A_nilmap); (· rfl); (· rfl))
    | ((with_reducible apply A_gp); (· rfl); (· rfl))
    | ((with_reducible apply D_no); (· rfl))
    | ((with_reducible apply D_int); (· rfl); (· rfl); (· rfl))
    | ((with_reducible apply D_true); (· rfl); (· rfl); (· rfl))
    | ((with_reducible apply D_false); (· rfl); (· rfl); (· rfl))
    | ((with_reducible apply D_splitP); (· rfl); (· rfl); (· with_reducible rfl))
    | ((with_reducible apply D_split); (· rfl); (· rfl))
    | ((with_reducible apply D_bool); (· rfl); (· rfl); (· rfl))
    | ((with_reducible apply D_lst); (· rfl); (· rfl); (· rfl))
    | ((with_reducible apply D_iptr); (· rfl); (· rfl); (· rfl))
    | ((with_reducible apply D_agg); (· rfl); (· rfl); (· rfl))
    | ((with_reducible apply D_ptr); (· rfl); (· rfl); (· rfl))
    | ((with_reducible apply D_fn); (· rfl); (· rfl); (· rfl))
    | ((with_reducible apply D_sl); (· rfl); (· rfl); (· rfl))
    | ((with_reducible apply D_load); (· rfl); (· rfl); (· rfl); (· first | exact get_own rfl | assumption | exact get_old (by assumption)); (· first | rfl | assumption); (· first | rfl | exact map_get (by assumption) | assumption); (· rfl))
    | ((with_reducible apply D_loadI); (· rfl); (· rfl); (· rfl); (· first | rfl | exact map_get (by assumption) | assumption); (· rfl))
    | ((with_reducible apply D_at); (· rfl); (· rfl); (· rfl); (· rfl); (· rfl); (· rfl); (· first | rfl | exact map_get (by assumption) | assumption); (· rfl))
    | ((with_reducible apply D_atS); (· rfl); (· rfl); (· rfl); (· rfl); (· rfl); (· rfl); (· first | exact get_own rfl | assumption | exact get_old (by assumption)); (· first | rfl | assumption); (· first | rfl | exact map_get (by assumption) | assumption); (· rfl))
    | ((with_reducible apply D_shl); (· rfl); (· rfl); (· rfl); (· first | decide | assumption | omega))
    | ((with_reducible apply D_shr); (· rfl); (· rfl); (· rfl); (· first | decide | assumption | omega))
    | ((with_reducible apply D_quo); (· rfl); (· rfl); (· rfl); (· rfl); (· first | decide | assumption | omega))
    | ((with_reducible apply D_rem); (· rfl); (· rfl); (· rfl); (· rfl); (· first | decide | assumption | omega))
    | ((with_reducible apply D_str); (· rfl); (· rfl); (· rfl))
    | ((with_reducible apply D_tup); (· rfl); (· rfl); (· rfl))
    | ((with_reducible apply D_nils); (· rfl); (· rfl); (· rfl))
    | ((with_reducible apply D_map); (· rfl); (· rfl); (· rfl))
    | ((with_reducible apply D_nilptr); (· rfl); (· rfl); (· rfl))
    | ((with_reducible apply D_nilfn); (· rfl); (· rfl); (· rfl))
    | ((with_reducible apply D_nilmap); (· rfl); (· rfl); (· rfl))
    | ((with_reducible apply D_gp); (· rfl); (· rfl); (· rfl))
    | (with_reducible intro hc)
    | ((with_reducible apply W_condT); (· rfl))
    | ((with_reducible apply W_condF); (· rfl))
    | ((with_reducible apply W_cond2); (· rfl); (· with_reducible rfl))
    | ((with_reducible apply W_cond1); (· rfl)))
  · refine ret_bool ret_not rfl rfl ?_
    simp only [hasI, hc, and_self, decide_true, Bool.true_and]; rfl
  · refine ret_bool ret_not rfl rfl ?_
    simp only [hasI, hc, decide_false, Bool.false_and]
end Go.Proofs.XT
