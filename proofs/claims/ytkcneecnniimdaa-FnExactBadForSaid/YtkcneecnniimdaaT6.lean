/- The contracts of functions that the statement reaches, part 6. Conditions: none. -/
import Derived.Test.YtkcneecnniimdaaT5
namespace Go.Proofs.XT
open Go Go.Proofs.XVai Go.Proofs
set_option linter.unusedVariables false
set_option linter.unusedSimpArgs false

def setG (a : Int) : Bool := decide (0 ≤ a ∧ a ≤ 7)
theorem wr1 : IntKind.i64.wrap 1 = 1 := by decide
theorem wr2 : IntKind.i64.wrap 2 = 2 := by decide
theorem wr3 : IntKind.i64.wrap 3 = 3 := by decide
theorem c18 (a b c : Int) (S : St) : Ev Y 18 [L [a, b, c]] S (.bool (setG a && hasG a 0 && setG b && hasG b 1 && setG c && hasG c 2)) S := by
  refine Ev_start (fn := Try.f18) rfl rfl (Nat.le_of_ble_eq_true rfl) ?_
  repeat' (first
    | with_reducible apply Then_norm
    | with_reducible apply Then_ret
    | with_reducible apply Then_exit
    | with_reducible apply InB_norm
    | with_reducible apply InB_ret
    | with_reducible apply InB_exit
    | with_reducible apply W_seq
    | with_reducible apply W_reg
    | with_reducible apply W_ret
    | with_reducible apply W_skip
    | with_reducible apply W_exit
    | with_reducible apply W_block
    | with_reducible apply WX_nil
    | ((with_reducible apply InB_other); rfl)
    | with_reducible apply W_unroll
    | ((with_reducible apply W_regL); (· first | (simp only [List.length_cons, List.length_nil, Nat.reduceAdd]; rfl) | rfl))
    | ((with_reducible apply WX_call); (· rfl); (· rfl); (· rfl); (· rfl); (· first | exact c20 _ _ | exact c28 _ _ _))
    | ((with_reducible apply D_call); (· rfl); (· rfl); (· rfl); (· rfl); (· first | exact c20 _ _ | exact c28 _ _ _))
    | ((with_reducible apply A_no); (· rfl))
    | ((with_reducible apply WX_alloc); (· rfl); (· rfl); (· first | (simp only [List.length_cons, List.length_nil, Nat.reduceAdd]; rfl) | rfl); (· first | (simp only [List.nil_append, List.cons_append]; rfl) | rfl))
    | ((with_reducible apply WX_box); (· rfl); (· rfl); (· first | (simp only [List.length_cons, List.length_nil, Nat.reduceAdd]; rfl) | rfl); (· first | (simp only [List.nil_append, List.cons_append]; rfl) | rfl))
    | ((with_reducible apply A_int); (· rfl); (· rfl))
    | ((with_reducible apply A_true); (· rfl); (· rfl))
    | ((with_reducible apply A_false); (· rfl); (· rfl))
    | ((with_reducible apply A_splitP); (· rfl); (· rfl); (· with_reducible rfl))
    | ((with_reducible apply A_split); (· rfl); (· rfl))
    | ((with_reducible apply A_bool); (· rfl); (· rfl))
    | ((with_reducible apply A_lst); (· rfl); (· rfl))
    | ((with_reducible apply A_iptr); (· rfl); (· rfl))
    | ((with_reducible apply A_agg); (· rfl); (· rfl))
    | ((with_reducible apply A_ptr); (· rfl); (· rfl))
    | ((with_reducible apply A_fn); (· rfl); (· rfl))
    | ((with_reducible apply A_sl); (· rfl); (· rfl))
    | ((with_reducible apply A_load); (· rfl); (· rfl); (· rfl); (· first | exact get_own rfl | assumption | exact get_old (by assumption)); (· first | rfl | assumption); (· first | rfl | exact map_get (by assumption) | assumption); (· rfl))
    | ((with_reducible apply A_loadI); (· rfl); (· rfl); (· rfl); (· first | rfl | exact map_get (by assumption) | assumption); (· rfl))
    | ((with_reducible apply A_at); (· rfl); (· rfl); (· rfl); (· rfl); (· rfl); (· rfl); (· first | rfl | exact map_get (by assumption) | assumption); (· rfl))
    | ((with_reducible apply A_atS); (· rfl); (· rfl); (· rfl); (· rfl); (· rfl); (· rfl); (· first | exact get_own rfl | assumption | exact get_old (by assumption)); (· first | rfl | assumption); (· first | rfl | exact map_get (by assumption) | assumption); (· rfl))
    | ((with_reducible apply WX_store); (· rfl); (· rfl); (· rfl); (· first | exact get_own rfl | assumption | exact get_old (by assumption)); (· first | rfl | assumption); (· first | rfl | exact map_get (by assumption) | assumption); (· rfl); (· rfl); (· exact Nat.le_of_ble_eq_true rfl); (· rfl); (· first | exact set_own | exact set_old (by assumption)))
    | ((with_reducible apply WX_make); (· rfl); (· rfl); (· rfl); (· rfl); (· rfl); (· rfl); (· rfl); (· rfl); (· first | decide | assumption); (· rfl); (· first | (simp only [List.length_cons, List.length_nil, Nat.reduceAdd]; rfl) | rfl); (· first | (simp only [List.nil_append, List.cons_append]; rfl) | rfl))
    | ((with_reducible apply A_shl); (· rfl); (· rfl); (· rfl); (· first | decide | assumption | omega))
    | ((with_reducible apply A_shr); (· rfl); (· rfl); (· rfl); (· first | decide | assumption | omega))
    | ((with_reducible apply A_quo); (· rfl); (· rfl); (· rfl); (· rfl); (· first | decide | assumption | omega))
    | ((with_reducible apply A_rem); (· rfl); (· rfl); (· rfl); (· rfl); (· first | decide | assumption | omega))
    | ((with_reducible apply A_str); (· rfl); (· rfl))
    | ((with_reducible apply A_tup); (· rfl); (· rfl))
    | ((with_reducible apply A_nils); (· rfl); (· rfl))
    | ((with_reducible apply A_map); (· rfl); (· rfl))
    | ((with_reducible apply A_nilptr); (· rfl); (· rfl))
    | ((with_reducible apply A_nilfn); (· rfl); (· rfl))
    | ((with_reducible apply A_nilmap); (· rfl); (· rfl))
    | ((with_reducible apply A_gp); (· rfl); (· rfl))
    | ((with_reducible apply D_no); (· rfl))
    | ((with_reducible apply D_int); (· rfl); (· rfl); (· rfl))
    | ((with_reducible apply D_true); (· rfl); (· rfl); (· rfl))
    | ((with_reducible apply D_false); (· rfl); (· rfl); (· rfl))
    | ((with_reducible apply D_splitP); (· rfl); (· rfl); (· with_reducible rfl))
    | ((with_reducible apply D_split); (· rfl); (· rfl))
    | ((with_reducible apply D_bool); (· rfl); (· rfl); (· rfl))
    | ((with_reducible apply D_lst); (· rfl); (· rfl); (· rfl))
    | ((with_reducible apply D_iptr); (· rfl); (· rfl); (· rfl))
    | ((with_reducible apply D_agg); (· rfl); (· rfl); (· rfl))
    | ((with_reducible apply D_ptr); (· rfl); (· rfl); (· rfl))
    | ((with_reducible apply D_fn); (· rfl); (· rfl); (· rfl))
    | ((with_reducible apply D_sl); (· rfl); (· rfl); (· rfl))
    | ((with_reducible apply D_load); (· rfl); (· rfl); (· rfl); (· first | exact get_own rfl | assumption | exact get_old (by assumption)); (· first | rfl | assumption); (· first | rfl | exact map_get (by assumption) | assumption); (· rfl))
    | ((with_reducible apply D_loadI); (· rfl); (· rfl); (· rfl); (· first | rfl | exact map_get (by assumption) | assumption); (· rfl))
    | ((with_reducible apply D_at); (· rfl); (· rfl); (· rfl); (· rfl); (· rfl); (· rfl); (· first | rfl | exact map_get (by assumption) | assumption); (· rfl))
    | ((with_reducible apply D_atS); (· rfl); (· rfl); (· rfl); (· rfl); (· rfl); (· rfl); (· first | exact get_own rfl | assumption | exact get_old (by assumption)); (· first | rfl | assumption); (· first | rfl | exact map_get (by assumption) | assumption); (· rfl))
    | ((with_reducible apply D_shl); (· rfl); (· rfl); (· rfl); (· first | decide | assumption | omega))
    | ((with_reducible apply D_shr); (· rfl); (· rfl); (· rfl); (· first | decide | assumption | omega))
    | ((with_reducible apply D_quo); (· rfl); (· rfl); (· rfl); (· rfl); (· first | decide | assumption | omega))
    | ((with_reducible apply D_rem); (· rfl); (· rfl); (· rfl); (· rfl); (· first | decide | assumption | omega))
    | ((with_reducible apply D_str); (· rfl); (· rfl); (· rfl))
    | ((with_reducible apply D_tup); (· rfl); (· rfl); (· rfl))
    | ((with_reducible apply D_nils); (· rfl); (· rfl); (· rfl))
    | ((with_reducible apply D_map); (· rfl); (· rfl); (· rfl))
    | ((with_reducible apply D_nilptr); (· rfl); (· rfl); (· rfl))
    | ((with_reducible apply D_nilfn); (· rfl); (· rfl); (· rfl))
    | ((with_reducible apply D_nilmap); (· rfl); (· rfl); (· rfl))
    | ((with_reducible apply D_gp); (· rfl); (· rfl); (· rfl))
    | (with_reducible intro hc)
    | ((with_reducible apply W_condT); (· rfl))
    | ((with_reducible apply W_condF); (· rfl))
    | ((with_reducible apply W_cond2); (· rfl); (· with_reducible rfl))
    | ((with_reducible apply W_cond1); (· rfl)))
  all_goals (refine ret_bool ret_not rfl rfl ?_; simp [wr1, wr2, wr3] at *; simp_all [setG, wr1, wr2] <;> omega)
def bothG (a b : Int) : Int := (if hasG a 0 && hasG b 0 then 1 else 0) + (if hasG a 1 && hasG b 1 then 2 else 0) + (if hasG a 2 && hasG b 2 then 4 else 0)
theorem c21 (a b : Int) (S : St) : Ev Y 21 [I a, I b] S (I (bothG a b)) S := by
  refine Ev_start (fn := Try.f21) rfl rfl (Nat.le_of_ble_eq_true rfl) ?_
  repeat' (first
    | with_reducible apply Then_norm
    | with_reducible apply Then_ret
    | with_reducible apply Then_exit
    | with_reducible apply InB_norm
    | with_reducible apply InB_ret
    | with_reducible apply InB_exit
    | with_reducible apply W_seq
    | with_reducible apply W_reg
    | with_reducible apply W_ret
    | with_reducible apply W_skip
    | with_reducible apply W_exit
    | with_reducible apply W_block
    | with_reducible apply WX_nil
    | ((with_reducible apply InB_other); rfl)
    | with_reducible apply W_unroll
    | ((with_reducible apply W_regL); (· first | (simp only [List.length_cons, List.length_nil, Nat.reduceAdd]; rfl) | rfl))
    | ((with_reducible apply WX_call); (· rfl); (· rfl); (· rfl); (· rfl); (· first | exact c28 _ _ _))
    | ((with_reducible apply D_call); (· rfl); (· rfl); (· rfl); (· rfl); (· first | exact c28 _ _ _))
    | ((with_reducible apply A_no); (· rfl))
    | ((with_reducible apply WX_alloc); (· rfl); (· rfl); (· first | (simp only [List.length_cons, List.length_nil, Nat.reduceAdd]; rfl) | rfl); (· first | (simp only [List.nil_append, List.cons_append]; rfl) | rfl))
    | ((with_reducible apply WX_box); (· rfl); (· rfl); (· first | (simp only [List.length_cons, List.length_nil, Nat.reduceAdd]; rfl) | rfl); (· first | (simp only [List.nil_append, List.cons_append]; rfl) | rfl))
    | ((with_reducible apply A_int); (· rfl); (· rfl))
    | ((with_reducible apply A_true); (· rfl); (· rfl))
    | ((with_reducible apply A_false); (· rfl); (· rfl))
    | ((with_reducible apply A_splitP); (· rfl); (· rfl); (· with_reducible rfl))
    | ((with_reducible apply A_split); (· rfl); (· rfl))
    | ((with_reducible apply A_bool); (· rfl); (· rfl))
    | ((with_reducible apply A_lst); (· rfl); (· rfl))
    | ((with_reducible apply A_iptr); (· rfl); (· rfl))
    | ((with_reducible apply A_agg); (· rfl); (· rfl))
    | ((with_reducible apply A_ptr); (· rfl); (· rfl))
    | ((with_reducible apply A_fn); (· rfl); (· rfl))
    | ((with_reducible apply A_sl); (· rfl); (· rfl))
    | ((with_reducible apply A_load); (· rfl); (· rfl); (· rfl); (· first | exact get_own rfl | assumption | exact get_old (by assumption)); (· first | rfl | assumption); (· first | rfl | exact map_get (by assumption) | assumption); (· rfl))
    | ((with_reducible apply A_loadI); (· rfl); (· rfl); (· rfl); (· first | rfl | exact map_get (by assumption) | assumption); (· rfl))
    | ((with_reducible apply A_at); (· rfl); (· rfl); (· rfl); (· rfl); (· rfl); (· rfl); (· first | rfl | exact map_get (by assumption) | assumption); (· rfl))
    | ((with_reducible apply A_atS); (· rfl); (· rfl); (· rfl); (· rfl); (· rfl); (· rfl); (· first | exact get_own rfl | assumption | exact get_old (by assumption)); (· first | rfl | assumption); (· first | rfl | exact map_get (by assumption) | assumption); (· rfl))
    | ((with_reducible apply WX_store); (· rfl); (· rfl); (· rfl); (· first | exact get_own rfl | assumption | exact get_old (by assumption)); (· first | rfl | assumption); (· first | rfl | exact map_get (by assumption) | assumption); (· rfl); (· rfl); (· exact Nat.le_of_ble_eq_true rfl); (· rfl); (· first | exact set_own | exact set_old (by assumption)))
    | ((with_reducible apply WX_make); (· rfl); (· rfl); (· rfl); (· rfl); (· rfl); (· rfl); (· rfl); (· rfl); (· first | decide | assumption); (· rfl); (· first | (simp only [List.length_cons, List.length_nil, Nat.reduceAdd]; rfl) | rfl); (· first | (simp only [List.nil_append, List.cons_append]; rfl) | rfl))
    | ((with_reducible apply A_shl); (· rfl); (· rfl); (· rfl); (· first | decide | assumption | omega))
    | ((with_reducible apply A_shr); (· rfl); (· rfl); (· rfl); (· first | decide | assumption | omega))
    | ((with_reducible apply A_quo); (· rfl); (· rfl); (· rfl); (· rfl); (· first | decide | assumption | omega))
    | ((with_reducible apply A_rem); (· rfl); (· rfl); (· rfl); (· rfl); (· first | decide | assumption | omega))
    | ((with_reducible apply A_str); (· rfl); (· rfl))
    | ((with_reducible apply A_tup); (· rfl); (· rfl))
    | ((with_reducible apply A_nils); (· rfl); (· rfl))
    | ((with_reducible apply A_map); (· rfl); (· rfl))
    | ((with_reducible apply A_nilptr); (· rfl); (· rfl))
    | ((with_reducible apply A_nilfn); (· rfl); (· rfl))
    | ((with_reducible apply A_nilmap); (· rfl); (· rfl))
    | ((with_reducible apply A_gp); (· rfl); (· rfl))
    | ((with_reducible apply D_no); (· rfl))
    | ((with_reducible apply D_int); (· rfl); (· rfl); (· rfl))
    | ((with_reducible apply D_true); (· rfl); (· rfl); (· rfl))
    | ((with_reducible apply D_false); (· rfl); (· rfl); (· rfl))
    | ((with_reducible apply D_splitP); (· rfl); (· rfl); (· with_reducible rfl))
    | ((with_reducible apply D_split); (· rfl); (· rfl))
    | ((with_reducible apply D_bool); (· rfl); (· rfl); (· rfl))
    | ((with_reducible apply D_lst); (· rfl); (· rfl); (· rfl))
    | ((with_reducible apply D_iptr); (· rfl); (· rfl); (· rfl))
    | ((with_reducible apply D_agg); (· rfl); (· rfl); (· rfl))
    | ((with_reducible apply D_ptr); (· rfl); (· rfl); (· rfl))
    | ((with_reducible apply D_fn); (· rfl); (· rfl); (· rfl))
    | ((with_reducible apply D_sl); (· rfl); (· rfl); (· rfl))
    | ((with_reducible apply D_load); (· rfl); (· rfl); (· rfl); (· first | exact get_own rfl | assumption | exact get_old (by assumption)); (· first | rfl | assumption); (· first | rfl | exact map_get (by assumption) | assumption); (· rfl))
    | ((with_reducible apply D_loadI); (· rfl); (· rfl); (· rfl); (· first | rfl | exact map_get (by assumption) | assumption); (· rfl))
    | ((with_reducible apply D_at); (· rfl); (· rfl); (· rfl); (· rfl); (· rfl); (· rfl); (· first | rfl | exact map_get (by assumption) | assumption); (· rfl))
    | ((with_reducible apply D_atS); (· rfl); (· rfl); (· rfl); (· rfl); (· rfl); (· rfl); (· first | exact get_own rfl | assumption | exact get_old (by assumption)); (· first | rfl | assumption); (· first | rfl | exact map_get (by assumption) | assumption); (· rfl))
    | ((with_reducible apply D_shl); (· rfl); (· rfl); (· rfl); (· first | decide | assumption | omega))
    | ((with_reducible apply D_shr); (· rfl); (· rfl); (· rfl); (· first | decide | assumption | omega))
    | ((with_reducible apply D_quo); (· rfl); (· rfl); (· rfl); (· rfl); (· first | decide | assumption | omega))
    | ((with_reducible apply D_rem); (· rfl); (· rfl); (· rfl); (· rfl); (· first | decide | assumption | omega))
    | ((with_reducible apply D_str); (· rfl); (· rfl); (· rfl))
    | ((with_reducible apply D_tup); (· rfl); (· rfl); (· rfl))
    | ((with_reducible apply D_nils); (· rfl); (· rfl); (· rfl))
    | ((with_reducible apply D_map); (· rfl); (· rfl); (· rfl))
    | ((with_reducible apply D_nilptr); (· rfl); (· rfl); (· rfl))
    | ((with_reducible apply D_nilfn); (· rfl); (· rfl); (· rfl))
    | ((with_reducible apply D_nilmap); (· rfl); (· rfl); (· rfl))
    | ((with_reducible apply D_gp); (· rfl); (· rfl); (· rfl))
    | (with_reducible intro hc)
    | ((with_reducible apply W_condT); (· rfl))
    | ((with_reducible apply W_condF); (· rfl))
    | ((with_reducible apply W_cond2); (· rfl); (· with_reducible rfl))
    | ((with_reducible apply W_cond1); (· rfl)))
  all_goals (refine ret_int ret_not rfl rfl ?_; simp [wr1, wr2, wr3] at *; simp_all [bothG, wr1, wr2, wr3]; try decide)
end Go.Proofs.XT
