/- The contracts of functions that the statement reaches, part 7. Conditions: none. -/
import Derived.Test.YtkcneecnniimdaaT6
namespace Go.Proofs.XT
open Go Go.Proofs.XVai Go.Proofs
set_option linter.unusedVariables false
set_option linter.unusedSimpArgs false

theorem c18n (xs : List Int) (S : St) (h : xs.length ≠ 3) (hl : xs.length ≤ maxLen) : Ev Y 18 [L xs] S (.bool false) S := by
  refine Ev_start (fn := Try.f18) rfl rfl (Nat.le_of_ble_eq_true rfl) ?_
  repeat' (first
    | with_reducible apply Then_norm
    | with_reducible apply Then_ret
    | with_reducible apply Then_exit
    | with_reducible apply InB_norm
    | with_reducible apply InB_ret
    | with_reducible apply InB_exit
    | with_reducible apply W_seq
    | with_reducible apply W_reg
    | with_reducible apply W_ret
    | with_reducible apply W_skip
    | with_reducible apply W_exit
    | with_reducible apply W_block
    | with_reducible apply WX_nil
    | ((with_reducible apply InB_other); rfl)
    | ((with_reducible apply W_regL); (· first | (simp only [List.length_cons, List.length_nil, Nat.reduceAdd]; rfl) | rfl))
    | ((with_reducible apply A_no); (· rfl))
    | ((with_reducible apply WX_alloc); (· rfl); (· rfl); (· first | (simp only [List.length_cons, List.length_nil, Nat.reduceAdd]; rfl) | rfl); (· first | (simp only [List.nil_append, List.cons_append]; rfl) | rfl))
    | ((with_reducible apply WX_box); (· rfl); (· rfl); (· first | (simp only [List.length_cons, List.length_nil, Nat.reduceAdd]; rfl) | rfl); (· first | (simp only [List.nil_append, List.cons_append]; rfl) | rfl))
    | ((with_reducible apply A_int); (· rfl); (· rfl))
    | ((with_reducible apply A_true); (· rfl); (· rfl))
    | ((with_reducible apply A_false); (· rfl); (· rfl))
    | ((with_reducible apply A_splitP); (· rfl); (· rfl); (· with_reducible rfl))
    | ((with_reducible apply A_split); (· rfl); (· rfl))
    | ((with_reducible apply A_bool); (· rfl); (· rfl))
    | ((with_reducible apply A_lst); (· rfl); (· rfl))
    | ((with_reducible apply A_iptr); (· rfl); (· rfl))
    | ((with_reducible apply A_agg); (· rfl); (· rfl))
    | ((with_reducible apply A_ptr); (· rfl); (· rfl))
    | ((with_reducible apply A_fn); (· rfl); (· rfl))
    | ((with_reducible apply A_sl); (· rfl); (· rfl))
    | ((with_reducible apply A_load); (· rfl); (· rfl); (· rfl); (· first | exact get_own rfl | assumption | exact get_old (by assumption)); (· first | rfl | assumption); (· first | rfl | exact map_get (by assumption) | assumption); (· rfl))
    | ((with_reducible apply A_loadI); (· rfl); (· rfl); (· rfl); (· first | rfl | exact map_get (by assumption) | assumption); (· rfl))
    | ((with_reducible apply A_at); (· rfl); (· rfl); (· rfl); (· rfl); (· rfl); (· rfl); (· first | rfl | exact map_get (by assumption) | assumption); (· rfl))
    | ((with_reducible apply A_atS); (· rfl); (· rfl); (· rfl); (· rfl); (· rfl); (· rfl); (· first | exact get_own rfl | assumption | exact get_old (by assumption)); (· first | rfl | assumption); (· first | rfl | exact map_get (by assumption) | assumption); (· rfl))
    | ((with_reducible apply WX_store); (· rfl); (· rfl); (· rfl); (· first | exact get_own rfl | assumption | exact get_old (by assumption)); (· first | rfl | assumption); (· first | rfl | exact map_get (by assumption) | assumption); (· rfl); (· rfl); (· exact Nat.le_of_ble_eq_true rfl); (· rfl); (· first | exact set_own | exact set_old (by assumption)))
    | ((with_reducible apply WX_make); (· rfl); (· rfl); (· rfl); (· rfl); (· rfl); (· rfl); (· rfl); (· rfl); (· first | decide | assumption); (· rfl); (· first | (simp only [List.length_cons, List.length_nil, Nat.reduceAdd]; rfl) | rfl); (· first | (simp only [List.nil_append, List.cons_append]; rfl) | rfl))
    | ((with_reducible apply A_shl); (· rfl); (· rfl); (· rfl); (· first | decide | assumption | omega))
    | ((with_reducible apply A_shr); (· rfl); (· rfl); (· rfl); (· first | decide | assumption | omega))
    | ((with_reducible apply A_quo); (· rfl); (· rfl); (· rfl); (· rfl); (· first | decide | assumption | omega))
    | ((with_reducible apply A_rem); (· rfl); (· rfl); (· rfl); (· rfl); (· first | decide | assumption | omega))
    | ((with_reducible apply A_str); (· rfl); (· rfl))
    | ((with_reducible apply A_tup); (· rfl); (· rfl))
    | ((with_reducible apply A_nils); (· rfl); (· rfl))
    | ((with_reducible apply A_map); (· rfl); (· rfl))
    | ((with_reducible apply A_nilptr); (· rfl); (· rfl))
    | ((with_reducible apply A_nilfn); (· rfl); (· rfl))
    | ((with_reducible apply A_nilmap); (· rfl); (· rfl))
    | ((with_reducible apply A_gp); (· rfl); (· rfl))
    | ((with_reducible apply D_no); (· rfl))
    | ((with_reducible apply D_int); (· rfl); (· rfl); (· rfl))
    | ((with_reducible apply D_true); (· rfl); (· rfl); (· rfl))
    | ((with_reducible apply D_false); (· rfl); (· rfl); (· rfl))
    | ((with_reducible apply D_splitP); (· rfl); (· rfl); (· with_reducible rfl))
    | ((with_reducible apply D_split); (· rfl); (· rfl))
    | ((with_reducible apply D_bool); (· rfl); (· rfl); (· rfl))
    | ((with_reducible apply D_lst); (· rfl); (· rfl); (· rfl))
    | ((with_reducible apply D_iptr); (· rfl); (· rfl); (· rfl))
    | ((with_reducible apply D_agg); (· rfl); (· rfl); (· rfl))
    | ((with_reducible apply D_ptr); (· rfl); (· rfl); (· rfl))
    | ((with_reducible apply D_fn); (· rfl); (· rfl); (· rfl))
    | ((with_reducible apply D_sl); (· rfl); (· rfl); (· rfl))
    | ((with_reducible apply D_load); (· rfl); (· rfl); (· rfl); (· first | exact get_own rfl | assumption | exact get_old (by assumption)); (· first | rfl | assumption); (· first | rfl | exact map_get (by assumption) | assumption); (· rfl))
    | ((with_reducible apply D_loadI); (· rfl); (· rfl); (· rfl); (· first | rfl | exact map_get (by assumption) | assumption); (· rfl))
    | ((with_reducible apply D_at); (· rfl); (· rfl); (· rfl); (· rfl); (· rfl); (· rfl); (· first | rfl | exact map_get (by assumption) | assumption); (· rfl))
    | ((with_reducible apply D_atS); (· rfl); (· rfl); (· rfl); (· rfl); (· rfl); (· rfl); (· first | exact get_own rfl | assumption | exact get_old (by assumption)); (· first | rfl | assumption); (· first | rfl | exact map_get (by assumption) | assumption); (· rfl))
    | ((with_reducible apply D_shl); (· rfl); (· rfl); (· rfl); (· first | decide | assumption | omega))
    | ((with_reducible apply D_shr); (· rfl); (· rfl); (· rfl); (· first | decide | assumption | omega))
    | ((with_reducible apply D_quo); (· rfl); (· rfl); (· rfl); (· rfl); (· first | decide | assumption | omega))
    | ((with_reducible apply D_rem); (· rfl); (· rfl); (· rfl); (· rfl); (· first | decide | assumption | omega))
    | ((with_reducible apply D_str); (· rfl); (· rfl); (· rfl))
    | ((with_reducible apply D_tup); (· rfl); (· rfl); (· rfl))
    | ((with_reducible apply D_nils); (· rfl); (· rfl); (· rfl))
    | ((with_reducible apply D_map); (· rfl); (· rfl); (· rfl))
    | ((with_reducible apply D_nilptr); (· rfl); (· rfl); (· rfl))
    | ((with_reducible apply D_nilfn); (· rfl); (· rfl); (· rfl))
    | ((with_reducible apply D_nilmap); (· rfl); (· rfl); (· rfl))
    | ((with_reducible apply D_gp); (· rfl); (· rfl); (· rfl))
    | (with_reducible intro hc)
    | ((with_reducible apply W_condT); (· rfl))
    | ((with_reducible apply W_condF); (· rfl))
    | ((with_reducible apply W_cond2); (· rfl); (· with_reducible rfl))
    | ((with_reducible apply W_cond1); (· rfl)))
  · refine ret_bool ret_not rfl rfl rfl
  · simp at hc; omega
def tG (a b c : Int) : Bool := setG a && hasG a 0 && setG b && hasG b 1 && setG c && hasG c 2
def badG (xs : List Int) (h bad : Int) : Bool := match xs with
  | [a, b, c] => tG a b c && decide (0 ≤ h ∧ h ≤ 2) && setG bad && (bothG (if h = 0 then a else if h = 1 then b else c) bad == 0)
  | _ => false
theorem badG_n {xs : List Int} (h : xs.length ≠ 3) (k b : Int) : badG xs k b = false := by
  unfold badG; split
  · simp at h
  · rfl
theorem c7 (xs hs ds : List Int) (h bad : Int) (S : St) (hl : xs.length ≤ maxLen) : Ev Y 7 [P3 xs hs ds, I h, I bad] S (.bool (badG xs h bad)) S := by
  by_cases h3 : xs.length = 3
  · obtain ⟨a, b, c, rfl⟩ : ∃ a b c, xs = [a, b, c] := by
      match xs, h3 with
      | [a, b, c], _ => exact ⟨a, b, c, rfl⟩
    refine Ev_start (fn := Try.f7) rfl rfl (Nat.le_of_ble_eq_true rfl) ?_
    by_cases hh : 0 ≤ h ∧ h ≤ 2
    · have h012 : h = 0 ∨ h = 1 ∨ h = 2 := by omega
      rcases h012 with rfl | rfl | rfl
      all_goals skip
      · repeat' (first
          | with_reducible apply Then_norm
          | with_reducible apply Then_ret
          | with_reducible apply Then_exit
          | with_reducible apply InB_norm
          | with_reducible apply InB_ret
          | with_reducible apply InB_exit
          | with_reducible apply W_seq
          | with_reducible apply W_reg
          | with_reducible apply W_ret
          | with_reducible apply W_skip
          | with_reducible apply W_exit
          | with_reducible apply W_block
          | with_reducible apply WX_nil
          | ((with_reducible apply InB_other); rfl)
          | ((with_reducible apply W_regL); (· first | (simp only [List.length_cons, List.length_nil, Nat.reduceAdd]; rfl) | rfl))
          | ((with_reducible apply WX_call); (· rfl); (· rfl); (· rfl); (· rfl); (· first | exact c18 _ _ _ _ | exact c19 _ _ _ _ | exact c20 _ _ | exact c21 _ _ _))
          | ((with_reducible apply D_call); (· rfl); (· rfl); (· rfl); (· rfl); (· first | exact c18 _ _ _ _ | exact c19 _ _ _ _ | exact c20 _ _ | exact c21 _ _ _))
          | ((with_reducible apply A_no); (· rfl))
          | ((with_reducible apply WX_alloc); (· rfl); (· rfl); (· first | (simp only [List.length_cons, List.length_nil, Nat.reduceAdd]; rfl) | rfl); (· first | (simp only [List.nil_append, List.cons_append]; rfl) | rfl))
          | ((with_reducible apply WX_box); (· rfl); (· rfl); (· first | (simp only [List.length_cons, List.length_nil, Nat.reduceAdd]; rfl) | rfl); (· first | (simp only [List.nil_append, List.cons_append]; rfl) | rfl))
          | ((with_reducible apply A_int); (· rfl); (· rfl))
          | ((with_reducible apply A_true); (· rfl); (· rfl))
          | ((with_reducible apply A_false); (· rfl); (· rfl))
          | ((with_reducible apply A_splitP); (· rfl); (· rfl); (· with_reducible rfl))
          | ((with_reducible apply A_split); (· rfl); (· rfl))
          | ((with_reducible apply A_bool); (· rfl); (· rfl))
          | ((with_reducible apply A_lst); (· rfl); (· rfl))
          | ((with_reducible apply A_iptr); (· rfl); (· rfl))
          | ((with_reducible apply A_agg); (· rfl); (· rfl))
          | ((with_reducible apply A_ptr); (· rfl); (· rfl))
          | ((with_reducible apply A_fn); (· rfl); (· rfl))
          | ((with_reducible apply A_sl); (· rfl); (· rfl))
          | ((with_reducible apply A_load); (· rfl); (· rfl); (· rfl); (· first | exact get_own rfl | assumption | exact get_old (by assumption)); (· first | rfl | assumption); (· first | rfl | exact map_get (by assumption) | assumption); (· rfl))
          | ((with_reducible apply A_loadI); (· rfl); (· rfl); (· rfl); (· first | rfl | exact map_get (by assumption) | assumption); (· rfl))
          | ((with_reducible apply A_at); (· rfl); (· rfl); (· rfl); (· rfl); (· rfl); (· rfl); (· first | rfl | exact map_get (by assumption) | assumption); (· rfl))
          | ((with_reducible apply A_atS); (· rfl); (· rfl); (· rfl); (· rfl); (· rfl); (· rfl); (· first | exact get_own rfl | assumption | exact get_old (by assumption)); (· first | rfl | assumption); (· first | rfl | exact map_get (by assumption) | assumption); (· rfl))
          | ((with_reducible apply WX_store); (· rfl); (· rfl); (· rfl); (· first | exact get_own rfl | assumption | exact get_old (by assumption)); (· first | rfl | assumption); (· first | rfl | exact map_get (by assumption) | assumption); (· rfl); (· rfl); (· exact Nat.le_of_ble_eq_true rfl); (· rfl); (· first | exact set_own | exact set_old (by assumption)))
          | ((with_reducible apply WX_make); (· rfl); (· rfl); (· rfl); (· rfl); (· rfl); (· rfl); (· rfl); (· rfl); (· first | decide | assumption); (· rfl); (· first | (simp only [List.length_cons, List.length_nil, Nat.reduceAdd]; rfl) | rfl); (· first | (simp only [List.nil_append, List.cons_append]; rfl) | rfl))
          | ((with_reducible apply A_shl); (· rfl); (· rfl); (· rfl); (· first | decide | assumption | omega))
          | ((with_reducible apply A_shr); (· rfl); (· rfl); (· rfl); (· first | decide | assumption | omega))
          | ((with_reducible apply A_quo); (· rfl); (· rfl); (· rfl); (· rfl); (· first | decide | assumption | omega))
          | ((with_reducible apply A_rem); (· rfl); (· rfl); (· rfl); (· rfl); (· first | decide | assumption | omega))
          | ((with_reducible apply A_str); (· rfl); (· rfl))
          | ((with_reducible apply A_tup); (· rfl); (· rfl))
          | ((with_reducible apply A_nils); (· rfl); (· rfl))
          | ((with_reducible apply A_map); (· rfl); (· rfl))
          | ((with_reducible apply A_nilptr); (· rfl); (· rfl))
          | ((with_reducible apply A_nilfn); (· rfl); (· rfl))
          | ((with_reducible apply A_nilmap); (· rfl); (· rfl))
          | ((with_reducible apply A_gp); (· rfl); (· rfl))
          | ((with_reducible apply D_no); (· rfl))
          | ((with_reducible apply D_int); (· rfl); (· rfl); (· rfl))
          | ((with_reducible apply D_true); (· rfl); (· rfl); (· rfl))
          | ((with_reducible apply D_false); (· rfl); (· rfl); (· rfl))
          | ((with_reducible apply D_splitP); (· rfl); (· rfl); (· with_reducible rfl))
          | ((with_reducible apply D_split); (· rfl); (· rfl))
          | ((with_reducible apply D_bool); (· rfl); (· rfl); (· rfl))
          | ((with_reducible apply D_lst); (· rfl); (· rfl); (· rfl))
          | ((with_reducible apply D_iptr); (· rfl); (· rfl); (· rfl))
          | ((with_reducible apply D_agg); (· rfl); (· rfl); (· rfl))
          | ((with_reducible apply D_ptr); (· rfl); (· rfl); (· rfl))
          | ((with_reducible apply D_fn); (· rfl); (· rfl); (· rfl))
          | ((with_reducible apply D_sl); (· rfl); (· rfl); (· rfl))
          | ((with_reducible apply D_load); (· rfl); (· rfl); (· rfl); (· first | exact get_own rfl | assumption | exact get_old (by assumption)); (· first | rfl | assumption); (· first | rfl | exact map_get (by assumption) | assumption); (· rfl))
          | ((with_reducible apply D_loadI); (· rfl); (· rfl); (· rfl); (· first | rfl | exact map_get (by assumption) | assumption); (· rfl))
          | ((with_reducible apply D_at); (· rfl); (· rfl); (· rfl); (· rfl); (· rfl); (· rfl); (· first | rfl | exact map_get (by assumption) | assumption); (· rfl))
          | ((with_reducible apply D_atS); (· rfl); (· rfl); (· rfl); (· rfl); (· rfl); (· rfl); (· first | exact get_own rfl | assumption | exact get_old (by assumption)); (· first | rfl | assumption); (· first | rfl | exact map_get (by assumption) | assumption); (· rfl))
          | ((with_reducible apply D_shl); (· rfl); (· rfl); (· rfl); (· first | decide | assumption | omega))
          | ((with_reducible apply D_shr); (· rfl); (· rfl); (· rfl); (· first | decide | assumption | omega))
          | ((with_reducible apply D_quo); (· rfl); (· rfl); (· rfl); (· rfl); (· first | decide | assumption | omega))
          | ((with_reducible apply D_rem); (· rfl); (· rfl); (· rfl); (· rfl); (· first | decide | assumption | omega))
          | ((with_reducible apply D_str); (· rfl); (· rfl); (· rfl))
          | ((with_reducible apply D_tup); (· rfl); (· rfl); (· rfl))
          | ((with_reducible apply D_nils); (· rfl); (· rfl); (· rfl))
          | ((with_reducible apply D_map); (· rfl); (· rfl); (· rfl))
          | ((with_reducible apply D_nilptr); (· rfl); (· rfl); (· rfl))
          | ((with_reducible apply D_nilfn); (· rfl); (· rfl); (· rfl))
          | ((with_reducible apply D_nilmap); (· rfl); (· rfl); (· rfl))
          | ((with_reducible apply D_gp); (· rfl); (· rfl); (· rfl))
          | (with_reducible intro hc)
          | ((with_reducible apply W_condT); (· rfl))
          | ((with_reducible apply W_condF); (· rfl))
          | ((with_reducible apply W_cond2); (· rfl); (· with_reducible rfl))
          | ((with_reducible apply W_cond1); (· rfl)))
        all_goals (refine ret_bool ret_not rfl rfl ?_; (first | (simp_all [badG, tG, setG]; done) | (simp_all [badG, tG, setG]; intros; omega)))
      · repeat' (first
          | with_reducible apply Then_norm
          | with_reducible apply Then_ret
          | with_reducible apply Then_exit
          | with_reducible apply InB_norm
          | with_reducible apply InB_ret
          | with_reducible apply InB_exit
          | with_reducible apply W_seq
          | with_reducible apply W_reg
          | with_reducible apply W_ret
          | with_reducible apply W_skip
          | with_reducible apply W_exit
          | with_reducible apply W_block
          | with_reducible apply WX_nil
          | ((with_reducible apply InB_other); rfl)
          | ((with_reducible apply W_regL); (· first | (simp only [List.length_cons, List.length_nil, Nat.reduceAdd]; rfl) | rfl))
          | ((with_reducible apply WX_call); (· rfl); (· rfl); (· rfl); (· rfl); (· first | exact c18 _ _ _ _ | exact c19 _ _ _ _ | exact c20 _ _ | exact c21 _ _ _))
          | ((with_reducible apply D_call); (· rfl); (· rfl); (· rfl); (· rfl); (· first | exact c18 _ _ _ _ | exact c19 _ _ _ _ | exact c20 _ _ | exact c21 _ _ _))
          | ((with_reducible apply A_no); (· rfl))
          | ((with_reducible apply WX_alloc); (· rfl); (· rfl); (· first | (simp only [List.length_cons, List.length_nil, Nat.reduceAdd]; rfl) | rfl); (· first | (simp only [List.nil_append, List.cons_append]; rfl) | rfl))
          | ((with_reducible apply WX_box); (· rfl); (· rfl); (· first | (simp only [List.length_cons, List.length_nil, Nat.reduceAdd]; rfl) | rfl); (· first | (simp only [List.nil_append, List.cons_append]; rfl) | rfl))
          | ((with_reducible apply A_int); (· rfl); (· rfl))
          | ((with_reducible apply A_true); (· rfl); (· rfl))
          | ((with_reducible apply A_false); (· rfl); (· rfl))
          | ((with_reducible apply A_splitP); (· rfl); (· rfl); (· with_reducible rfl))
          | ((with_reducible apply A_split); (· rfl); (· rfl))
          | ((with_reducible apply A_bool); (· rfl); (· rfl))
          | ((with_reducible apply A_lst); (· rfl); (· rfl))
          | ((with_reducible apply A_iptr); (· rfl); (· rfl))
          | ((with_reducible apply A_agg); (· rfl); (· rfl))
          | ((with_reducible apply A_ptr); (· rfl); (· rfl))
          | ((with_reducible apply A_fn); (· rfl); (· rfl))
          | ((with_reducible apply A_sl); (· rfl); (· rfl))
          | ((with_reducible apply A_load); (· rfl); (· rfl); (· rfl); (· first | exact get_own rfl | assumption | exact get_old (by assumption)); (· first | rfl | assumption); (· first | rfl | exact map_get (by assumption) | assumption); (· rfl))
          | ((with_reducible apply A_loadI); (· rfl); (· rfl); (· rfl); (· first | rfl | exact map_get (by assumption) | assumption); (· rfl))
          | ((with_reducible apply A_at); (· rfl); (· rfl); (· rfl); (· rfl); (· rfl); (· rfl); (· first | rfl | exact map_get (by assumption) | assumption); (· rfl))
          | ((with_reducible apply A_atS); (· rfl); (· rfl); (· rfl); (· rfl); (· rfl); (· rfl); (· first | exact get_own rfl | assumption | exact get_old (by assumption)); (· first | rfl | assumption); (· first | rfl | exact map_get (by assumption) | assumption); (· rfl))
          | ((with_reducible apply WX_store); (· rfl); (· rfl); (· rfl); (· first | exact get_own rfl | assumption | exact get_old (by assumption)); (· first | rfl | assumption); (· first | rfl | exact map_get (by assumption) | assumption); (· rfl); (· rfl); (· exact Nat.le_of_ble_eq_true rfl); (· rfl); (· first | exact set_own | exact set_old (by assumption)))
          | ((with_reducible apply WX_make); (· rfl); (· rfl); (· rfl); (· rfl); (· rfl); (· rfl); (· rfl); (· rfl); (· first | decide | assumption); (· rfl); (· first | (simp only [List.length_cons, List.length_nil, Nat.reduceAdd]; rfl) | rfl); (· first | (simp only [List.nil_append, List.cons_append]; rfl) | rfl))
          | ((with_reducible apply A_shl); (· rfl); (· rfl); (· rfl); (· first | decide | assumption | omega))
          | ((with_reducible apply A_shr); (· rfl); (· rfl); (· rfl); (· first | decide | assumption | omega))
          | ((with_reducible apply A_quo); (· rfl); (· rfl); (· rfl); (· rfl); (· first | decide | assumption | omega))
          | ((with_reducible apply A_rem); (· rfl); (· rfl); (· rfl); (· rfl); (· first | decide | assumption | omega))
          | ((with_reducible apply A_str); (· rfl); (· rfl))
          | ((with_reducible apply A_tup); (· rfl); (· rfl))
          | ((with_reducible apply A_nils); (· rfl); (· rfl))
          | ((with_reducible apply A_map); (· rfl); (· rfl))
          | ((with_reducible apply A_nilptr); (· rfl); (· rfl))
          | ((with_reducible apply A_nilfn); (· rfl); (· rfl))
          | ((with_reducible apply A_nilmap); (· rfl); (· rfl))
          | ((with_reducible apply A_gp); (· rfl); (· rfl))
          | ((with_reducible apply D_no); (· rfl))
          | ((with_reducible apply D_int); (· rfl); (· rfl); (· rfl))
          | ((with_reducible apply D_true); (· rfl); (· rfl); (· rfl))
          | ((with_reducible apply D_false); (· rfl); (· rfl); (· rfl))
          | ((with_reducible apply D_splitP); (· rfl); (· rfl); (· with_reducible rfl))
          | ((with_reducible apply D_split); (· rfl); (· rfl))
          | ((with_reducible apply D_bool); (· rfl); (· rfl); (· rfl))
          | ((with_reducible apply D_lst); (· rfl); (· rfl); (· rfl))
          | ((with_reducible apply D_iptr); (· rfl); (· rfl); (· rfl))
          | ((with_reducible apply D_agg); (· rfl); (· rfl); (· rfl))
          | ((with_reducible apply D_ptr); (· rfl); (· rfl); (· rfl))
          | ((with_reducible apply D_fn); (· rfl); (· rfl); (· rfl))
          | ((with_reducible apply D_sl); (· rfl); (· rfl); (· rfl))
          | ((with_reducible apply D_load); (· rfl); (· rfl); (· rfl); (· first | exact get_own rfl | assumption | exact get_old (by assumption)); (· first | rfl | assumption); (· first | rfl | exact map_get (by assumption) | assumption); (· rfl))
          | ((with_reducible apply D_loadI); (· rfl); (· rfl); (· rfl); (· first | rfl | exact map_get (by assumption) | assumption); (· rfl))
          | ((with_reducible apply D_at); (· rfl); (· rfl); (· rfl); (· rfl); (· rfl); (· rfl); (· first | rfl | exact map_get (by assumption) | assumption); (· rfl))
          | ((with_reducible apply D_atS); (· rfl); (· rfl); (· rfl); (· rfl); (· rfl); (· rfl); (· first | exact get_own rfl | assumption | exact get_old (by assumption)); (· first | rfl | assumption); (· first | rfl | exact map_get (by assumption) | assumption); (· rfl))
          | ((with_reducible apply D_shl); (· rfl); (· rfl); (· rfl); (· first | decide | assumption | omega))
          | ((with_reducible apply D_shr); (· rfl); (· rfl); (· rfl); (· first | decide | assumption | omega))
          | ((with_reducible apply D_quo); (· rfl); (· rfl); (· rfl); (· rfl); (· first | decide | assumption | omega))
          | ((with_reducible apply D_rem); (· rfl); (· rfl); (· rfl); (· rfl); (· first | decide | assumption | omega))
          | ((with_reducible apply D_str); (· rfl); (· rfl); (· rfl))
          | ((with_reducible apply D_tup); (· rfl); (· rfl); (· rfl))
          | ((with_reducible apply D_nils); (· rfl); (· rfl); (· rfl))
          | ((with_reducible apply D_map); (· rfl); (· rfl); (· rfl))
          | ((with_reducible apply D_nilptr); (· rfl); (· rfl); (· rfl))
          | ((with_reducible apply D_nilfn); (· rfl); (· rfl); (· rfl))
          | ((with_reducible apply D_nilmap); (· rfl); (· rfl); (· rfl))
          | ((with_reducible apply D_gp); (· rfl); (· rfl); (· rfl))
          | (with_reducible intro hc)
          | ((with_reducible apply W_condT); (· rfl))
          | ((with_reducible apply W_condF); (· rfl))
          | ((with_reducible apply W_cond2); (· rfl); (· with_reducible rfl))
          | ((with_reducible apply W_cond1); (· rfl)))
        all_goals (refine ret_bool ret_not rfl rfl ?_; (first | (simp_all [badG, tG, setG]; done) | (simp_all [badG, tG, setG]; intros; omega)))
      · repeat' (first
          | with_reducible apply Then_norm
          | with_reducible apply Then_ret
          | with_reducible apply Then_exit
          | with_reducible apply InB_norm
          | with_reducible apply InB_ret
          | with_reducible apply InB_exit
          | with_reducible apply W_seq
          | with_reducible apply W_reg
          | with_reducible apply W_ret
          | with_reducible apply W_skip
          | with_reducible apply W_exit
          | with_reducible apply W_block
          | with_reducible apply WX_nil
          | ((with_reducible apply InB_other); rfl)
          | ((with_reducible apply W_regL); (· first | (simp only [List.length_cons, List.length_nil, Nat.reduceAdd]; rfl) | rfl))
          | ((with_reducible apply WX_call); (· rfl); (· rfl); (· rfl); (· rfl); (· first | exact c18 _ _ _ _ | exact c19 _ _ _ _ | exact c20 _ _ | exact c21 _ _ _))
          | ((with_reducible apply D_call); (· rfl); (· rfl); (· rfl); (· rfl); (· first | exact c18 _ _ _ _ | exact c19 _ _ _ _ | exact c20 _ _ | exact c21 _ _ _))
          | ((with_reducible apply A_no); (· rfl))
          | ((with_reducible apply WX_alloc); (· rfl); (· rfl); (· first | (simp only [List.length_cons, List.length_nil, Nat.reduceAdd]; rfl) | rfl); (· first | (simp only [List.nil_append, List.cons_append]; rfl) | rfl))
          | ((with_reducible apply WX_box); (· rfl); (· rfl); (· first | (simp only [List.length_cons, List.length_nil, Nat.reduceAdd]; rfl) | rfl); (· first | (simp only [List.nil_append, List.cons_append]; rfl) | rfl))
          | ((with_reducible apply A_int); (· rfl); (· rfl))
          | ((with_reducible apply A_true); (· rfl); (· rfl))
          | ((with_reducible apply A_false); (· rfl); (· rfl))
          | ((with_reducible apply A_splitP); (· rfl); (· rfl); (· with_reducible rfl))
          | ((with_reducible apply A_split); (· rfl); (· rfl))
          | ((with_reducible apply A_bool); (· rfl); (· rfl))
          | ((with_reducible apply A_lst); (· rfl); (· rfl))
          | ((with_reducible apply A_iptr); (· rfl); (· rfl))
          | ((with_reducible apply A_agg); (· rfl); (· rfl))
          | ((with_reducible apply A_ptr); (· rfl); (· rfl))
          | ((with_reducible apply A_fn); (· rfl); (· rfl))
          | ((with_reducible apply A_sl); (· rfl); (· rfl))
          | ((with_reducible apply A_load); (· rfl); (· rfl); (· rfl); (· first | exact get_own rfl | assumption | exact get_old (by assumption)); (· first | rfl | assumption); (· first | rfl | exact map_get (by assumption) | assumption); (· rfl))
          | ((with_reducible apply A_loadI); (· rfl); (· rfl); (· rfl); (· first | rfl | exact map_get (by assumption) | assumption); (· rfl))
          | ((with_reducible apply A_at); (· rfl); (· rfl); (· rfl); (· rfl); (· rfl); (· rfl); (· first | rfl | exact map_get (by assumption) | assumption); (· rfl))
          | ((with_reducible apply A_atS); (· rfl); (· rfl); (· rfl); (· rfl); (· rfl); (· rfl); (· first | exact get_own rfl | assumption | exact get_old (by assumption)); (· first | rfl | assumption); (· first | rfl | exact map_get (by assumption) | assumption); (· rfl))
          | ((with_reducible apply WX_store); (· rfl); (· rfl); (· rfl); (· first | exact get_own rfl | assumption | exact get_old (by assumption)); (· first | rfl | assumption); (· first | rfl | exact map_get (by assumption) | assumption); (· rfl); (· rfl); (· exact Nat.le_of_ble_eq_true rfl); (· rfl); (· first | exact set_own | exact set_old (by assumption)))
          | ((with_reducible apply WX_make); (· rfl); (· rfl); (· rfl); (· rfl); (· rfl); (· rfl); (· rfl); (· rfl); (· first | decide | assumption); (· rfl); (· first | (simp only [List.length_cons, List.length_nil, Nat.reduceAdd]; rfl) | rfl); (· first | (simp only [List.nil_append, List.cons_append]; rfl) | rfl))
          | ((with_reducible apply A_shl); (· rfl); (· rfl); (· rfl); (· first | decide | assumption | omega))
          | ((with_reducible apply A_shr); (· rfl); (· rfl); (· rfl); (· first | decide | assumption | omega))
          | ((with_reducible apply A_quo); (· rfl); (· rfl); (· rfl); (· rfl); (· first | decide | assumption | omega))
          | ((with_reducible apply A_rem); (· rfl); (· rfl); (· rfl); (· rfl); (· first | decide | assumption | omega))
          | ((with_reducible apply A_str); (· rfl); (· rfl))
          | ((with_reducible apply A_tup); (· rfl); (· rfl))
          | ((with_reducible apply A_nils); (· rfl); (· rfl))
          | ((with_reducible apply A_map); (· rfl); (· rfl))
          | ((with_reducible apply A_nilptr); (· rfl); (· rfl))
          | ((with_reducible apply A_nilfn); (· rfl); (· rfl))
          | ((with_reducible apply A_nilmap); (· rfl); (· rfl))
          | ((with_reducible apply A_gp); (· rfl); (· rfl))
          | ((with_reducible apply D_no); (· rfl))
          | ((with_reducible apply D_int); (· rfl); (· rfl); (· rfl))
          | ((with_reducible apply D_true); (· rfl); (· rfl); (· rfl))
          | ((with_reducible apply D_false); (· rfl); (· rfl); (· rfl))
          | ((with_reducible apply D_splitP); (· rfl); (· rfl); (· with_reducible rfl))
          | ((with_reducible apply D_split); (· rfl); (· rfl))
          | ((with_reducible apply D_bool); (· rfl); (· rfl); (· rfl))
          | ((with_reducible apply D_lst); (· rfl); (· rfl); (· rfl))
          | ((with_reducible apply D_iptr); (· rfl); (· rfl); (· rfl))
          | ((with_reducible apply D_agg); (· rfl); (· rfl); (· rfl))
          | ((with_reducible apply D_ptr); (· rfl); (· rfl); (· rfl))
          | ((with_reducible apply D_fn); (· rfl); (· rfl); (· rfl))
          | ((with_reducible apply D_sl); (· rfl); (· rfl); (· rfl))
          | ((with_reducible apply D_load); (· rfl); (· rfl); (· rfl); (· first | exact get_own rfl | assumption | exact get_old (by assumption)); (· first | rfl | assumption); (· first | rfl | exact map_get (by assumption) | assumption); (· rfl))
          | ((with_reducible apply D_loadI); (· rfl); (· rfl); (· rfl); (· first | rfl | exact map_get (by assumption) | assumption); (· rfl))
          | ((with_reducible apply D_at); (· rfl); (· rfl); (· rfl); (· rfl); (· rfl); (· rfl); (· first | rfl | exact map_get (by assumption) | assumption); (· rfl))
          | ((with_reducible apply D_atS); (· rfl); (· rfl); (· rfl); (· rfl); (· rfl); (· rfl); (· first | exact get_own rfl | assumption | exact get_old (by assumption)); (· first | rfl | assumption); (· first | rfl | exact map_get (by assumption) | assumption); (· rfl))
          | ((with_reducible apply D_shl); (· rfl); (· rfl); (· rfl); (· first | decide | assumption | omega))
          | ((with_reducible apply D_shr); (· rfl); (· rfl); (· rfl); (· first | decide | assumption | omega))
          | ((with_reducible apply D_quo); (· rfl); (· rfl); (· rfl); (· rfl); (· first | decide | assumption | omega))
          | ((with_reducible apply D_rem); (· rfl); (· rfl); (· rfl); (· rfl); (· first | decide | assumption | omega))
          | ((with_reducible apply D_str); (· rfl); (· rfl); (· rfl))
          | ((with_reducible apply D_tup); (· rfl); (· rfl); (· rfl))
          | ((with_reducible apply D_nils); (· rfl); (· rfl); (· rfl))
          | ((with_reducible apply D_map); (· rfl); (· rfl); (· rfl))
          | ((with_reducible apply D_nilptr); (· rfl); (· rfl); (· rfl))
          | ((with_reducible apply D_nilfn); (· rfl); (· rfl); (· rfl))
          | ((with_reducible apply D_nilmap); (· rfl); (· rfl); (· rfl))
          | ((with_reducible apply D_gp); (· rfl); (· rfl); (· rfl))
          | (with_reducible intro hc)
          | ((with_reducible apply W_condT); (· rfl))
          | ((with_reducible apply W_condF); (· rfl))
          | ((with_reducible apply W_cond2); (· rfl); (· with_reducible rfl))
          | ((with_reducible apply W_cond1); (· rfl)))
        all_goals (refine ret_bool ret_not rfl rfl ?_; (first | (simp_all [badG, tG, setG]; done) | (simp_all [badG, tG, setG]; intros; omega)))
    · repeat' (first
        | with_reducible apply Then_norm
        | with_reducible apply Then_ret
        | with_reducible apply Then_exit
        | with_reducible apply InB_norm
        | with_reducible apply InB_ret
        | with_reducible apply InB_exit
        | with_reducible apply W_seq
        | with_reducible apply W_reg
        | with_reducible apply W_ret
        | with_reducible apply W_skip
        | with_reducible apply W_exit
        | with_reducible apply W_block
        | with_reducible apply WX_nil
        | ((with_reducible apply InB_other); rfl)
        | ((with_reducible apply W_regL); (· first | (simp only [List.length_cons, List.length_nil, Nat.reduceAdd]; rfl) | rfl))
        | ((with_reducible apply WX_call); (· rfl); (· rfl); (· rfl); (· rfl); (· first | exact c18 _ _ _ _ | exact c19 _ _ _ _ | exact c20 _ _ | exact c21 _ _ _))
        | ((with_reducible apply D_call); (· rfl); (· rfl); (· rfl); (· rfl); (· first | exact c18 _ _ _ _ | exact c19 _ _ _ _ | exact c20 _ _ | exact c21 _ _ _))
        | ((with_reducible apply A_no); (· rfl))
        | ((with_reducible apply WX_alloc); (· rfl); (· rfl); (· first | (simp only [List.length_cons, List.length_nil, Nat.reduceAdd]; rfl) | rfl); (· first | (simp only [List.nil_append, List.cons_append]; rfl) | rfl))
        | ((with_reducible apply WX_box); (· rfl); (· rfl); (· first | (simp only [List.length_cons, List.length_nil, Nat.reduceAdd]; rfl) | rfl); (· first | (simp only [List.nil_append, List.cons_append]; rfl) | rfl))
        | ((with_reducible apply A_int); (· rfl); (· rfl))
        | ((with_reducible apply A_true); (· rfl); (· rfl))
        | ((with_reducible apply A_false); (· rfl); (· rfl))
        | ((with_reducible apply A_splitP); (· rfl); (· rfl); (· with_reducible rfl))
        | ((with_reducible apply A_split); (· rfl); (· rfl))
        | ((with_reducible apply A_bool); (· rfl); (· rfl))
        | ((with_reducible apply A_lst); (· rfl); (· rfl))
        | ((with_reducible apply A_iptr); (· rfl); (· rfl))
        | ((with_reducible apply A_agg); (· rfl); (· rfl))
        | ((with_reducible apply A_ptr); (· rfl); (· rfl))
        | ((with_reducible apply A_fn); (· rfl); (· rfl))
        | ((with_reducible apply A_sl); (· rfl); (· rfl))
        | ((with_reducible apply A_load); (· rfl); (· rfl); (· rfl); (· first | exact get_own rfl | assumption | exact get_old (by assumption)); (· first | rfl | assumption); (· first | rfl | exact map_get (by assumption) | assumption); (· rfl))
        | ((with_reducible apply A_loadI); (· rfl); (· rfl); (· rfl); (· first | rfl | exact map_get (by assumption) | assumption); (· rfl))
        | ((with_reducible apply A_at); (· rfl); (· rfl); (· rfl); (· rfl); (· rfl); (· rfl); (· first | rfl | exact map_get (by assumption) | assumption); (· rfl))
        | ((with_reducible apply A_atS); (· rfl); (· rfl); (· rfl); (· rfl); (· rfl); (· rfl); (· first | exact get_own rfl | assumption | exact get_old (by assumption)); (· first | rfl | assumption); (· first | rfl | exact map_get (by assumption) | assumption); (· rfl))
        | ((with_reducible apply WX_store); (· rfl); (· rfl); (· rfl); (· first | exact get_own rfl | assumption | exact get_old (by assumption)); (· first | rfl | assumption); (· first | rfl | exact map_get (by assumption) | assumption); (· rfl); (· rfl); (· exact Nat.le_of_ble_eq_true rfl); (· rfl); (· first | exact set_own | exact set_old (by assumption)))
        | ((with_reducible apply WX_make); (· rfl); (· rfl); (· rfl); (· rfl); (· rfl); (· rfl); (· rfl); (· rfl); (· first | decide | assumption); (· rfl); (· first | (simp only [List.length_cons, List.length_nil, Nat.reduceAdd]; rfl) | rfl); (· first | (simp only [List.nil_append, List.cons_append]; rfl) | rfl))
        | ((with_reducible apply A_shl); (· rfl); (· rfl); (· rfl); (· first | decide | assumption | omega))
        | ((with_reducible apply A_shr); (· rfl); (· rfl); (· rfl); (· first | decide | assumption | omega))
        | ((with_reducible apply A_quo); (· rfl); (· rfl); (· rfl); (· rfl); (· first | decide | assumption | omega))
        | ((with_reducible apply A_rem); (· rfl); (· rfl); (· rfl); (· rfl); (· first | decide | assumption | omega))
        | ((with_reducible apply A_str); (· rfl); (· rfl))
        | ((with_reducible apply A_tup); (· rfl); (· rfl))
        | ((with_reducible apply A_nils); (· rfl); (· rfl))
        | ((with_reducible apply A_map); (· rfl); (· rfl))
        | ((with_reducible apply A_nilptr); (· rfl); (· rfl))
        | ((with_reducible apply A_nilfn); (· rfl); (· rfl))
        | ((with_reducible apply A_nilmap); (· rfl); (· rfl))
        | ((with_reducible apply A_gp); (· rfl); (· rfl))
        | ((with_reducible apply D_no); (· rfl))
        | ((with_reducible apply D_int); (· rfl); (· rfl); (· rfl))
        | ((with_reducible apply D_true); (· rfl); (· rfl); (· rfl))
        | ((with_reducible apply D_false); (· rfl); (· rfl); (· rfl))
        | ((with_reducible apply D_splitP); (· rfl); (· rfl); (· with_reducible rfl))
        | ((with_reducible apply D_split); (· rfl); (· rfl))
        | ((with_reducible apply D_bool); (· rfl); (· rfl); (· rfl))
        | ((with_reducible apply D_lst); (· rfl); (· rfl); (· rfl))
        | ((with_reducible apply D_iptr); (· rfl); (· rfl); (· rfl))
        | ((with_reducible apply D_agg); (· rfl); (· rfl); (· rfl))
        | ((with_reducible apply D_ptr); (· rfl); (· rfl); (· rfl))
        | ((with_reducible apply D_fn); (· rfl); (· rfl); (· rfl))
        | ((with_reducible apply D_sl); (· rfl); (· rfl); (· rfl))
        | ((with_reducible apply D_load); (· rfl); (· rfl); (· rfl); (· first | exact get_own rfl | assumption | exact get_old (by assumption)); (· first | rfl | assumption); (· first | rfl | exact map_get (by assumption) | assumption); (· rfl))
        | ((with_reducible apply D_loadI); (· rfl); (· rfl); (· rfl); (· first | rfl | exact map_get (by assumption) | assumption); (· rfl))
        | ((with_reducible apply D_at); (· rfl); (· rfl); (· rfl); (· rfl); (· rfl); (· rfl); (· first | rfl | exact map_get (by assumption) | assumption); (· rfl))
        | ((with_reducible apply D_atS); (· rfl); (· rfl); (· rfl); (· rfl); (· rfl); (· rfl); (· first | exact get_own rfl | assumption | exact get_old (by assumption)); (· first | rfl | assumption); (· first | rfl | exact map_get (by assumption) | assumption); (· rfl))
        | ((with_reducible apply D_shl); (· rfl); (· rfl); (· rfl); (· first | decide | assumption | omega))
        | ((with_reducible apply D_shr); (· rfl); (· rfl); (· rfl); (· first | decide | assumption | omega))
        | ((with_reducible apply D_quo); (· rfl); (· rfl); (· rfl); (· rfl); (· first | decide | assumption | omega))
        | ((with_reducible apply D_rem); (· rfl); (· rfl); (· rfl); (· rfl); (· first | decide | assumption | omega))
        | ((with_reducible apply D_str); (· rfl); (· rfl); (· rfl))
        | ((with_reducible apply D_tup); (· rfl); (· rfl); (· rfl))
        | ((with_reducible apply D_nils); (· rfl); (· rfl); (· rfl))
        | ((with_reducible apply D_map); (· rfl); (· rfl); (· rfl))
        | ((with_reducible apply D_nilptr); (· rfl); (· rfl); (· rfl))
        | ((with_reducible apply D_nilfn); (· rfl); (· rfl); (· rfl))
        | ((with_reducible apply D_nilmap); (· rfl); (· rfl); (· rfl))
        | ((with_reducible apply D_gp); (· rfl); (· rfl); (· rfl))
        | (with_reducible intro hc)
        | ((with_reducible apply W_condT); (· rfl))
        | ((with_reducible apply W_condF); (· rfl))
        | ((with_reducible apply W_cond2); (· rfl); (· with_reducible rfl))
        | ((with_reducible apply W_cond1); (· rfl)))
      all_goals first
        | exact absurd (by assumption) hh
        | (refine ret_bool ret_not rfl rfl ?_; first | (simp_all [badG, tG, setG]; done) | (simp_all [badG, tG, setG]; intros; omega))
  · rw [badG_n h3]
    refine Ev_start (fn := Try.f7) rfl rfl (Nat.le_of_ble_eq_true rfl) ?_
    repeat' (first
      | with_reducible apply Then_norm
      | with_reducible apply Then_ret
      | with_reducible apply Then_exit
      | with_reducible apply InB_norm
      | with_reducible apply InB_ret
      | with_reducible apply InB_exit
      | with_reducible apply W_seq
      | with_reducible apply W_reg
      | with_reducible apply W_ret
      | with_reducible apply W_skip
      | with_reducible apply W_exit
      | with_reducible apply W_block
      | with_reducible apply WX_nil
      | ((with_reducible apply InB_other); rfl)
      | ((with_reducible apply W_regL); (· first | (simp only [List.length_cons, List.length_nil, Nat.reduceAdd]; rfl) | rfl))
      | ((with_reducible apply WX_call); (· rfl); (· rfl); (· rfl); (· rfl); (· first | exact c18n _ _ (by assumption) (by assumption)))
      | ((with_reducible apply D_call); (· rfl); (· rfl); (· rfl); (· rfl); (· first | exact c18n _ _ (by assumption) (by assumption)))
      | ((with_reducible apply A_no); (· rfl))
      | ((with_reducible apply WX_alloc); (· rfl); (· rfl); (· first | (simp only [List.length_cons, List.length_nil, Nat.reduceAdd]; rfl) | rfl); (· first | (simp only [List.nil_append, List.cons_append]; rfl) | rfl))
      | ((with_reducible apply WX_box); (· rfl); (· rfl); (· first | (simp only [List.length_cons, List.length_nil, Nat.reduceAdd]; rfl) | rfl); (· first | (simp only [List.nil_append, List.cons_append]; rfl) | rfl))
      | ((with_reducible apply A_int); (· rfl); (· rfl))
      | ((with_reducible apply A_true); (· rfl); (· rfl))
      | ((with_reducible apply A_false); (· rfl); (· rfl))
      | ((with_reducible apply A_splitP); (· rfl); (· rfl); (· with_reducible rfl))
      | ((with_reducible apply A_split); (· rfl); (· rfl))
      | ((with_reducible apply A_bool); (· rfl); (· rfl))
      | ((with_reducible apply A_lst); (· rfl); (· rfl))
      | ((with_reducible apply A_iptr); (· rfl); (· rfl))
      | ((with_reducible apply A_agg); (· rfl); (· rfl))
      | ((with_reducible apply A_ptr); (· rfl); (· rfl))
      | ((with_reducible apply A_fn); (· rfl); (· rfl))
      | ((with_reducible apply A_sl); (· rfl); (· rfl))
      | ((with_reducible apply A_load); (· rfl); (· rfl); (· rfl); (· first | exact get_own rfl | assumption | exact get_old (by assumption)); (· first | rfl | assumption); (· first | rfl | exact map_get (by assumption) | assumption); (· rfl))
      | ((with_reducible apply A_loadI); (· rfl); (· rfl); (· rfl); (· first | rfl | exact map_get (by assumption) | assumption); (· rfl))
      | ((with_reducible apply A_at); (· rfl); (· rfl); (· rfl); (· rfl); (· rfl); (· rfl); (· first | rfl | exact map_get (by assumption) | assumption); (· rfl))
      | ((with_reducible apply A_atS); (· rfl); (· rfl); (· rfl); (· rfl); (· rfl); (· rfl); (· first | exact get_own rfl | assumption | exact get_old (by assumption)); (· first | rfl | assumption); (· first | rfl | exact map_get (by assumption) | assumption); (· rfl))
      | ((with_reducible apply WX_store); (· rfl); (· rfl); (· rfl); (· first | exact get_own rfl | assumption | exact get_old (by assumption)); (· first | rfl | assumption); (· first | rfl | exact map_get (by assumption) | assumption); (· rfl); (· rfl); (· exact Nat.le_of_ble_eq_true rfl); (· rfl); (· first | exact set_own | exact set_old (by assumption)))
      | ((with_reducible apply WX_make); (· rfl); (· rfl); (· rfl); (· rfl); (· rfl); (· rfl); (· rfl); (· rfl); (· first | decide | assumption); (· rfl); (· first | (simp only [List.length_cons, List.length_nil, Nat.reduceAdd]; rfl) | rfl); (· first | (simp only [List.nil_append, List.cons_append]; rfl) | rfl))
      | ((with_reducible apply A_shl); (· rfl); (· rfl); (· rfl); (· first | decide | assumption | omega))
      | ((with_reducible apply A_shr); (· rfl); (· rfl); (· rfl); (· first | decide | assumption | omega))
      | ((with_reducible apply A_quo); (· rfl); (· rfl); (· rfl); (· rfl); (· first | decide | assumption | omega))
      | ((with_reducible apply A_rem); (· rfl); (· rfl); (· rfl); (· rfl); (· first | decide | assumption | omega))
      | ((with_reducible apply A_str); (· rfl); (· rfl))
      | ((with_reducible apply A_tup); (· rfl); (· rfl))
      | ((with_reducible apply A_nils); (· rfl); (· rfl))
      | ((with_reducible apply A_map); (· rfl); (· rfl))
      | ((with_reducible apply A_nilptr); (· rfl); (· rfl))
      | ((with_reducible apply A_nilfn); (· rfl); (· rfl))
      | ((with_reducible apply A_nilmap); (· rfl); (· rfl))
      | ((with_reducible apply A_gp); (· rfl); (· rfl))
      | ((with_reducible apply D_no); (· rfl))
      | ((with_reducible apply D_int); (· rfl); (· rfl); (· rfl))
      | ((with_reducible apply D_true); (· rfl); (· rfl); (· rfl))
      | ((with_reducible apply D_false); (· rfl); (· rfl); (· rfl))
      | ((with_reducible apply D_splitP); (· rfl); (· rfl); (· with_reducible rfl))
      | ((with_reducible apply D_split); (· rfl); (· rfl))
      | ((with_reducible apply D_bool); (· rfl); (· rfl); (· rfl))
      | ((with_reducible apply D_lst); (· rfl); (· rfl); (· rfl))
      | ((with_reducible apply D_iptr); (· rfl); (· rfl); (· rfl))
      | ((with_reducible apply D_agg); (· rfl); (· rfl); (· rfl))
      | ((with_reducible apply D_ptr); (· rfl); (· rfl); (· rfl))
      | ((with_reducible apply D_fn); (· rfl); (· rfl); (· rfl))
      | ((with_reducible apply D_sl); (· rfl); (· rfl); (· rfl))
      | ((with_reducible apply D_load); (· rfl); (· rfl); (· rfl); (· first | exact get_own rfl | assumption | exact get_old (by assumption)); (· first | rfl | assumption); (· first | rfl | exact map_get (by assumption) | assumption); (· rfl))
      | ((with_reducible apply D_loadI); (· rfl); (· rfl); (· rfl); (· first | rfl | exact map_get (by assumption) | assumption); (· rfl))
      | ((with_reducible apply D_at); (· rfl); (· rfl); (· rfl); (· rfl); (· rfl); (· rfl); (· first | rfl | exact map_get (by assumption) | assumption); (· rfl))
      | ((with_reducible apply D_atS); (· rfl); (· rfl); (· rfl); (· rfl); (· rfl); (· rfl); (· first | exact get_own rfl | assumption | exact get_old (by assumption)); (· first | rfl | assumption); (· first | rfl | exact map_get (by assumption) | assumption); (· rfl))
      | ((with_reducible apply D_shl); (· rfl); (· rfl); (· rfl); (· first | decide | assumption | omega))
      | ((with_reducible apply D_shr); (· rfl); (· rfl); (· rfl); (· first | decide | assumption | omega))
      | ((with_reducible apply D_quo); (· rfl); (· rfl); (· rfl); (· rfl); (· first | decide | assumption | omega))
      | ((with_reducible apply D_rem); (· rfl); (· rfl); (· rfl); (· rfl); (· first | decide | assumption | omega))
      | ((with_reducible apply D_str); (· rfl); (· rfl); (· rfl))
      | ((with_reducible apply D_tup); (· rfl); (· rfl); (· rfl))
      | ((with_reducible apply D_nils); (· rfl); (· rfl); (· rfl))
      | ((with_reducible apply D_map); (· rfl); (· rfl); (· rfl))
      | ((with_reducible apply D_nilptr); (· rfl); (· rfl); (· rfl))
      | ((with_reducible apply D_nilfn); (· rfl); (· rfl); (· rfl))
      | ((with_reducible apply D_nilmap); (· rfl); (· rfl); (· rfl))
      | ((with_reducible apply D_gp); (· rfl); (· rfl); (· rfl))
      | (with_reducible intro hc)
      | ((with_reducible apply W_condT); (· rfl))
      | ((with_reducible apply W_condF); (· rfl))
      | ((with_reducible apply W_cond2); (· rfl); (· with_reducible rfl))
      | ((with_reducible apply W_cond1); (· rfl)))
    all_goals (refine ret_bool ret_not rfl rfl rfl)

def okI : Nat → List Int → Bool
  | _, [] => true
  | j, x :: xs => setG x && hasI x j && okI (j + 1) xs
theorem okI_drop (xs : List Int) (i : Nat) (h : i < xs.length) : okI i (xs.drop i) = (setG xs[i] && hasI xs[i] i && okI (i + 1) (xs.drop (i + 1))) := by
  rw [List.drop_eq_getElem_cons h]; rfl
theorem c15 (xs : List Int) (S : St) (hl : xs.length ≤ maxLen) : Ev Y 15 [L xs] S (.bool (okI 0 xs && xs.length == 3)) S := by
  rw [maxLen_eq] at hl
  refine Ev_start (fn := Try.f15) rfl rfl (Nat.le_of_ble_eq_true rfl) ?_
  repeat' (first
    | with_reducible apply Then_norm
    | with_reducible apply Then_ret
    | with_reducible apply Then_exit
    | with_reducible apply InB_norm
    | with_reducible apply InB_ret
    | with_reducible apply InB_exit
    | with_reducible apply W_seq
    | with_reducible apply W_reg
    | with_reducible apply W_ret
    | with_reducible apply W_skip
    | with_reducible apply W_exit
    | with_reducible apply W_block
    | with_reducible apply WX_nil
    | ((with_reducible apply InB_other); rfl)
    | ((with_reducible apply W_regL); (· first | (simp only [List.length_cons, List.length_nil, Nat.reduceAdd]; rfl) | rfl))
    | ((with_reducible apply A_no); (· rfl))
    | ((with_reducible apply WX_alloc); (· rfl); (· rfl); (· first | (simp only [List.length_cons, List.length_nil, Nat.reduceAdd]; rfl) | rfl); (· first | (simp only [List.nil_append, List.cons_append]; rfl) | rfl))
    | ((with_reducible apply WX_box); (· rfl); (· rfl); (· first | (simp only [List.length_cons, List.length_nil, Nat.reduceAdd]; rfl) | rfl); (· first | (simp only [List.nil_append, List.cons_append]; rfl) | rfl))
    | ((with_reducible apply A_int); (· rfl); (· rfl))
    | ((with_reducible apply A_true); (· rfl); (· rfl))
    | ((with_reducible apply A_false); (· rfl); (· rfl))
    | ((with_reducible apply A_splitP); (· rfl); (· rfl); (· with_reducible rfl))
    | ((with_reducible apply A_split); (· rfl); (· rfl))
    | ((with_reducible apply A_bool); (· rfl); (· rfl))
    | ((with_reducible apply A_lst); (· rfl); (· rfl))
    | ((with_reducible apply A_iptr); (· rfl); (· rfl))
    | ((with_reducible apply A_agg); (· rfl); (· rfl))
    | ((with_reducible apply A_ptr); (· rfl); (· rfl))
    | ((with_reducible apply A_fn); (· rfl); (· rfl))
    | ((with_reducible apply A_sl); (· rfl); (· rfl))
    | ((with_reducible apply A_load); (· rfl); (· rfl); (· rfl); (· first | exact get_own rfl | assumption | exact get_old (by assumption)); (· first | rfl | assumption); (· first | rfl | exact map_get (by assumption) | assumption); (· rfl))
    | ((with_reducible apply A_loadI); (· rfl); (· rfl); (· rfl); (· first | rfl | exact map_get (by assumption) | assumption); (· rfl))
    | ((with_reducible apply A_at); (· rfl); (· rfl); (· rfl); (· rfl); (· rfl); (· rfl); (· first | rfl | exact map_get (by assumption) | assumption); (· rfl))
    | ((with_reducible apply A_atS); (· rfl); (· rfl); (· rfl); (· rfl); (· rfl); (· rfl); (· first | exact get_own rfl | assumption | exact get_old (by assumption)); (· first | rfl | assumption); (· first | rfl | exact map_get (by assumption) | assumption); (· rfl))
    | ((with_reducible apply WX_store); (· rfl); (· rfl); (· rfl); (· first | exact get_own rfl | assumption | exact get_old (by assumption)); (· first | rfl | assumption); (· first | rfl | exact map_get (by assumption) | assumption); (· rfl); (· rfl); (· exact Nat.le_of_ble_eq_true rfl); (· rfl); (· first | exact set_own | exact set_old (by assumption)))
    | ((with_reducible apply WX_make); (· rfl); (· rfl); (· rfl); (· rfl); (· rfl); (· rfl); (· rfl); (· rfl); (· first | decide | assumption); (· rfl); (· first | (simp only [List.length_cons, List.length_nil, Nat.reduceAdd]; rfl) | rfl); (· first | (simp only [List.nil_append, List.cons_append]; rfl) | rfl))
    | ((with_reducible apply A_shl); (· rfl); (· rfl); (· rfl); (· first | decide | assumption | omega))
    | ((with_reducible apply A_shr); (· rfl); (· rfl); (· rfl); (· first | decide | assumption | omega))
    | ((with_reducible apply A_quo); (· rfl); (· rfl); (· rfl); (· rfl); (· first | decide | assumption | omega))
    | ((with_reducible apply A_rem); (· rfl); (· rfl); (· rfl); (· rfl); (· first | decide | assumption | omega))
    | ((with_reducible apply A_str); (· rfl); (· rfl))
    | ((with_reducible apply A_tup); (· rfl); (· rfl))
    | ((with_reducible apply A_nils); (· rfl); (· rfl))
    | ((with_reducible apply A_map); (· rfl); (· rfl))
    | ((with_reducible apply A_nilptr); (· rfl); (· rfl))
    | ((with_reducible apply A_nilfn); (· rfl); (· rfl))
    | ((with_reducible apply A_nilmap); (· rfl); (· rfl))
    | ((with_reducible apply A_gp); (· rfl); (· rfl))
    | ((with_reducible apply D_no); (· rfl))
    | ((with_reducible apply D_int); (· rfl); (· rfl); (· rfl))
    | ((with_reducible apply D_true); (· rfl); (· rfl); (· rfl))
    | ((with_reducible apply D_false); (· rfl); (· rfl); (· rfl))
    | ((with_reducible apply D_splitP); (· rfl); (· rfl); (· with_reducible rfl))
    | ((with_reducible apply D_split); (· rfl); (· rfl))
    | ((with_reducible apply D_bool); (· rfl); (· rfl); (· rfl))
    | ((with_reducible apply D_lst); (· rfl); (· rfl); (· rfl))
    | ((with_reducible apply D_iptr); (· rfl); (· rfl); (· rfl))
    | ((with_reducible apply D_agg); (· rfl); (· rfl); (· rfl))
    | ((with_reducible apply D_ptr); (· rfl); (· rfl); (· rfl))
    | ((with_reducible apply D_fn); (· rfl); (· rfl); (· rfl))
    | ((with_reducible apply D_sl); (· rfl); (· rfl); (· rfl))
    | ((with_reducible apply D_load); (· rfl); (· rfl); (· rfl); (· first | exact get_own rfl | assumption | exact get_old (by assumption)); (· first | rfl | assumption); (· first | rfl | exact map_get (by assumption) | assumption); (· rfl))
    | ((with_reducible apply D_loadI); (· rfl); (· rfl); (· rfl); (· first | rfl | exact map_get (by assumption) | assumption); (· rfl))
    | ((with_reducible apply D_at); (· rfl); (· rfl); (· rfl); (· rfl); (· rfl); (· rfl); (· first | rfl | exact map_get (by assumption) | assumption); (· rfl))
    | ((with_reducible apply D_atS); (· rfl); (· rfl); (· rfl); (· rfl); (· rfl); (· rfl); (· first | exact get_own rfl | assumption | exact get_old (by assumption)); (· first | rfl | assumption); (· first | rfl | exact map_get (by assumption) | assumption); (· rfl))
    | ((with_reducible apply D_shl); (· rfl); (· rfl); (· rfl); (· first | decide | assumption | omega))
    | ((with_reducible apply D_shr); (· rfl); (· rfl); (· rfl); (· first | decide | assumption | omega))
    | ((with_reducible apply D_quo); (· rfl); (· rfl); (· rfl); (· rfl); (· first | decide | assumption | omega))
    | ((with_reducible apply D_rem); (· rfl); (· rfl); (· rfl); (· rfl); (· first | decide | assumption | omega))
    | ((with_reducible apply D_str); (· rfl); (· rfl); (· rfl))
    | ((with_reducible apply D_tup); (· rfl); (· rfl); (· rfl))
    | ((with_reducible apply D_nils); (· rfl); (· rfl); (· rfl))
    | ((with_reducible apply D_map); (· rfl); (· rfl); (· rfl))
    | ((with_reducible apply D_nilptr); (· rfl); (· rfl); (· rfl))
    | ((with_reducible apply D_nilfn); (· rfl); (· rfl); (· rfl))
    | ((with_reducible apply D_nilmap); (· rfl); (· rfl); (· rfl))
    | ((with_reducible apply D_gp); (· rfl); (· rfl); (· rfl))
    | (with_reducible intro hc)
    | ((with_reducible apply W_condT); (· rfl))
    | ((with_reducible apply W_condF); (· rfl))
    | ((with_reducible apply W_cond2); (· rfl); (· with_reducible rfl))
    | ((with_reducible apply W_cond1); (· rfl)))
  refine W_loop (fun n T' S' => ∃ (T0 : Tm) (i : Nat), i ≤ xs.length ∧ n = xs.length - i ∧ okI 0 xs = okI i (xs.drop i) ∧ T' = putL T0 [(0, L xs), (5, L xs), (6, I xs.length), (7, I i)] ∧ S' = S ++ []) xs.length
      ⟨_, 0, by omega, by omega, rfl, at_mk ⟨rfl, rfl, (by show HV.int _ _ = _; rw [List.length_map]), rfl, trivial⟩, rfl⟩ ?_
  rintro n T' S' ⟨T0, i, hi, rfl, hpre, rfl, rfl⟩
  by_cases hlt : i < xs.length
  · have hx1 : xs[i]? = some xs[i] := by simp
    have hstep := okI_drop xs i hlt
    repeat' (first
      | with_reducible apply Then_norm
      | with_reducible apply Then_ret
      | with_reducible apply Then_exit
      | with_reducible apply InB_norm
      | with_reducible apply InB_ret
      | with_reducible apply InB_exit
      | with_reducible apply W_seq
      | with_reducible apply W_reg
      | with_reducible apply W_ret
      | with_reducible apply W_skip
      | with_reducible apply W_exit
      | with_reducible apply W_block
      | with_reducible apply WX_nil
      | ((with_reducible apply InB_other); rfl)
      | ((with_reducible apply W_regL); (· first | (simp only [List.length_cons, List.length_nil, Nat.reduceAdd]; rfl) | rfl))
      | ((with_reducible apply WX_call); (· rfl); (· rfl); (· rfl); (· rfl); (· first | exact c17 _ _ | exact c26 _ _ _))
      | ((with_reducible apply D_call); (· rfl); (· rfl); (· rfl); (· rfl); (· first | exact c17 _ _ | exact c26 _ _ _))
      | ((with_reducible apply A_no); (· rfl))
      | ((with_reducible apply WX_alloc); (· rfl); (· rfl); (· first | (simp only [List.length_cons, List.length_nil, Nat.reduceAdd]; rfl) | rfl); (· first | (simp only [List.nil_append, List.cons_append]; rfl) | rfl))
      | ((with_reducible apply WX_box); (· rfl); (· rfl); (· first | (simp only [List.length_cons, List.length_nil, Nat.reduceAdd]; rfl) | rfl); (· first | (simp only [List.nil_append, List.cons_append]; rfl) | rfl))
      | ((with_reducible apply A_int); (· rfl); (· rfl))
      | ((with_reducible apply A_true); (· rfl); (· rfl))
      | ((with_reducible apply A_false); (· rfl); (· rfl))
      | ((with_reducible apply A_splitP); (· rfl); (· rfl); (· with_reducible rfl))
      | ((with_reducible apply A_split); (· rfl); (· rfl))
      | ((with_reducible apply A_bool); (· rfl); (· rfl))
      | ((with_reducible apply A_lst); (· rfl); (· rfl))
      | ((with_reducible apply A_iptr); (· rfl); (· rfl))
      | ((with_reducible apply A_agg); (· rfl); (· rfl))
      | ((with_reducible apply A_ptr); (· rfl); (· rfl))
      | ((with_reducible apply A_fn); (· rfl); (· rfl))
      | ((with_reducible apply A_sl); (· rfl); (· rfl))
      | ((with_reducible apply A_load); (· rfl); (· rfl); (· rfl); (· first | exact get_own rfl | assumption | exact get_old (by assumption)); (· first | rfl | assumption); (· first | rfl | exact map_get (by assumption) | assumption); (· rfl))
      | ((with_reducible apply A_loadI); (· rfl); (· rfl); (· rfl); (· first | rfl | exact map_get (by assumption) | assumption); (· rfl))
      | ((with_reducible apply A_at); (· rfl); (· rfl); (· rfl); (· rfl); (· rfl); (· rfl); (· first | rfl | exact map_get (by assumption) | assumption); (· rfl))
      | ((with_reducible apply A_atS); (· rfl); (· rfl); (· rfl); (· rfl); (· rfl); (· rfl); (· first | exact get_own rfl | assumption | exact get_old (by assumption)); (· first | rfl | assumption); (· first | rfl | exact map_get (by assumption) | assumption); (· rfl))
      | ((with_reducible apply WX_store); (· rfl); (· rfl); (· rfl); (· first | exact get_own rfl | assumption | exact get_old (by assumption)); (· first | rfl | assumption); (· first | rfl | exact map_get (by assumption) | assumption); (· rfl); (· rfl); (· exact Nat.le_of_ble_eq_true rfl); (· rfl); (· first | exact set_own | exact set_old (by assumption)))
      | ((with_reducible apply WX_make); (· rfl); (· rfl); (· rfl); (· rfl); (· rfl); (· rfl); (· rfl); (· rfl); (· first | decide | assumption); (· rfl); (· first | (simp only [List.length_cons, List.length_nil, Nat.reduceAdd]; rfl) | rfl); (· first | (simp only [List.nil_append, List.cons_append]; rfl) | rfl))
      | ((with_reducible apply A_shl); (· rfl); (· rfl); (· rfl); (· first | decide | assumption | omega))
      | ((with_reducible apply A_shr); (· rfl); (· rfl); (· rfl); (· first | decide | assumption | omega))
      | ((with_reducible apply A_quo); (· rfl); (· rfl); (· rfl); (· rfl); (· first | decide | assumption | omega))
      | ((with_reducible apply A_rem); (· rfl); (· rfl); (· rfl); (· rfl); (· first | decide | assumption | omega))
      | ((with_reducible apply A_str); (· rfl); (· rfl))
      | ((with_reducible apply A_tup); (· rfl); (· rfl))
      | ((with_reducible apply A_nils); (· rfl); (· rfl))
      | ((with_reducible apply A_map); (· rfl); (· rfl))
      | ((with_reducible apply A_nilptr); (· rfl); (· rfl))
      | ((with_reducible apply A_nilfn); (· rfl); (· rfl))
      | ((with_reducible apply A_nilmap); (· rfl); (· rfl))
      | ((with_reducible apply A_gp); (· rfl); (· rfl))
      | ((with_reducible apply D_no); (· rfl))
      | ((with_reducible apply D_int); (· rfl); (· rfl); (· rfl))
      | ((with_reducible apply D_true); (· rfl); (· rfl); (· rfl))
      | ((with_reducible apply D_false); (· rfl); (· rfl); (· rfl))
      | ((with_reducible apply D_splitP); (· rfl); (· rfl); (· with_reducible rfl))
      | ((with_reducible apply D_split); (· rfl); (· rfl))
      | ((with_reducible apply D_bool); (· rfl); (· rfl); (· rfl))
      | ((with_reducible apply D_lst); (· rfl); (· rfl); (· rfl))
      | ((with_reducible apply D_iptr); (· rfl); (· rfl); (· rfl))
      | ((with_reducible apply D_agg); (· rfl); (· rfl); (· rfl))
      | ((with_reducible apply D_ptr); (· rfl); (· rfl); (· rfl))
      | ((with_reducible apply D_fn); (· rfl); (· rfl); (· rfl))
      | ((with_reducible apply D_sl); (· rfl); (· rfl); (· rfl))
      | ((with_reducible apply D_load); (· rfl); (· rfl); (· rfl); (· first | exact get_own rfl | assumption | exact get_old (by assumption)); (· first | rfl | assumption); (· first | rfl | exact map_get (by assumption) | assumption); (· rfl))
      | ((with_reducible apply D_loadI); (· rfl); (· rfl); (· rfl); (· first | rfl | exact map_get (by assumption) | assumption); (· rfl))
      | ((with_reducible apply D_at); (· rfl); (· rfl); (· rfl); (· rfl); (· rfl); (· rfl); (· first | rfl | exact map_get (by assumption) | assumption); (· rfl))
      | ((with_reducible apply D_atS); (· rfl); (· rfl); (· rfl); (· rfl); (· rfl); (· rfl); (· first | exact get_own rfl | assumption | exact get_old (by assumption)); (· first | rfl | assumption); (· first | rfl | exact map_get (by assumption) | assumption); (· rfl))
      | ((with_reducible apply D_shl); (· rfl); (· rfl); (· rfl); (· first | decide | assumption | omega))
      | ((with_reducible apply D_shr); (· rfl); (· rfl); (· rfl); (· first | decide | assumption | omega))
      | ((with_reducible apply D_quo); (· rfl); (· rfl); (· rfl); (· rfl); (· first | decide | assumption | omega))
      | ((with_reducible apply D_rem); (· rfl); (· rfl); (· rfl); (· rfl); (· first | decide | assumption | omega))
      | ((with_reducible apply D_str); (· rfl); (· rfl); (· rfl))
      | ((with_reducible apply D_tup); (· rfl); (· rfl); (· rfl))
      | ((with_reducible apply D_nils); (· rfl); (· rfl); (· rfl))
      | ((with_reducible apply D_map); (· rfl); (· rfl); (· rfl))
      | ((with_reducible apply D_nilptr); (· rfl); (· rfl); (· rfl))
      | ((with_reducible apply D_nilfn); (· rfl); (· rfl); (· rfl))
      | ((with_reducible apply D_nilmap); (· rfl); (· rfl); (· rfl))
      | ((with_reducible apply D_gp); (· rfl); (· rfl); (· rfl))
      | (with_reducible intro hc)
      | ((with_reducible apply W_condT); (· rfl))
      | ((with_reducible apply W_condF); (· rfl))
      | ((with_reducible apply W_cond2); (· rfl); (· with_reducible rfl))
      | ((with_reducible apply W_cond1); (· rfl)))
    · refine ret_bool ret_not rfl rfl ?_
      have h1 : setG xs[i] = false := by simp [setG] at hc ⊢; omega
      rw [hpre, hstep, h1]; rfl
    · refine ret_bool ret_not rfl rfl ?_
      have h1 : hasI xs[i] i = false := by simpa using hc
      rw [hpre, hstep, h1]; simp
    · rename_i _ hset
      have h1 : hasI xs[i] i = true := by simpa using hc
      have h2 : setG xs[i] = true := by simp [setG] at hset ⊢; omega
      refine ⟨_, ?_, _, i + 1, by omega, rfl, ?_, at_mk ⟨rfl, rfl, rfl, ?_, trivial⟩, rfl⟩
      · omega
      · rw [hpre, hstep, h1, h2]; rfl
      · show HV.int _ _ = _
        rw [i64_id (by omega) (by omega)]; rfl
    · omega
  · have hie : i = xs.length := by omega
    subst hie
    repeat' (first
      | with_reducible apply Then_norm
      | with_reducible apply Then_ret
      | with_reducible apply Then_exit
      | with_reducible apply InB_norm
      | with_reducible apply InB_ret
      | with_reducible apply InB_exit
      | with_reducible apply W_seq
      | with_reducible apply W_reg
      | with_reducible apply W_ret
      | with_reducible apply W_skip
      | with_reducible apply W_exit
      | with_reducible apply W_block
      | with_reducible apply WX_nil
      | ((with_reducible apply InB_other); rfl)
      | ((with_reducible apply W_regL); (· first | (simp only [List.length_cons, List.length_nil, Nat.reduceAdd]; rfl) | rfl))
      | ((with_reducible apply A_no); (· rfl))
      | ((with_reducible apply WX_alloc); (· rfl); (· rfl); (· first | (simp only [List.length_cons, List.length_nil, Nat.reduceAdd]; rfl) | rfl); (· first | (simp only [List.nil_append, List.cons_append]; rfl) | rfl))
      | ((with_reducible apply WX_box); (· rfl); (· rfl); (· first | (simp only [List.length_cons, List.length_nil, Nat.reduceAdd]; rfl) | rfl); (· first | (simp only [List.nil_append, List.cons_append]; rfl) | rfl))
      | ((with_reducible apply A_int); (· rfl); (· rfl))
      | ((with_reducible apply A_true); (· rfl); (· rfl))
      | ((with_reducible apply A_false); (· rfl); (· rfl))
      | ((with_reducible apply A_splitP); (· rfl); (· rfl); (· with_reducible rfl))
      | ((with_reducible apply A_split); (· rfl); (· rfl))
      | ((with_reducible apply A_bool); (· rfl); (· rfl))
      | ((with_reducible apply A_lst); (· rfl); (· rfl))
      | ((with_reducible apply A_iptr); (· rfl); (· rfl))
      | ((with_reducible apply A_agg); (· rfl); (· rfl))
      | ((with_reducible apply A_ptr); (· rfl); (· rfl))
      | ((with_reducible apply A_fn); (· rfl); (· rfl))
      | ((with_reducible apply A_sl); (· rfl); (· rfl))
      | ((with_reducible apply A_load); (· rfl); (· rfl); (· rfl); (· first | exact get_own rfl | assumption | exact get_old (by assumption)); (· first | rfl | assumption); (· first | rfl | exact map_get (by assumption) | assumption); (· rfl))
      | ((with_reducible apply A_loadI); (· rfl); (· rfl); (· rfl); (· first | rfl | exact map_get (by assumption) | assumption); (· rfl))
      | ((with_reducible apply A_at); (· rfl); (· rfl); (· rfl); (· rfl); (· rfl); (· rfl); (· first | rfl | exact map_get (by assumption) | assumption); (· rfl))
      | ((with_reducible apply A_atS); (· rfl); (· rfl); (· rfl); (· rfl); (· rfl); (· rfl); (· first | exact get_own rfl | assumption | exact get_old (by assumption)); (· first | rfl | assumption); (· first | rfl | exact map_get (by assumption) | assumption); (· rfl))
      | ((with_reducible apply WX_store); (· rfl); (· rfl); (· rfl); (· first | exact get_own rfl | assumption | exact get_old (by assumption)); (· first | rfl | assumption); (· first | rfl | exact map_get (by assumption) | assumption); (· rfl); (· rfl); (· exact Nat.le_of_ble_eq_true rfl); (· rfl); (· first | exact set_own | exact set_old (by assumption)))
      | ((with_reducible apply WX_make); (· rfl); (· rfl); (· rfl); (· rfl); (· rfl); (· rfl); (· rfl); (· rfl); (· first | decide | assumption); (· rfl); (· first | (simp only [List.length_cons, List.length_nil, Nat.reduceAdd]; rfl) | rfl); (· first | (simp only [List.nil_append, List.cons_append]; rfl) | rfl))
      | ((with_reducible apply A_shl); (· rfl); (· rfl); (· rfl); (· first | decide | assumption | omega))
      | ((with_reducible apply A_shr); (· rfl); (· rfl); (· rfl); (· first | decide | assumption | omega))
      | ((with_reducible apply A_quo); (· rfl); (· rfl); (· rfl); (· rfl); (· first | decide | assumption | omega))
      | ((with_reducible apply A_rem); (· rfl); (· rfl); (· rfl); (· rfl); (· first | decide | assumption | omega))
      | ((with_reducible apply A_str); (· rfl); (· rfl))
      | ((with_reducible apply A_tup); (· rfl); (· rfl))
      | ((with_reducible apply A_nils); (· rfl); (· rfl))
      | ((with_reducible apply A_map); (· rfl); (· rfl))
      | ((with_reducible apply A_nilptr); (· rfl); (· rfl))
      | ((with_reducible apply A_nilfn); (· rfl); (· rfl))
      | ((with_reducible apply A_nilmap); (· rfl); (· rfl))
      | ((with_reducible apply A_gp); (· rfl); (· rfl))
      | ((with_reducible apply D_no); (· rfl))
      | ((with_reducible apply D_int); (· rfl); (· rfl); (· rfl))
      | ((with_reducible apply D_true); (· rfl); (· rfl); (· rfl))
      | ((with_reducible apply D_false); (· rfl); (· rfl); (· rfl))
      | ((with_reducible apply D_splitP); (· rfl); (· rfl); (· with_reducible rfl))
      | ((with_reducible apply D_split); (· rfl); (· rfl))
      | ((with_reducible apply D_bool); (· rfl); (· rfl); (· rfl))
      | ((with_reducible apply D_lst); (· rfl); (· rfl); (· rfl))
      | ((with_reducible apply D_iptr); (· rfl); (· rfl); (· rfl))
      | ((with_reducible apply D_agg); (· rfl); (· rfl); (· rfl))
      | ((with_reducible apply D_ptr); (· rfl); (· rfl); (· rfl))
      | ((with_reducible apply D_fn); (· rfl); (· rfl); (· rfl))
      | ((with_reducible apply D_sl); (· rfl); (· rfl); (· rfl))
      | ((with_reducible apply D_load); (· rfl); (· rfl); (· rfl); (· first | exact get_own rfl | assumption | exact get_old (by assumption)); (· first | rfl | assumption); (· first | rfl | exact map_get (by assumption) | assumption); (· rfl))
      | ((with_reducible apply D_loadI); (· rfl); (· rfl); (· rfl); (· first | rfl | exact map_get (by assumption) | assumption); (· rfl))
      | ((with_reducible apply D_at); (· rfl); (· rfl); (· rfl); (· rfl); (· rfl); (· rfl); (· first | rfl | exact map_get (by assumption) | assumption); (· rfl))
      | ((with_reducible apply D_atS); (· rfl); (· rfl); (· rfl); (· rfl); (· rfl); (· rfl); (· first | exact get_own rfl | assumption | exact get_old (by assumption)); (· first | rfl | assumption); (· first | rfl | exact map_get (by assumption) | assumption); (· rfl))
      | ((with_reducible apply D_shl); (· rfl); (· rfl); (· rfl); (· first | decide | assumption | omega))
      | ((with_reducible apply D_shr); (· rfl); (· rfl); (· rfl); (· first | decide | assumption | omega))
      | ((with_reducible apply D_quo); (· rfl); (· rfl); (· rfl); (· rfl); (· first | decide | assumption | omega))
      | ((with_reducible apply D_rem); (· rfl); (· rfl); (· rfl); (· rfl); (· first | decide | assumption | omega))
      | ((with_reducible apply D_str); (· rfl); (· rfl); (· rfl))
      | ((with_reducible apply D_tup); (· rfl); (· rfl); (· rfl))
      | ((with_reducible apply D_nils); (· rfl); (· rfl); (· rfl))
      | ((with_reducible apply D_map); (· rfl); (· rfl); (· rfl))
      | ((with_reducible apply D_nilptr); (· rfl); (· rfl); (· rfl))
      | ((with_reducible apply D_nilfn); (· rfl); (· rfl); (· rfl))
      | ((with_reducible apply D_nilmap); (· rfl); (· rfl); (· rfl))
      | ((with_reducible apply D_gp); (· rfl); (· rfl); (· rfl))
      | (with_reducible intro hc)
      | ((with_reducible apply W_condT); (· rfl))
      | ((with_reducible apply W_condF); (· rfl))
      | ((with_reducible apply W_cond2); (· rfl); (· with_reducible rfl))
      | ((with_reducible apply W_cond1); (· rfl)))
    · omega
    · refine ret_bool ret_not rfl rfl ?_
      rw [hpre, List.drop_length]
      rw [Bool.eq_iff_iff]; simp [okI]; omega

def badI (xs : List Int) (h bad : Int) : Bool := okI 0 xs && xs.length == 3 && decide (0 ≤ h ∧ h ≤ 2) && setG bad && (IntKind.i64.wrap (BitVec.ofInt 64 (xs.getD h.toNat 0) &&& BitVec.ofInt 64 bad).toNat == 0)
theorem c6 (xs hs ds : List Int) (h bad : Int) (S : St) (hl : xs.length ≤ maxLen) : Ev Y 6 [P3 xs hs ds, I h, I bad] S (.bool (badI xs h bad)) S := by
  refine Ev_start (fn := Try.f6) rfl rfl (Nat.le_of_ble_eq_true rfl) ?_
  by_cases hh : 0 ≤ h ∧ h ≤ 2 ∧ xs.length = 3
  · obtain ⟨j, rfl⟩ := Int.eq_ofNat_of_zero_le hh.1
    have hx1 : xs[j]? = some (xs[j]'(by omega)) := by simp
    repeat' (first
      | with_reducible apply Then_norm
      | with_reducible apply Then_ret
      | with_reducible apply Then_exit
      | with_reducible apply InB_norm
      | with_reducible apply InB_ret
      | with_reducible apply InB_exit
      | with_reducible apply W_seq
      | with_reducible apply W_reg
      | with_reducible apply W_ret
      | with_reducible apply W_skip
      | with_reducible apply W_exit
      | with_reducible apply W_block
      | with_reducible apply WX_nil
      | ((with_reducible apply InB_other); rfl)
      | ((with_reducible apply W_regL); (· first | (simp only [List.length_cons, List.length_nil, Nat.reduceAdd]; rfl) | rfl))
      | ((with_reducible apply WX_call); (· rfl); (· rfl); (· rfl); (· rfl); (· first | exact c15 _ _ (by assumption) | exact c16 _ _ | exact c17 _ _))
      | ((with_reducible apply D_call); (· rfl); (· rfl); (· rfl); (· rfl); (· first | exact c15 _ _ (by assumption) | exact c16 _ _ | exact c17 _ _))
      | ((with_reducible apply A_no); (· rfl))
      | ((with_reducible apply WX_alloc); (· rfl); (· rfl); (· first | (simp only [List.length_cons, List.length_nil, Nat.reduceAdd]; rfl) | rfl); (· first | (simp only [List.nil_append, List.cons_append]; rfl) | rfl))
      | ((with_reducible apply WX_box); (· rfl); (· rfl); (· first | (simp only [List.length_cons, List.length_nil, Nat.reduceAdd]; rfl) | rfl); (· first | (simp only [List.nil_append, List.cons_append]; rfl) | rfl))
      | ((with_reducible apply A_int); (· rfl); (· rfl))
      | ((with_reducible apply A_true); (· rfl); (· rfl))
      | ((with_reducible apply A_false); (· rfl); (· rfl))
      | ((with_reducible apply A_splitP); (· rfl); (· rfl); (· with_reducible rfl))
      | ((with_reducible apply A_split); (· rfl); (· rfl))
      | ((with_reducible apply A_bool); (· rfl); (· rfl))
      | ((with_reducible apply A_lst); (· rfl); (· rfl))
      | ((with_reducible apply A_iptr); (· rfl); (· rfl))
      | ((with_reducible apply A_agg); (· rfl); (· rfl))
      | ((with_reducible apply A_ptr); (· rfl); (· rfl))
      | ((with_reducible apply A_fn); (· rfl); (· rfl))
      | ((with_reducible apply A_sl); (· rfl); (· rfl))
      | ((with_reducible apply A_load); (· rfl); (· rfl); (· rfl); (· first | exact get_own rfl | assumption | exact get_old (by assumption)); (· first | rfl | assumption); (· first | rfl | exact map_get (by assumption) | assumption); (· rfl))
      | ((with_reducible apply A_loadI); (· rfl); (· rfl); (· rfl); (· first | rfl | exact map_get (by assumption) | assumption); (· rfl))
      | ((with_reducible apply A_at); (· rfl); (· rfl); (· rfl); (· rfl); (· rfl); (· rfl); (· first | rfl | exact map_get (by assumption) | assumption); (· rfl))
      | ((with_reducible apply A_atS); (· rfl); (· rfl); (· rfl); (· rfl); (· rfl); (· rfl); (· first | exact get_own rfl | assumption | exact get_old (by assumption)); (· first | rfl | assumption); (· first | rfl | exact map_get (by assumption) | assumption); (· rfl))
      | ((with_reducible apply WX_store); (· rfl); (· rfl); (· rfl); (· first | exact get_own rfl | assumption | exact get_old (by assumption)); (· first | rfl | assumption); (· first | rfl | exact map_get (by assumption) | assumption); (· rfl); (· rfl); (· exact Nat.le_of_ble_eq_true rfl); (· rfl); (· first | exact set_own | exact set_old (by assumption)))
      | ((with_reducible apply WX_make); (· rfl); (· rfl); (· rfl); (· rfl); (· rfl); (· rfl); (· rfl); (· rfl); (· first | decide | assumption); (· rfl); (· first | (simp only [List.length_cons, List.length_nil, Nat.reduceAdd]; rfl) | rfl); (· first | (simp only [List.nil_append, List.cons_append]; rfl) | rfl))
      | ((with_reducible apply A_shl); (· rfl); (· rfl); (· rfl); (· first | decide | assumption | omega))
      | ((with_reducible apply A_shr); (· rfl); (· rfl); (· rfl); (· first | decide | assumption | omega))
      | ((with_reducible apply A_quo); (· rfl); (· rfl); (· rfl); (· rfl); (· first | decide | assumption | omega))
      | ((with_reducible apply A_rem); (· rfl); (· rfl); (· rfl); (· rfl); (· first | decide | assumption | omega))
      | ((with_reducible apply A_str); (· rfl); (· rfl))
      | ((with_reducible apply A_tup); (· rfl); (· rfl))
      | ((with_reducible apply A_nils); (· rfl); (· rfl))
      | ((with_reducible apply A_map); (· rfl); (· rfl))
      | ((with_reducible apply A_nilptr); (· rfl); (· rfl))
      | ((with_reducible apply A_nilfn); (· rfl); (· rfl))
      | ((with_reducible apply A_nilmap); (· rfl); (· rfl))
      | ((with_reducible apply A_gp); (· rfl); (· rfl))
      | ((with_reducible apply D_no); (· rfl))
      | ((with_reducible apply D_int); (· rfl); (· rfl); (· rfl))
      | ((with_reducible apply D_true); (· rfl); (· rfl); (· rfl))
      | ((with_reducible apply D_false); (· rfl); (· rfl); (· rfl))
      | ((with_reducible apply D_splitP); (· rfl); (· rfl); (· with_reducible rfl))
      | ((with_reducible apply D_split); (· rfl); (· rfl))
      | ((with_reducible apply D_bool); (· rfl); (· rfl); (· rfl))
      | ((with_reducible apply D_lst); (· rfl); (· rfl); (· rfl))
      | ((with_reducible apply D_iptr); (· rfl); (· rfl); (· rfl))
      | ((with_reducible apply D_agg); (· rfl); (· rfl); (· rfl))
      | ((with_reducible apply D_ptr); (· rfl); (· rfl); (· rfl))
      | ((with_reducible apply D_fn); (· rfl); (· rfl); (· rfl))
      | ((with_reducible apply D_sl); (· rfl); (· rfl); (· rfl))
      | ((with_reducible apply D_load); (· rfl); (· rfl); (· rfl); (· first | exact get_own rfl | assumption | exact get_old (by assumption)); (· first | rfl | assumption); (· first | rfl | exact map_get (by assumption) | assumption); (· rfl))
      | ((with_reducible apply D_loadI); (· rfl); (· rfl); (· rfl); (· first | rfl | exact map_get (by assumption) | assumption); (· rfl))
      | ((with_reducible apply D_at); (· rfl); (· rfl); (· rfl); (· rfl); (· rfl); (· rfl); (· first | rfl | exact map_get (by assumption) | assumption); (· rfl))
      | ((with_reducible apply D_atS); (· rfl); (· rfl); (· rfl); (· rfl); (· rfl); (· rfl); (· first | exact get_own rfl | assumption | exact get_old (by assumption)); (· first | rfl | assumption); (· first | rfl | exact map_get (by assumption) | assumption); (· rfl))
      | ((with_reducible apply D_shl); (· rfl); (· rfl); (· rfl); (· first | decide | assumption | omega))
      | ((with_reducible apply D_shr); (· rfl); (· rfl); (· rfl); (· first | decide | assumption | omega))
      | ((with_reducible apply D_quo); (· rfl); (· rfl); (· rfl); (· rfl); (· first | decide | assumption | omega))
      | ((with_reducible apply D_rem); (· rfl); (· rfl); (· rfl); (· rfl); (· first | decide | assumption | omega))
      | ((with_reducible apply D_str); (· rfl); (· rfl); (· rfl))
      | ((with_reducible apply D_tup); (· rfl); (· rfl); (· rfl))
      | ((with_reducible apply D_nils); (· rfl); (· rfl); (· rfl))
      | ((with_reducible apply D_map); (· rfl); (· rfl); (· rfl))
      | ((with_reducible apply D_nilptr); (· rfl); (· rfl); (· rfl))
      | ((with_reducible apply D_nilfn); (· rfl); (· rfl); (· rfl))
      | ((with_reducible apply D_nilmap); (· rfl); (· rfl); (· rfl))
      | ((with_reducible apply D_gp); (· rfl); (· rfl); (· rfl))
      | (with_reducible intro hc)
      | ((with_reducible apply W_condT); (· rfl))
      | ((with_reducible apply W_condF); (· rfl))
      | ((with_reducible apply W_cond2); (· rfl); (· with_reducible rfl))
      | ((with_reducible apply W_cond1); (· rfl)))
    · refine ret_bool ret_not rfl rfl ?_
      have h4 : decide (0 ≤ (j : Int) ∧ (j : Int) ≤ 2) = true := by simp; omega
      have h5 : setG bad = true := by simp [setG]; omega
      have h6 : xs.getD (Int.toNat (j : Int)) 0 = xs[j]'(by omega) := by rw [Int.toNat_natCast, List.getD_eq_getElem?_getD, hx1]; rfl
      have h7 : (okI 0 xs && xs.length == 3) = true := by assumption
      simp only [badI, h4, h5, h6, h7, Bool.true_and]; rfl
    all_goals (refine ret_bool ret_not rfl rfl ?_; first | (simp_all [badI, setG]; done) | (simp_all [badI, setG]; intros; omega))
  · repeat' (first
      | with_reducible apply Then_norm
      | with_reducible apply Then_ret
      | with_reducible apply Then_exit
      | with_reducible apply InB_norm
      | with_reducible apply InB_ret
      | with_reducible apply InB_exit
      | with_reducible apply W_seq
      | with_reducible apply W_reg
      | with_reducible apply W_ret
      | with_reducible apply W_skip
      | with_reducible apply W_exit
      | with_reducible apply W_block
      | with_reducible apply WX_nil
      | ((with_reducible apply InB_other); rfl)
      | ((with_reducible apply W_regL); (· first | (simp only [List.length_cons, List.length_nil, Nat.reduceAdd]; rfl) | rfl))
      | ((with_reducible apply WX_call); (· rfl); (· rfl); (· rfl); (· rfl); (· first | exact c15 _ _ (by assumption) | exact c16 _ _ | exact c17 _ _))
      | ((with_reducible apply D_call); (· rfl); (· rfl); (· rfl); (· rfl); (· first | exact c15 _ _ (by assumption) | exact c16 _ _ | exact c17 _ _))
      | ((with_reducible apply A_no); (· rfl))
      | ((with_reducible apply WX_alloc); (· rfl); (· rfl); (· first | (simp only [List.length_cons, List.length_nil, Nat.reduceAdd]; rfl) | rfl); (· first | (simp only [List.nil_append, List.cons_append]; rfl) | rfl))
      | ((with_reducible apply WX_box); (· rfl); (· rfl); (· first | (simp only [List.length_cons, List.length_nil, Nat.reduceAdd]; rfl) | rfl); (· first | (simp only [List.nil_append, List.cons_append]; rfl) | rfl))
      | ((with_reducible apply A_int); (· rfl); (· rfl))
      | ((with_reducible apply A_true); (· rfl); (· rfl))
      | ((with_reducible apply A_false); (· rfl); (· rfl))
      | ((with_reducible apply A_splitP); (· rfl); (· rfl); (· with_reducible rfl))
      | ((with_reducible apply A_split); (· rfl); (· rfl))
      | ((with_reducible apply A_bool); (· rfl); (· rfl))
      | ((with_reducible apply A_lst); (· rfl); (· rfl))
      | ((with_reducible apply A_iptr); (· rfl); (· rfl))
      | ((with_reducible apply A_agg); (· rfl); (· rfl))
      | ((with_reducible apply A_ptr); (· rfl); (· rfl))
      | ((with_reducible apply A_fn); (· rfl); (· rfl))
      | ((with_reducible apply A_sl); (· rfl); (· rfl))
      | ((with_reducible apply A_load); (· rfl); (· rfl); (· rfl); (· first | exact get_own rfl | assumption | exact get_old (by assumption)); (· first | rfl | assumption); (· first | rfl | exact map_get (by assumption) | assumption); (· rfl))
      | ((with_reducible apply A_loadI); (· rfl); (· rfl); (· rfl); (· first | rfl | exact map_get (by assumption) | assumption); (· rfl))
      | ((with_reducible apply A_at); (· rfl); (· rfl); (· rfl); (· rfl); (· rfl); (· rfl); (· first | rfl | exact map_get (by assumption) | assumption); (· rfl))
      | ((with_reducible apply A_atS); (· rfl); (· rfl); (· rfl); (· rfl); (· rfl); (· rfl); (· first | exact get_own rfl | assumption | exact get_old (by assumption)); (· first | rfl | assumption); (· first | rfl | exact map_get (by assumption) | assumption); (· rfl))
      | ((with_reducible apply WX_store); (· rfl); (· rfl); (· rfl); (· first | exact get_own rfl | assumption | exact get_old (by assumption)); (· first | rfl | assumption); (· first | rfl | exact map_get (by assumption) | assumption); (· rfl); (· rfl); (· exact Nat.le_of_ble_eq_true rfl); (· rfl); (· first | exact set_own | exact set_old (by assumption)))
      | ((with_reducible apply WX_make); (· rfl); (· rfl); (· rfl); (· rfl); (· rfl); (· rfl); (· rfl); (· rfl); (· first | decide | assumption); (· rfl); (· first | (simp only [List.length_cons, List.length_nil, Nat.reduceAdd]; rfl) | rfl); (· first | (simp only [List.nil_append, List.cons_append]; rfl) | rfl))
      | ((with_reducible apply A_shl); (· rfl); (· rfl); (· rfl); (· first | decide | assumption | omega))
      | ((with_reducible apply A_shr); (· rfl); (· rfl); (· rfl); (· first | decide | assumption | omega))
      | ((with_reducible apply A_quo); (· rfl); (· rfl); (· rfl); (· rfl); (· first | decide | assumption | omega))
      | ((with_reducible apply A_rem); (· rfl); (· rfl); (· rfl); (· rfl); (· first | decide | assumption | omega))
      | ((with_reducible apply A_str); (· rfl); (· rfl))
      | ((with_reducible apply A_tup); (· rfl); (· rfl))
      | ((with_reducible apply A_nils); (· rfl); (· rfl))
      | ((with_reducible apply A_map); (· rfl); (· rfl))
      | ((with_reducible apply A_nilptr); (· rfl); (· rfl))
      | ((with_reducible apply A_nilfn); (· rfl); (· rfl))
      | ((with_reducible apply A_nilmap); (· rfl); (· rfl))
      | ((with_reducible apply A_gp); (· rfl); (· rfl))
      | ((with_reducible apply D_no); (· rfl))
      | ((with_reducible apply D_int); (· rfl); (· rfl); (· rfl))
      | ((with_reducible apply D_true); (· rfl); (· rfl); (· rfl))
      | ((with_reducible apply D_false); (· rfl); (· rfl); (· rfl))
      | ((with_reducible apply D_splitP); (· rfl); (· rfl); (· with_reducible rfl))
      | ((with_reducible apply D_split); (· rfl); (· rfl))
      | ((with_reducible apply D_bool); (· rfl); (· rfl); (· rfl))
      | ((with_reducible apply D_lst); (· rfl); (· rfl); (· rfl))
      | ((with_reducible apply D_iptr); (· rfl); (· rfl); (· rfl))
      | ((with_reducible apply D_agg); (· rfl); (· rfl); (· rfl))
      | ((with_reducible apply D_ptr); (· rfl); (· rfl); (· rfl))
      | ((with_reducible apply D_fn); (· rfl); (· rfl); (· rfl))
      | ((with_reducible apply D_sl); (· rfl); (· rfl); (· rfl))
      | ((with_reducible apply D_load); (· rfl); (· rfl); (· rfl); (· first | exact get_own rfl | assumption | exact get_old (by assumption)); (· first | rfl | assumption); (· first | rfl | exact map_get (by assumption) | assumption); (· rfl))
      | ((with_reducible apply D_loadI); (· rfl); (· rfl); (· rfl); (· first | rfl | exact map_get (by assumption) | assumption); (· rfl))
      | ((with_reducible apply D_at); (· rfl); (· rfl); (· rfl); (· rfl); (· rfl); (· rfl); (· first | rfl | exact map_get (by assumption) | assumption); (· rfl))
      | ((with_reducible apply D_atS); (· rfl); (· rfl); (· rfl); (· rfl); (· rfl); (· rfl); (· first | exact get_own rfl | assumption | exact get_old (by assumption)); (· first | rfl | assumption); (· first | rfl | exact map_get (by assumption) | assumption); (· rfl))
      | ((with_reducible apply D_shl); (· rfl); (· rfl); (· rfl); (· first | decide | assumption | omega))
      | ((with_reducible apply D_shr); (· rfl); (· rfl); (· rfl); (· first | decide | assumption | omega))
      | ((with_reducible apply D_quo); (· rfl); (· rfl); (· rfl); (· rfl); (· first | decide | assumption | omega))
      | ((with_reducible apply D_rem); (· rfl); (· rfl); (· rfl); (· rfl); (· first | decide | assumption | omega))
      | ((with_reducible apply D_str); (· rfl); (· rfl); (· rfl))
      | ((with_reducible apply D_tup); (· rfl); (· rfl); (· rfl))
      | ((with_reducible apply D_nils); (· rfl); (· rfl); (· rfl))
      | ((with_reducible apply D_map); (· rfl); (· rfl); (· rfl))
      | ((with_reducible apply D_nilptr); (· rfl); (· rfl); (· rfl))
      | ((with_reducible apply D_nilfn); (· rfl); (· rfl); (· rfl))
      | ((with_reducible apply D_nilmap); (· rfl); (· rfl); (· rfl))
      | ((with_reducible apply D_gp); (· rfl); (· rfl); (· rfl))
      | (with_reducible intro hc)
      | ((with_reducible apply W_condT); (· rfl))
      | ((with_reducible apply W_condF); (· rfl))
      | ((with_reducible apply W_cond2); (· rfl); (· with_reducible rfl))
      | ((with_reducible apply W_cond1); (· rfl)))
    · exfalso
      rename_i h1 h2
      simp at h1
      exact hh ⟨h2.1, h2.2, h1.2⟩
    all_goals (refine ret_bool ret_not rfl rfl ?_; first | (simp_all [badI, setG]; done) | (simp_all [badI, setG]; intros; omega))
end Go.Proofs.XT
