/- What the functions that the statement reaches do, part 4 of 6: the canonical machine on which they are run, and their contracts. Conditions: none. -/
import Derived.Test.YtbmeikhhfjefoaaA3
set_option linter.all false
section
namespace Go.Proofs.X
open Go Go.Proofs.XVai Go.Proofs Go.Proofs.XN
set_option linter.unusedVariables false
set_option linter.unusedSimpArgs false
set_option maxHeartbeats 4000000
abbrev wrow (w : Int × Int) : List HV := [I w.1, I w.2]
abbrev WS (ws : List (Int × Int)) : HV := .lst (ws.map wrow)
abbrev RN (nums : List Int) (ws ss : List (Int × Int)) : HV := .agg [L nums, WS ws, WS ss]
theorem wrow_pure (l : List (Int × Int)) : (l.map wrow).all (fun r => r.all pureC) = true := by simp [pureC]
theorem irow1 (l : List Int) : (l.map irow).all (fun r => r.length == 1) = true := by simp
theorem brow1 (l : List Bool) : (l.map fun x => [HV.bool x]).all (fun r => r.length == 1) = true := by simp
theorem wrow2 (l : List (Int × Int)) : (l.map wrow).all (fun r => r.length == 2) = true := by simp
def numsOk (ls : List Lab) (ss : Stps) (nums : List Int) : Bool := progOk ls ss && (nums.length == ls.length) && nums.all (fun n => inB n 0 9)
theorem k_spec_NumsOk (ls : List Lab) (ss : Stps) (nums : List Int) (S : St) (hs : ss.sz ≤ 1048576) (hl : ls.length ≤ 1048576) (hn : nums.length ≤ 1048576) : Ev Y spec_NumsOk [PR ls ss, L nums] S (.bool (numsOk ls ss nums)) S := by
  refine E_start (h := ?_)
  repeat' (first | refine c0 ?_ | refine c1 ?_ | refine c2 ?_ | refine c3 ?_ | refine c4 ?_ | refine c5 ?_ | refine c6 (h := ?_) | refine c7 ?_ | refine d2 ?_ | refine c8 ?_ | refine c9 ?_ | refine d0 ?_ | refine d1 ?_ | refine d4 ?_ | refine a0 (hk := ?_) | refine k0 (he := (by first | exact k_spec_ProgOk _ _ _ hs hl)) (hk := ?_) | refine k1 (he := (by first | exact k_spec_ProgOk _ _ _ hs hl)) (hk := ?_) | refine b0 (hk := ?_) | refine b1 (hk := ?_) | refine b2 (hk := ?_) | refine b3 (hk := ?_) | refine b4 (hk := ?_) | refine p1 (hk := ?_) | refine g0' (hk := ?_) | refine a1 (hk := ?_) | refine a2 (hk := ?_) | refine u1 (hk := ?_) | refine u2 (hk := ?_) | refine u3 (hk := ?_) | refine u4 (hk := ?_) | refine a3 (ht := ?_) (hf := ?_) | refine a4 (ht := ?_) (hf := ?_) | refine a5 (hk := ?_) | refine b5 (hk := ?_) | refine b6 (hk := ?_) | refine b8 (hk := ?_) | refine b9 (hk := ?_) | refine b7 (hk := ?_) | refine p0 (hk := ?_) | refine g1 (hw := ?_) | refine g2 (hw := ?_) | refine g3 (hw := ?_) | refine g4 (hw := ?_) | (with_reducible intro hc) | refine d6 (ht := ?_) | refine d7 (hf := ?_) | refine u5 (hk := ?_) | refine u6 (hk := ?_) | refine u7 (hk := ?_) | refine u8 (hk := ?_) | refine d8 (ht := ?_) (hf := ?_) | refine d9 (ht := ?_) (hf := ?_))
  · refine rB (hv := ?_)
    simp at hc
    simp [numsOk, hc]
  · refine rB (hv := ?_)
    have : (nums.length == ls.length) = false := by simp only [List.length_map] at hc; simp at hc ⊢; omega
    simp [numsOk, this]
  · rename_i hp
    have h1 : progOk ls ss = true := by simpa using hp
    have h2 : (nums.length == ls.length) = true := by simp only [List.length_map] at hc; simp at hc ⊢; omega
    refine C_list nums (fun pre r T' S' => ∃ (T0 : Tm) (S1 : St), numsOk ls ss nums = r.all (fun n => inB n 0 9) ∧ Ext S S1 ∧ T' = putL T0 [(1, L nums), (5, I pre.length)] ∧ S' = S1 ++ [])
      ⟨_, _, by simp [numsOk, h1, h2], ex0, at_mk ⟨rfl, rfl, trivial⟩, (List.append_nil _).symm⟩ ?_ ?_
    · rintro pre x r T' S' hx ⟨T0, S1, hq, hE, rfl, rfl⟩
      have hg := mid hx
      have hlt := mid_lt hx
      repeat' (first | refine c0 ?_ | refine c1 ?_ | refine c2 ?_ | refine c3 ?_ | refine c4 ?_ | refine c5 ?_ | refine c6 (h := ?_) | refine c7 ?_ | refine d2 ?_ | refine c8 ?_ | refine c9 ?_ | refine d0 ?_ | refine d1 ?_ | refine d4 ?_ | refine a0 (hk := ?_) | refine k0 (he := (by first | exact k_spec_l6In _ _ _ _)) (hk := ?_) | refine k1 (he := (by first | exact k_spec_l6In _ _ _ _)) (hk := ?_) | refine b0 (hk := ?_) | refine b1 (hk := ?_) | refine b2 (hk := ?_) | refine b3 (hk := ?_) | refine b4 (hk := ?_) | refine p1 (hk := ?_) | refine g0' (hk := ?_) | refine a1 (hk := ?_) | refine a2 (hk := ?_) | refine u1 (hk := ?_) | refine u2 (hk := ?_) | refine u3 (hk := ?_) | refine u4 (hk := ?_) | refine a3 (ht := ?_) (hf := ?_) | refine a4 (ht := ?_) (hf := ?_) | refine a5 (hk := ?_) | refine b5 (hk := ?_) | refine b6 (hk := ?_) | refine b8 (hk := ?_) | refine b9 (hk := ?_) | refine b7 (hk := ?_) | refine p0 (hk := ?_) | refine g1 (hw := ?_) | refine g2 (hw := ?_) | refine g3 (hw := ?_) | refine g4 (hw := ?_) | (with_reducible intro hc) | refine d6 (ht := ?_) | refine d7 (hf := ?_) | refine u5 (hk := ?_) | refine u6 (hk := ?_) | refine u7 (hk := ?_) | refine u8 (hk := ?_) | refine d8 (ht := ?_) (hf := ?_) | refine d9 (ht := ?_) (hf := ?_))
      · refine rBx hE (hv := ?_)
        simp at hc
        simp [hq, hc]
      · refine ⟨_, _, ?_, ex1 hE, at_mk ⟨rfl, inc (by omega), trivial⟩, (List.append_nil _).symm⟩
        simp at hc
        simp [hq, hc]
      · simp at hc; omega
    · rintro T' S' ⟨T0, S1, hq, hE, rfl, rfl⟩
      repeat' (first | refine c0 ?_ | refine c1 ?_ | refine c2 ?_ | refine c3 ?_ | refine c4 ?_ | refine c5 ?_ | refine c6 (h := ?_) | refine c7 ?_ | refine d2 ?_ | refine c8 ?_ | refine c9 ?_ | refine d0 ?_ | refine d1 ?_ | refine d4 ?_ | refine a0 (hk := ?_) | refine b0 (hk := ?_) | refine b1 (hk := ?_) | refine b2 (hk := ?_) | refine b3 (hk := ?_) | refine b4 (hk := ?_) | refine p1 (hk := ?_) | refine g0' (hk := ?_) | refine a1 (hk := ?_) | refine a2 (hk := ?_) | refine u1 (hk := ?_) | refine u2 (hk := ?_) | refine u3 (hk := ?_) | refine u4 (hk := ?_) | refine a3 (ht := ?_) (hf := ?_) | refine a4 (ht := ?_) (hf := ?_) | refine a5 (hk := ?_) | refine b5 (hk := ?_) | refine b6 (hk := ?_) | refine b8 (hk := ?_) | refine b9 (hk := ?_) | refine b7 (hk := ?_) | refine p0 (hk := ?_) | refine g1 (hw := ?_) | refine g2 (hw := ?_) | refine g3 (hw := ?_) | refine g4 (hw := ?_) | (with_reducible intro hc) | refine d6 (ht := ?_) | refine d7 (hf := ?_) | refine u5 (hk := ?_) | refine u6 (hk := ?_) | refine u7 (hk := ?_) | refine u8 (hk := ?_) | refine d8 (ht := ?_) (hf := ?_) | refine d9 (ht := ?_) (hf := ?_))
      · simp at hc
      · exact rBx hE (hv := by rw [hq]; rfl)
def runTo (said : List (Int × Int)) (host : Int) : List Int := (said.filter fun s => s.1 == host).map (·.2)
theorem k_spec_RunTo (nums : List Int) (ws ss : List (Int × Int)) (host : Int) (S : St) (hs : ss.length ≤ 1048576) : Ev Y spec_RunTo [RN nums ws ss, I host] S (L (runTo ss host)) S := by
  refine E_start (h := ?_)
  repeat' (first | refine c0 ?_ | refine c1 ?_ | refine c2 ?_ | refine c3 ?_ | refine c4 ?_ | refine c5 ?_ | refine c6 (h := ?_) | refine c7 ?_ | refine d2 ?_ | refine c8 ?_ | refine c9 ?_ | refine d0 ?_ | refine d1 ?_ | refine d4 ?_ | refine a0 (hk := ?_) | refine b0 (hk := ?_) | refine b1 (hk := ?_) | refine b2 (hk := ?_) | refine b3 (hk := ?_) | refine b4 (hk := ?_) | refine p1 (hk := ?_) | refine g0' (hk := ?_) | refine a1 (hk := ?_) | refine a2 (hk := ?_) | refine u1 (hk := ?_) | refine u2 (hk := ?_) | refine u3 (hk := ?_) | refine u4 (hk := ?_) | refine a3 (ht := ?_) (hf := ?_) | refine a4 (ht := ?_) (hf := ?_) | refine a5 (hk := ?_) | refine b5 (hk := ?_) | refine b6 (hk := ?_) | refine b8 (hk := ?_) | refine b9 (hk := ?_) | refine b7 (hk := ?_) | refine p0 (hk := ?_) | refine g1 (hw := ?_) | refine g2 (hw := ?_) | refine g3 (hw := ?_) | refine g4 (hw := ?_) | (with_reducible intro hc) | refine d6 (ht := ?_) | refine d7 (hf := ?_) | refine u5 (hk := ?_) | refine u6 (hk := ?_) | refine u7 (hk := ?_) | refine u8 (hk := ?_) | refine d8 (ht := ?_) (hf := ?_) | refine d9 (ht := ?_) (hf := ?_))
  refine C_list ss (fun pre r T' S' => ∃ (T0 : Tm) (S1 : St) (d : List Int), runTo ss host = d ++ runTo r host ∧ d.length ≤ pre.length ∧ Ext S S1 ∧ S1[S.length + 0]? = some (.cells false [[L nums, WS ws, WS ss]]) ∧ S1[S.length + 2]? = some (.cells true (d.map irow)) ∧
      T' = putL T0 [(1, I host), (2, .ptr (S.length + 0) 1 0 0), (5, .sl (S.length + 2) d.length), (6, I pre.length)] ∧ S' = S1 ++ [])
    ⟨_, _, [], rfl, by simp, ex0, get_own rfl, get_own rfl, at_mk ⟨rfl, rfl, rfl, rfl, trivial⟩, (List.append_nil _).symm⟩ ?_ ?_
  · rintro pre x r T' S' hx ⟨T0, S1, d, hq, hd, hE, h0, h1, rfl, rfl⟩
    have hg := mid hx
    have hlt := mid_lt hx
    have e1 := irow1 d
    have e2 : (d.map irow).length = d.length := by simp
    have n1 : S.length + 0 ≠ S.length + 2 := by omega
    repeat' (first | refine c0 ?_ | refine c1 ?_ | refine c2 ?_ | refine c3 ?_ | refine c4 ?_ | refine c5 ?_ | refine c6 (h := ?_) | refine c7 ?_ | refine d2 ?_ | refine c8 ?_ | refine c9 ?_ | refine d0 ?_ | refine d1 ?_ | refine d4 ?_ | refine a0 (hk := ?_) | refine b0 (hk := ?_) | refine b1 (hk := ?_) | refine b2 (hk := ?_) | refine b3 (hk := ?_) | refine b4 (hk := ?_) | refine p1 (hk := ?_) | refine g0' (hk := ?_) | refine a1 (hk := ?_) | refine a2 (hk := ?_) | refine u1 (hk := ?_) | refine u2 (hk := ?_) | refine u3 (hk := ?_) | refine u4 (hk := ?_) | refine a3 (ht := ?_) (hf := ?_) | refine a4 (ht := ?_) (hf := ?_) | refine a5 (hk := ?_) | refine b5 (hk := ?_) | refine b6 (hk := ?_) | refine b8 (hk := ?_) | refine b9 (hk := ?_) | refine b7 (hk := ?_) | refine p0 (hk := ?_) | refine g1 (hw := ?_) | refine g2 (hw := ?_) | refine g3 (hw := ?_) | refine g4 (hw := ?_) | (with_reducible intro hc) | refine d6 (ht := ?_) | refine d7 (hf := ?_) | refine u5 (hk := ?_) | refine u6 (hk := ?_) | refine u7 (hk := ?_) | refine u8 (hk := ?_) | refine d8 (ht := ?_) (hf := ?_) | refine d9 (ht := ?_) (hf := ?_))
    · refine ⟨_, _, d ++ [x.2], ?_, by simp; omega, ex1 (ex2 hE (Nat.le_add_right _ _)), get_setN n1 h0, ?_, at_mk ⟨rfl, rfl, ?_, inc (by omega), trivial⟩, (List.append_nil _).symm⟩
      · rw [hq]; simp at hc; simp [runTo, hc]
      · rw [get_set h1, List.map_append]; rfl
      · show HV.sl _ _ = _; simp
    · refine ⟨_, _, d, ?_, by simp; omega, ex1 hE, get_old h0, get_old h1, at_mk ⟨rfl, rfl, rfl, inc (by omega), trivial⟩, (List.append_nil _).symm⟩
      rw [hq]; simp at hc; simp [runTo, hc]
    · simp at hc; omega
  · rintro T' S' ⟨T0, S1, d, hq, hd, hE, h0, h1, rfl, rfl⟩
    repeat' (first | refine c0 ?_ | refine c1 ?_ | refine c2 ?_ | refine c3 ?_ | refine c4 ?_ | refine c5 ?_ | refine c6 (h := ?_) | refine c7 ?_ | refine d2 ?_ | refine c8 ?_ | refine c9 ?_ | refine d0 ?_ | refine d1 ?_ | refine d4 ?_ | refine a0 (hk := ?_) | refine b0 (hk := ?_) | refine b1 (hk := ?_) | refine b2 (hk := ?_) | refine b3 (hk := ?_) | refine b4 (hk := ?_) | refine p1 (hk := ?_) | refine g0' (hk := ?_) | refine a1 (hk := ?_) | refine a2 (hk := ?_) | refine u1 (hk := ?_) | refine u2 (hk := ?_) | refine u3 (hk := ?_) | refine u4 (hk := ?_) | refine a3 (ht := ?_) (hf := ?_) | refine a4 (ht := ?_) (hf := ?_) | refine a5 (hk := ?_) | refine b5 (hk := ?_) | refine b6 (hk := ?_) | refine b8 (hk := ?_) | refine b9 (hk := ?_) | refine b7 (hk := ?_) | refine p0 (hk := ?_) | refine g1 (hw := ?_) | refine g2 (hw := ?_) | refine g3 (hw := ?_) | refine g4 (hw := ?_) | (with_reducible intro hc) | refine d6 (ht := ?_) | refine d7 (hf := ?_) | refine u5 (hk := ?_) | refine u6 (hk := ?_) | refine u7 (hk := ?_) | refine u8 (hk := ?_) | refine d8 (ht := ?_) (hf := ?_) | refine d9 (ht := ?_) (hf := ?_))
    · simp at hc
    · exact rLx hE (hn := by simp) (hp := irow_pure d) (hv := by rw [hq]; simp [runTo])
def runSets (ws : List (Int × Int)) (vars : List Bool) : List (Int × Int) := ws.filter fun w => inB w.1 0 (vars.length - 1) && vars.getD w.1.toNat false
theorem k_spec_RunSets (nums : List Int) (ws ss : List (Int × Int)) (vars : List Bool) (S : St) (hs : ws.length ≤ 1048576) (hv : vars.length ≤ 1048576) : Ev Y spec_RunSets [RN nums ws ss, BL vars] S (WS (runSets ws vars)) S := by
  refine E_start (h := ?_)
  repeat' (first | refine c0 ?_ | refine c1 ?_ | refine c2 ?_ | refine c3 ?_ | refine c4 ?_ | refine c5 ?_ | refine c6 (h := ?_) | refine c7 ?_ | refine d2 ?_ | refine c8 ?_ | refine c9 ?_ | refine d0 ?_ | refine d1 ?_ | refine d4 ?_ | refine a0 (hk := ?_) | refine b0 (hk := ?_) | refine b1 (hk := ?_) | refine b2 (hk := ?_) | refine b3 (hk := ?_) | refine b4 (hk := ?_) | refine p1 (hk := ?_) | refine g0' (hk := ?_) | refine a1 (hk := ?_) | refine a2 (hk := ?_) | refine u1 (hk := ?_) | refine u2 (hk := ?_) | refine u3 (hk := ?_) | refine u4 (hk := ?_) | refine a3 (ht := ?_) (hf := ?_) | refine a4 (ht := ?_) (hf := ?_) | refine a5 (hk := ?_) | refine b5 (hk := ?_) | refine b6 (hk := ?_) | refine b8 (hk := ?_) | refine b9 (hk := ?_) | refine b7 (hk := ?_) | refine p0 (hk := ?_) | refine g1 (hw := ?_) | refine g2 (hw := ?_) | refine g3 (hw := ?_) | refine g4 (hw := ?_) | (with_reducible intro hc) | refine d6 (ht := ?_) | refine d7 (hf := ?_) | refine u5 (hk := ?_) | refine u6 (hk := ?_) | refine u7 (hk := ?_) | refine u8 (hk := ?_) | refine d8 (ht := ?_) (hf := ?_) | refine d9 (ht := ?_) (hf := ?_))
  refine C_list ws (fun pre r T' S' => ∃ (T0 : Tm) (S1 : St) (d : List (Int × Int)), runSets ws vars = d ++ runSets r vars ∧ d.length ≤ pre.length ∧ Ext S S1 ∧ S1[S.length + 0]? = some (.cells false [[L nums, WS ws, WS ss]]) ∧ S1[S.length + 2]? = some (.cells true (d.map wrow)) ∧
      T' = putL T0 [(1, BL vars), (2, .ptr (S.length + 0) 1 0 0), (5, .sl (S.length + 2) d.length), (6, I pre.length)] ∧ S' = S1 ++ [])
    ⟨_, _, [], rfl, by simp, ex0, get_own rfl, get_own rfl, at_mk ⟨rfl, rfl, rfl, rfl, trivial⟩, (List.append_nil _).symm⟩ ?_ ?_
  · rintro pre x r T' S' hx ⟨T0, S1, d, hq, hd, hE, h0, h1, rfl, rfl⟩
    have hg := mid hx
    have hlt := mid_lt hx
    have e1 := wrow2 d
    have e2 : (d.map wrow).length = d.length := by simp
    have n1 : S.length + 0 ≠ S.length + 2 := by omega
    have e3 : IntKind.i64.wrap (((vars.map fun x => [HV.bool x]).length : Int) - 1) = (vars.length : Int) - 1 := by rw [List.length_map, i64_id (by omega) (by omega)]
    have step : runSets (x :: r) vars = (if inB x.1 0 (vars.length - 1) && vars.getD x.1.toNat false then [x] else []) ++ runSets r vars := by
      simp only [runSets, List.filter_cons]; split <;> simp
    by_cases hi : inB x.1 0 ((vars.length : Int) - 1) = true
    · simp only [inB, decide_eq_true_eq] at hi
      obtain ⟨x1, x2⟩ := x
      obtain ⟨j, rfl⟩ := Int.eq_ofNat_of_zero_le hi.1
      have hj : j < vars.length := by simp at hi; omega
      have hgv : vars[j]? = some vars[j] := by simp [hj]
      have hin : inB (j : Int) 0 ((vars.length : Int) - 1) = true := by simp only [inB, decide_eq_true_eq]; omega
      have hgd : vars.getD ((j : Nat) : Int).toNat false = vars[j] := by simp [hj]
      simp only [hin, hgd, Bool.true_and] at step
      have hin' : inB (j : Int) 0 (IntKind.i64.wrap (((vars.map fun x => [HV.bool x]).length : Int) - 1)) = true := by rw [e3]; exact hin
      clear hi e3
      repeat' (first | refine c0 ?_ | refine c1 ?_ | refine c2 ?_ | refine c3 ?_ | refine c4 ?_ | refine c5 ?_ | refine c6 (h := ?_) | refine c7 ?_ | refine d2 ?_ | refine c8 ?_ | refine c9 ?_ | refine d0 ?_ | refine d1 ?_ | refine d4 ?_ | refine a0 (hk := ?_) | refine k0 (he := (by first | exact k_spec_l6In _ _ _ _)) (hk := ?_) | refine k1 (he := (by first | exact k_spec_l6In _ _ _ _)) (hk := ?_) | refine b0 (hk := ?_) | refine b1 (hk := ?_) | refine b2 (hk := ?_) | refine b3 (hk := ?_) | refine b4 (hk := ?_) | refine p1 (hk := ?_) | refine g0' (hk := ?_) | refine a1 (hk := ?_) | refine a2 (hk := ?_) | refine u1 (hk := ?_) | refine u2 (hk := ?_) | refine u3 (hk := ?_) | refine u4 (hk := ?_) | refine a3 (ht := ?_) (hf := ?_) | refine a4 (ht := ?_) (hf := ?_) | refine a5 (hk := ?_) | refine b5 (hk := ?_) | refine b6 (hk := ?_) | refine b8 (hk := ?_) | refine b9 (hk := ?_) | refine b7 (hk := ?_) | refine p0 (hk := ?_) | refine g1 (hw := ?_) | refine g2 (hw := ?_) | refine g3 (hw := ?_) | refine g4 (hw := ?_) | (with_reducible intro hc) | refine d6 (ht := ?_) | refine d7 (hf := ?_) | refine u5 (hk := ?_) | refine u6 (hk := ?_) | refine u7 (hk := ?_) | refine u8 (hk := ?_) | refine d8 (ht := ?_) (hf := ?_) | refine d9 (ht := ?_) (hf := ?_))
      · refine ⟨_, _, d ++ [((j : Int), x2)], ?_, by simp; omega, ex1 (ex2 hE (Nat.le_add_right _ _)), get_setN n1 h0, ?_, at_mk ⟨rfl, rfl, ?_, inc (by omega), trivial⟩, (List.append_nil _).symm⟩
        · rw [hq, step, hc]; simp
        · rw [get_set h1]; simp
        · show HV.sl _ _ = _; simp
      · refine ⟨_, _, d, ?_, by simp; omega, ex1 hE, get_old h0, get_old h1, at_mk ⟨rfl, rfl, rfl, inc (by omega), trivial⟩, (List.append_nil _).symm⟩
        rw [hq, step, hc]; simp
      · simp at hc; omega
    · have hi' : inB x.1 0 ((vars.length : Int) - 1) = false := by simpa using hi
      have hin' : inB x.1 0 (IntKind.i64.wrap (((vars.map fun x => [HV.bool x]).length : Int) - 1)) = false := by rw [e3]; exact hi'
      simp only [hi', Bool.false_and] at step
      clear hi e3
      repeat' (first | refine c0 ?_ | refine c1 ?_ | refine c2 ?_ | refine c3 ?_ | refine c4 ?_ | refine c5 ?_ | refine c6 (h := ?_) | refine c7 ?_ | refine d2 ?_ | refine c8 ?_ | refine c9 ?_ | refine d0 ?_ | refine d1 ?_ | refine d4 ?_ | refine a0 (hk := ?_) | refine k0 (he := (by first | exact k_spec_l6In _ _ _ _)) (hk := ?_) | refine k1 (he := (by first | exact k_spec_l6In _ _ _ _)) (hk := ?_) | refine b0 (hk := ?_) | refine b1 (hk := ?_) | refine b2 (hk := ?_) | refine b3 (hk := ?_) | refine b4 (hk := ?_) | refine p1 (hk := ?_) | refine g0' (hk := ?_) | refine a1 (hk := ?_) | refine a2 (hk := ?_) | refine u1 (hk := ?_) | refine u2 (hk := ?_) | refine u3 (hk := ?_) | refine u4 (hk := ?_) | refine a3 (ht := ?_) (hf := ?_) | refine a4 (ht := ?_) (hf := ?_) | refine a5 (hk := ?_) | refine b5 (hk := ?_) | refine b6 (hk := ?_) | refine b8 (hk := ?_) | refine b9 (hk := ?_) | refine b7 (hk := ?_) | refine p0 (hk := ?_) | refine g1 (hw := ?_) | refine g2 (hw := ?_) | refine g3 (hw := ?_) | refine g4 (hw := ?_) | (with_reducible intro hc) | refine d6 (ht := ?_) | refine d7 (hf := ?_) | refine u5 (hk := ?_) | refine u6 (hk := ?_) | refine u7 (hk := ?_) | refine u8 (hk := ?_) | refine d8 (ht := ?_) (hf := ?_) | refine d9 (ht := ?_) (hf := ?_))
      · refine ⟨_, _, d, ?_, by simp; omega, ex1 hE, get_old h0, get_old h1, at_mk ⟨rfl, rfl, rfl, inc (by omega), trivial⟩, (List.append_nil _).symm⟩
        rw [hq, step]; simp
      · simp at hc; omega
  · rintro T' S' ⟨T0, S1, d, hq, hd, hE, h0, h1, rfl, rfl⟩
    repeat' (first | refine c0 ?_ | refine c1 ?_ | refine c2 ?_ | refine c3 ?_ | refine c4 ?_ | refine c5 ?_ | refine c6 (h := ?_) | refine c7 ?_ | refine d2 ?_ | refine c8 ?_ | refine c9 ?_ | refine d0 ?_ | refine d1 ?_ | refine d4 ?_ | refine a0 (hk := ?_) | refine b0 (hk := ?_) | refine b1 (hk := ?_) | refine b2 (hk := ?_) | refine b3 (hk := ?_) | refine b4 (hk := ?_) | refine p1 (hk := ?_) | refine g0' (hk := ?_) | refine a1 (hk := ?_) | refine a2 (hk := ?_) | refine u1 (hk := ?_) | refine u2 (hk := ?_) | refine u3 (hk := ?_) | refine u4 (hk := ?_) | refine a3 (ht := ?_) (hf := ?_) | refine a4 (ht := ?_) (hf := ?_) | refine a5 (hk := ?_) | refine b5 (hk := ?_) | refine b6 (hk := ?_) | refine b8 (hk := ?_) | refine b9 (hk := ?_) | refine b7 (hk := ?_) | refine p0 (hk := ?_) | refine g1 (hw := ?_) | refine g2 (hw := ?_) | refine g3 (hw := ?_) | refine g4 (hw := ?_) | (with_reducible intro hc) | refine d6 (ht := ?_) | refine d7 (hf := ?_) | refine u5 (hk := ?_) | refine u6 (hk := ?_) | refine u7 (hk := ?_) | refine u8 (hk := ?_) | refine d8 (ht := ?_) (hf := ?_) | refine d9 (ht := ?_) (hf := ?_))
    · simp at hc
    · exact rLx hE (hn := by simp) (hp := wrow_pure d) (hv := by rw [hq]; simp [runSets])

/-! ### rows -/
def row2 (n size : Nat) : List Int := (List.range size).map fun i => ((n / 2 ^ i % 2 : Nat) : Int)
theorem row2_succ (n i : Nat) : row2 n (i + 1) = row2 n i ++ [((n / 2 ^ i % 2 : Nat) : Int)] := by simp [row2, List.range_succ]
theorem row2_len (n i : Nat) : (row2 n i).length = i := by simp [row2]
theorem k_spec_l12Row (n size : Nat) (S : St) (hn : n ≤ 1048576) (hs : size ≤ 60) : Ev Y spec_l12Row [I n, I size] S (L (row2 n size)) S := by
  refine E_start (h := ?_)
  repeat' (first | refine c0 ?_ | refine c1 ?_ | refine c2 ?_ | refine c3 ?_ | refine c4 ?_ | refine c5 ?_ | refine c6 (h := ?_) | refine c7 ?_ | refine d2 ?_ | refine c8 ?_ | refine c9 ?_ | refine d0 ?_ | refine d1 ?_ | refine d4 ?_ | refine a0 (hk := ?_) | refine b0 (hk := ?_) | refine b1 (hk := ?_) | refine b2 (hk := ?_) | refine b3 (hk := ?_) | refine b4 (hk := ?_) | refine p1 (hk := ?_) | refine g0' (hk := ?_) | refine a1 (hk := ?_) | refine a2 (hk := ?_) | refine u1 (hk := ?_) | refine u2 (hk := ?_) | refine u3 (hk := ?_) | refine u4 (hk := ?_) | refine a3 (ht := ?_) (hf := ?_) | refine a4 (ht := ?_) (hf := ?_) | refine a5 (hk := ?_) | refine b5 (hk := ?_) | refine b6 (hk := ?_) | refine b8 (hk := ?_) | refine b9 (hk := ?_) | refine b7 (hk := ?_) | refine p0 (hk := ?_) | refine g1 (hw := ?_) | refine g2 (hw := ?_) | refine g3 (hw := ?_) | refine g4 (hw := ?_) | (with_reducible intro hc) | refine d6 (ht := ?_) | refine d7 (hf := ?_) | refine u5 (hk := ?_) | refine u6 (hk := ?_) | refine u7 (hk := ?_) | refine u8 (hk := ?_) | refine d8 (ht := ?_) (hf := ?_) | refine d9 (ht := ?_) (hf := ?_))
  refine C_loop (fun m T' S' => ∃ (T0 : Tm) (S1 : St) (i : Nat), i + m = size ∧ Ext S S1 ∧ S1[S.length + 1]? = some (.cells true ((row2 n i).map irow)) ∧ T' = putL T0 [(0, I n), (1, I size), (5, .sl (S.length + 1) i), (6, I i)] ∧ S' = S1 ++ []) size
    ⟨_, _, 0, by omega, ex0, get_own rfl, at_mk ⟨rfl, rfl, rfl, rfl, trivial⟩, (List.append_nil _).symm⟩ ?_
  rintro m T' S' ⟨T0, S1, i, hi, hE, h0, rfl, rfl⟩
  have e1 := irow1 (row2 n i)
  have e2 : ((row2 n i).map irow).length = i := by simp [row2_len]
  cases m with
  | zero =>
    have hc0 : ¬ ((i : Int) < (size : Int)) := by omega
    repeat' (first | refine c0 ?_ | refine c1 ?_ | refine c2 ?_ | refine c3 ?_ | refine c4 ?_ | refine c5 ?_ | refine c6 (h := ?_) | refine c7 ?_ | refine d2 ?_ | refine c8 ?_ | refine c9 ?_ | refine d0 ?_ | refine d1 ?_ | refine d4 ?_ | refine a0 (hk := ?_) | refine b0 (hk := ?_) | refine b1 (hk := ?_) | refine b2 (hk := ?_) | refine b3 (hk := ?_) | refine b4 (hk := ?_) | refine p1 (hk := ?_) | refine g0' (hk := ?_) | refine a1 (hk := ?_) | refine a2 (hk := ?_) | refine u1 (hk := ?_) | refine u2 (hk := ?_) | refine u3 (hk := ?_) | refine u4 (hk := ?_) | refine a3 (ht := ?_) (hf := ?_) | refine a4 (ht := ?_) (hf := ?_) | refine a5 (hk := ?_) | refine b5 (hk := ?_) | refine b6 (hk := ?_) | refine b8 (hk := ?_) | refine b9 (hk := ?_) | refine b7 (hk := ?_) | refine p0 (hk := ?_) | refine g1 (hw := ?_) | refine g2 (hw := ?_) | refine g3 (hw := ?_) | refine g4 (hw := ?_) | (with_reducible intro hc) | refine d6 (ht := ?_) | refine d7 (hf := ?_) | refine u5 (hk := ?_) | refine u6 (hk := ?_) | refine u7 (hk := ?_) | refine u8 (hk := ?_) | refine d8 (ht := ?_) (hf := ?_) | refine d9 (ht := ?_) (hf := ?_))
    exact rLx hE (hp := irow_pure _) (hv := by rw [show i = size by omega])
  | succ m =>
    have hc0 : (i : Int) < (size : Int) := by omega
    have e3 : ((n : Int).fdiv (2 ^ min (Int.toNat (i : Int)) IntKind.i64.bits)).tmod 2 = ((n / 2 ^ i % 2 : Nat) : Int) := by
      have : min (Int.toNat (i : Int)) IntKind.i64.bits = i := by simp [IntKind.bits]; omega
      rw [this, Int.fdiv_eq_ediv_of_nonneg _ (Int.le_of_lt (Int.pow_pos (by omega)))]
      rw [show ((2 : Int) ^ i) = ((2 ^ i : Nat) : Int) by simp]
      rfl
    repeat' (first | refine c0 ?_ | refine c1 ?_ | refine c2 ?_ | refine c3 ?_ | refine c4 ?_ | refine c5 ?_ | refine c6 (h := ?_) | refine c7 ?_ | refine d2 ?_ | refine c8 ?_ | refine c9 ?_ | refine d0 ?_ | refine d1 ?_ | refine d4 ?_ | refine a0 (hk := ?_) | refine b0 (hk := ?_) | refine b1 (hk := ?_) | refine b2 (hk := ?_) | refine b3 (hk := ?_) | refine b4 (hk := ?_) | refine p1 (hk := ?_) | refine g0' (hk := ?_) | refine a1 (hk := ?_) | refine a2 (hk := ?_) | refine u1 (hk := ?_) | refine u2 (hk := ?_) | refine u3 (hk := ?_) | refine u4 (hk := ?_) | refine a3 (ht := ?_) (hf := ?_) | refine a4 (ht := ?_) (hf := ?_) | refine a5 (hk := ?_) | refine b5 (hk := ?_) | refine b6 (hk := ?_) | refine b8 (hk := ?_) | refine b9 (hk := ?_) | refine b7 (hk := ?_) | refine p0 (hk := ?_) | refine g1 (hw := ?_) | refine g2 (hw := ?_) | refine g3 (hw := ?_) | refine g4 (hw := ?_) | (with_reducible intro hc) | refine d6 (ht := ?_) | refine d7 (hf := ?_) | refine u5 (hk := ?_) | refine u6 (hk := ?_) | refine u7 (hk := ?_) | refine u8 (hk := ?_) | refine d8 (ht := ?_) (hf := ?_) | refine d9 (ht := ?_) (hf := ?_))
    refine ⟨m, by omega, _, _, i + 1, by omega, ex1 (ex2 hE (Nat.le_add_right _ _)), ?_, at_mk ⟨rfl, rfl, ?_, ?_, trivial⟩, (List.append_nil _).symm⟩
    · rw [get_set h0, row2_succ, List.map_append, ← e3]; rfl
    · rfl
    · show HV.int _ _ = _
      rw [i64_id (by omega) (by omega)]; simp
theorem k_spec_l12Ints (xs ys : List Int) (S : St) (hx : xs.length ≤ 1048576) (hy : ys.length ≤ 1048576) : Ev Y spec_l12Ints [L xs, L ys] S (.bool (xs == ys)) S := by
  refine E_start (h := ?_)
  repeat' (first | refine c0 ?_ | refine c1 ?_ | refine c2 ?_ | refine c3 ?_ | refine c4 ?_ | refine c5 ?_ | refine c6 (h := ?_) | refine c7 ?_ | refine d2 ?_ | refine c8 ?_ | refine c9 ?_ | refine d0 ?_ | refine d1 ?_ | refine d4 ?_ | refine a0 (hk := ?_) | refine b0 (hk := ?_) | refine b1 (hk := ?_) | refine b2 (hk := ?_) | refine b3 (hk := ?_) | refine b4 (hk := ?_) | refine p1 (hk := ?_) | refine g0' (hk := ?_) | refine a1 (hk := ?_) | refine a2 (hk := ?_) | refine u1 (hk := ?_) | refine u2 (hk := ?_) | refine u3 (hk := ?_) | refine u4 (hk := ?_) | refine a3 (ht := ?_) (hf := ?_) | refine a4 (ht := ?_) (hf := ?_) | refine a5 (hk := ?_) | refine b5 (hk := ?_) | refine b6 (hk := ?_) | refine b8 (hk := ?_) | refine b9 (hk := ?_) | refine b7 (hk := ?_) | refine p0 (hk := ?_) | refine g1 (hw := ?_) | refine g2 (hw := ?_) | refine g3 (hw := ?_) | refine g4 (hw := ?_) | (with_reducible intro hc) | refine d6 (ht := ?_) | refine d7 (hf := ?_) | refine u5 (hk := ?_) | refine u6 (hk := ?_) | refine u7 (hk := ?_) | refine u8 (hk := ?_) | refine d8 (ht := ?_) (hf := ?_) | refine d9 (ht := ?_) (hf := ?_))
  · refine rB (hv := ?_)
    simp at hc
    symm; simp; intro e; rw [e] at hc; exact hc rfl
  · have hlen : xs.length = ys.length := by simp at hc; omega
    refine C_list xs (fun pre r T' S' => ∃ (T0 : Tm) (S1 : St), (xs == ys) = (r == ys.drop pre.length) ∧ Ext S S1 ∧ T' = putL T0 [(0, L xs), (1, L ys), (5, I pre.length)] ∧ S' = S1 ++ [])
      ⟨_, _, rfl, ex0, at_mk ⟨rfl, rfl, rfl, trivial⟩, (List.append_nil _).symm⟩ ?_ ?_
    · rintro pre x r T' S' hxs ⟨T0, S1, hq, hE, rfl, rfl⟩
      have hg := mid hxs
      have hlt := mid_lt hxs
      have hlt2 : pre.length < ys.length := by omega
      have hg2 : ys[pre.length]? = some ys[pre.length] := by simp [hlt2]
      rw [List.drop_eq_getElem_cons hlt2] at hq
      have hq : (xs == ys) = (x == ys[pre.length] && r == ys.drop (pre.length + 1)) := hq
      repeat' (first | refine c0 ?_ | refine c1 ?_ | refine c2 ?_ | refine c3 ?_ | refine c4 ?_ | refine c5 ?_ | refine c6 (h := ?_) | refine c7 ?_ | refine d2 ?_ | refine c8 ?_ | refine c9 ?_ | refine d0 ?_ | refine d1 ?_ | refine d4 ?_ | refine d3' (h := ?_) | refine d4' ?_ | refine a0 (hk := ?_) | refine b0 (hk := ?_) | refine b1 (hk := ?_) | refine b2 (hk := ?_) | refine b3 (hk := ?_) | refine b4 (hk := ?_) | refine p1 (hk := ?_) | refine g0' (hk := ?_) | refine a1 (hk := ?_) | refine a2 (hk := ?_) | refine u1 (hk := ?_) | refine u2 (hk := ?_) | refine u3 (hk := ?_) | refine u4 (hk := ?_) | refine a3 (ht := ?_) (hf := ?_) | refine a4 (ht := ?_) (hf := ?_) | refine a5 (hk := ?_) | refine b5 (hk := ?_) | refine b6 (hk := ?_) | refine b8 (hk := ?_) | refine b9 (hk := ?_) | refine b7 (hk := ?_) | refine p0 (hk := ?_) | refine g1 (hw := ?_) | refine g2 (hw := ?_) | refine g3 (hw := ?_) | refine g4 (hw := ?_) | refine e0' (hk := ?_) | refine b0' (hk := ?_) | refine b1' (hk := ?_) | refine p1' (hk := ?_) | refine e1' (hk := ?_) | refine e2' (hk := ?_) | refine u1' (hk := ?_) | refine u2' (hk := ?_) | refine u3' (hk := ?_) | refine u4' (hk := ?_) | refine e3' (ht := ?_) (hf := ?_) | refine e4' (ht := ?_) (hf := ?_) | refine b4' (hk := ?_) | refine b7b (hk := ?_) | refine e5' (hk := ?_) | refine f5' (hk := ?_) | refine f6' (hk := ?_) | refine f8' (hk := ?_) | refine f9' (hk := ?_) | refine b7' (hk := ?_) | refine p0' (hk := ?_) | refine h1'' (hw := ?_) | refine h2'' (hw := ?_) | refine h3'' (hw := ?_) | refine h4'' (hw := ?_) | (with_reducible intro hc) | refine d6 (ht := ?_) | refine d7 (hf := ?_) | refine u5 (hk := ?_) | refine u6 (hk := ?_) | refine u7 (hk := ?_) | refine u8 (hk := ?_) | refine d8 (ht := ?_) (hf := ?_) | refine d9 (ht := ?_) (hf := ?_))
      · refine rBx hE (hv := ?_)
        rw [hq]; simp at hc; simp [hc]
      · refine ⟨_, _, ?_, ex1 hE, at_mk ⟨rfl, rfl, inc (by omega), trivial⟩, (List.append_nil _).symm⟩
        rw [hq]; simp at hc; simp [hc]
      · simp at hc; omega
    · rintro T' S' ⟨T0, S1, hq, hE, rfl, rfl⟩
      repeat' (first | refine c0 ?_ | refine c1 ?_ | refine c2 ?_ | refine c3 ?_ | refine c4 ?_ | refine c5 ?_ | refine c6 (h := ?_) | refine c7 ?_ | refine d2 ?_ | refine c8 ?_ | refine c9 ?_ | refine d0 ?_ | refine d1 ?_ | refine d4 ?_ | refine a0 (hk := ?_) | refine b0 (hk := ?_) | refine b1 (hk := ?_) | refine b2 (hk := ?_) | refine b3 (hk := ?_) | refine b4 (hk := ?_) | refine p1 (hk := ?_) | refine g0' (hk := ?_) | refine a1 (hk := ?_) | refine a2 (hk := ?_) | refine u1 (hk := ?_) | refine u2 (hk := ?_) | refine u3 (hk := ?_) | refine u4 (hk := ?_) | refine a3 (ht := ?_) (hf := ?_) | refine a4 (ht := ?_) (hf := ?_) | refine a5 (hk := ?_) | refine b5 (hk := ?_) | refine b6 (hk := ?_) | refine b8 (hk := ?_) | refine b9 (hk := ?_) | refine b7 (hk := ?_) | refine p0 (hk := ?_) | refine g1 (hw := ?_) | refine g2 (hw := ?_) | refine g3 (hw := ?_) | refine g4 (hw := ?_) | (with_reducible intro hc) | refine d6 (ht := ?_) | refine d7 (hf := ?_) | refine u5 (hk := ?_) | refine u6 (hk := ?_) | refine u7 (hk := ?_) | refine u8 (hk := ?_) | refine d8 (ht := ?_) (hf := ?_) | refine d9 (ht := ?_) (hf := ?_))
      · simp at hc
      · exact rBx hE (hv := by rw [hq, hlen]; simp)
theorem weq (a b : Int × Int) : (a.1 == b.1 && (a.2 == b.2 && true)) = (a == b) := by
  rw [Bool.eq_iff_iff]; simp [Prod.ext_iff]
theorem k_spec_l12Writes (xs ys : List (Int × Int)) (S : St) (hx : xs.length ≤ 1048576) (hy : ys.length ≤ 1048576) : Ev Y spec_l12Writes [WS xs, WS ys] S (.bool (xs == ys)) S := by
  refine E_start (h := ?_)
  repeat' (first | refine c0 ?_ | refine c1 ?_ | refine c2 ?_ | refine c3 ?_ | refine c4 ?_ | refine c5 ?_ | refine c6 (h := ?_) | refine c7 ?_ | refine d2 ?_ | refine c8 ?_ | refine c9 ?_ | refine d0 ?_ | refine d1 ?_ | refine d4 ?_ | refine a0 (hk := ?_) | refine b0 (hk := ?_) | refine b1 (hk := ?_) | refine b2 (hk := ?_) | refine b3 (hk := ?_) | refine b4 (hk := ?_) | refine p1 (hk := ?_) | refine g0' (hk := ?_) | refine a1 (hk := ?_) | refine a2 (hk := ?_) | refine u1 (hk := ?_) | refine u2 (hk := ?_) | refine u3 (hk := ?_) | refine u4 (hk := ?_) | refine a3 (ht := ?_) (hf := ?_) | refine a4 (ht := ?_) (hf := ?_) | refine a5 (hk := ?_) | refine b5 (hk := ?_) | refine b6 (hk := ?_) | refine b8 (hk := ?_) | refine b9 (hk := ?_) | refine b7 (hk := ?_) | refine p0 (hk := ?_) | refine g1 (hw := ?_) | refine g2 (hw := ?_) | refine g3 (hw := ?_) | refine g4 (hw := ?_) | (with_reducible intro hc) | refine d6 (ht := ?_) | refine d7 (hf := ?_) | refine u5 (hk := ?_) | refine u6 (hk := ?_) | refine u7 (hk := ?_) | refine u8 (hk := ?_) | refine d8 (ht := ?_) (hf := ?_) | refine d9 (ht := ?_) (hf := ?_))
  · refine rB (hv := ?_)
    simp at hc
    symm; simp; intro e; rw [e] at hc; exact hc rfl
  · have hlen : xs.length = ys.length := by simp at hc; omega
    refine C_list xs (fun pre r T' S' => ∃ (T0 : Tm) (S1 : St), (xs == ys) = (r == ys.drop pre.length) ∧ Ext S S1 ∧ T' = putL T0 [(0, WS xs), (1, WS ys), (5, I pre.length)] ∧ S' = S1 ++ [])
      ⟨_, _, rfl, ex0, at_mk ⟨rfl, rfl, rfl, trivial⟩, (List.append_nil _).symm⟩ ?_ ?_
    · rintro pre x r T' S' hxs ⟨T0, S1, hq, hE, rfl, rfl⟩
      have hg := mid hxs
      have hlt := mid_lt hxs
      have hlt2 : pre.length < ys.length := by omega
      have hg2 : ys[pre.length]? = some ys[pre.length] := by simp [hlt2]
      rw [List.drop_eq_getElem_cons hlt2] at hq
      have hq : (xs == ys) = (x == ys[pre.length] && r == ys.drop (pre.length + 1)) := hq
      repeat' (first | refine c0 ?_ | refine c1 ?_ | refine c2 ?_ | refine c3 ?_ | refine c4 ?_ | refine c5 ?_ | refine c6 (h := ?_) | refine c7 ?_ | refine d2 ?_ | refine c8 ?_ | refine c9 ?_ | refine d0 ?_ | refine d1 ?_ | refine d4 ?_ | refine d3' (h := ?_) | refine d4' ?_ | refine a0 (hk := ?_) | refine b0 (hk := ?_) | refine b1 (hk := ?_) | refine b2 (hk := ?_) | refine b3 (hk := ?_) | refine b4 (hk := ?_) | refine p1 (hk := ?_) | refine g0' (hk := ?_) | refine a1 (hk := ?_) | refine a2 (hk := ?_) | refine u1 (hk := ?_) | refine u2 (hk := ?_) | refine u3 (hk := ?_) | refine u4 (hk := ?_) | refine a3 (ht := ?_) (hf := ?_) | refine a4 (ht := ?_) (hf := ?_) | refine a5 (hk := ?_) | refine b5 (hk := ?_) | refine b6 (hk := ?_) | refine b8 (hk := ?_) | refine b9 (hk := ?_) | refine b7 (hk := ?_) | refine p0 (hk := ?_) | refine g1 (hw := ?_) | refine g2 (hw := ?_) | refine g3 (hw := ?_) | refine g4 (hw := ?_) | refine e0' (hk := ?_) | refine b0' (hk := ?_) | refine b1' (hk := ?_) | refine p1' (hk := ?_) | refine e1' (hk := ?_) | refine e2' (hk := ?_) | refine u1' (hk := ?_) | refine u2' (hk := ?_) | refine u3' (hk := ?_) | refine u4' (hk := ?_) | refine e3' (ht := ?_) (hf := ?_) | refine e4' (ht := ?_) (hf := ?_) | refine b4' (hk := ?_) | refine b7b (hk := ?_) | refine e5' (hk := ?_) | refine f5' (hk := ?_) | refine f6' (hk := ?_) | refine f8' (hk := ?_) | refine f9' (hk := ?_) | refine b7' (hk := ?_) | refine p0' (hk := ?_) | refine h1'' (hw := ?_) | refine h2'' (hw := ?_) | refine h3'' (hw := ?_) | refine h4'' (hw := ?_) | (with_reducible intro hc) | refine d6 (ht := ?_) | refine d7 (hf := ?_) | refine u5 (hk := ?_) | refine u6 (hk := ?_) | refine u7 (hk := ?_) | refine u8 (hk := ?_) | refine d8 (ht := ?_) (hf := ?_) | refine d9 (ht := ?_) (hf := ?_))
      · refine rBx hE (hv := ?_)
        rw [weq] at hc
        rw [hq]; simp at hc; simp [hc]
      · refine ⟨_, _, ?_, ex1 hE, at_mk ⟨rfl, rfl, inc (by omega), trivial⟩, (List.append_nil _).symm⟩
        rw [weq] at hc
        rw [hq]; simp at hc; simp [hc]
      · simp at hc; omega
    · rintro T' S' ⟨T0, S1, hq, hE, rfl, rfl⟩
      repeat' (first | refine c0 ?_ | refine c1 ?_ | refine c2 ?_ | refine c3 ?_ | refine c4 ?_ | refine c5 ?_ | refine c6 (h := ?_) | refine c7 ?_ | refine d2 ?_ | refine c8 ?_ | refine c9 ?_ | refine d0 ?_ | refine d1 ?_ | refine d4 ?_ | refine a0 (hk := ?_) | refine b0 (hk := ?_) | refine b1 (hk := ?_) | refine b2 (hk := ?_) | refine b3 (hk := ?_) | refine b4 (hk := ?_) | refine p1 (hk := ?_) | refine g0' (hk := ?_) | refine a1 (hk := ?_) | refine a2 (hk := ?_) | refine u1 (hk := ?_) | refine u2 (hk := ?_) | refine u3 (hk := ?_) | refine u4 (hk := ?_) | refine a3 (ht := ?_) (hf := ?_) | refine a4 (ht := ?_) (hf := ?_) | refine a5 (hk := ?_) | refine b5 (hk := ?_) | refine b6 (hk := ?_) | refine b8 (hk := ?_) | refine b9 (hk := ?_) | refine b7 (hk := ?_) | refine p0 (hk := ?_) | refine g1 (hw := ?_) | refine g2 (hw := ?_) | refine g3 (hw := ?_) | refine g4 (hw := ?_) | (with_reducible intro hc) | refine d6 (ht := ?_) | refine d7 (hf := ?_) | refine u5 (hk := ?_) | refine u6 (hk := ?_) | refine u7 (hk := ?_) | refine u8 (hk := ?_) | refine d8 (ht := ?_) (hf := ?_) | refine d9 (ht := ?_) (hf := ?_))
      · simp at hc
      · exact rBx hE (hv := by rw [hq, hlen]; simp)
end Go.Proofs.X
end
section
namespace Go.Proofs.X
open Go Go.Proofs.XVai Go.Proofs Go.Proofs.XN
set_option linter.unusedVariables false
set_option linter.unusedSimpArgs false
def nget (nums : List Int) (v : Int) : Int := nums.getD v.toNat 0
def valNum (x : Vl) (nums : List Int) : Int := if x.kind = 1 then x.a else if x.kind = 2 then nget nums x.a else if x.kind = 3 then (nget nums x.a + nget nums x.b).tmod 10 else if nget nums x.a = nget nums x.b then 1 else 0
structure Rn where
  nums : List Int
  ws : List (Int × Int)
  ss : List (Int × Int)
  deriving DecidableEq
def run : Stps → Rn → Rn
  | .nil, r => r
  | .cons k v x h t e rest, r => run rest (if k = 1 then ⟨r.nums.set v.toNat (valNum x r.nums), r.ws ++ [(v, valNum x r.nums)], r.ss⟩
      else if k = 3 then ⟨r.nums, r.ws, r.ss ++ [(h, nget r.nums v)]⟩ else if nget r.nums v ≠ 0 then run t r else run e r)
def runOf (ls : List Lab) (ss : Stps) (nums : List Int) : Rn := if numsOk ls ss nums then run ss ⟨nums, [], []⟩ else ⟨[], [], []⟩

/-- All pairs, the first less than the second, in the order of the search. -/
def pairs (n : Nat) : List (Nat × Nat) := (List.range n).flatMap fun i => (List.range i).map fun k => (k, i)
theorem pairs_mem {n k i : Nat} : (k, i) ∈ pairs n ↔ k < i ∧ i < n := by
  simp [pairs]
  constructor
  · rintro ⟨a, ha, b, hb, rfl, rfl⟩; exact ⟨hb, ha⟩
  · rintro ⟨h1, h2⟩; exact ⟨i, h2, k, h1, rfl, rfl⟩
def sameOn (a b : List Int) : List Bool → Bool
  | [] => true
  | v :: vs => (!v || a.headD 0 == b.headD 0) && sameOn a.tail b.tail vs
def knowsOf (ls : List Lab) (h : Int) : List Bool := ls.map fun l => hasG l.k h
def trustsOf (ls : List Lab) (h : Int) : List Bool := ls.map fun l => hasG l.t h
def leakAt (ls : List Lab) (ss : Stps) (h : Int) (p : Nat × Nat) : Bool :=
  let a := row2 p.1 ls.length; let b := row2 p.2 ls.length
  sameOn a b (knowsOf ls h) && !(runTo (runOf ls ss a).ss h == runTo (runOf ls ss b).ss h)
def swayAt (ls : List Lab) (ss : Stps) (h : Int) (p : Nat × Nat) : Bool :=
  let a := row2 p.1 ls.length; let b := row2 p.2 ls.length
  sameOn a b (trustsOf ls h) && !(runSets (runOf ls ss a).ws (trustsOf ls h) == runSets (runOf ls ss b).ws (trustsOf ls h))
def leakOf (ls : List Lab) (ss : Stps) (h : Int) : Option (Nat × Nat) := if progOk ls ss && inB h 0 2 then (pairs (2 ^ ls.length)).find? (leakAt ls ss h) else none
def swayOf (ls : List Lab) (ss : Stps) (h : Int) : Option (Nat × Nat) := if progOk ls ss && inB h 0 2 then (pairs (2 ^ ls.length)).find? (swayAt ls ss h) else none

end Go.Proofs.X
end
section
namespace Go.Proofs.X
open Go Go.Proofs.XVai Go.Proofs Go.Proofs.XN
set_option linter.unusedVariables false
set_option linter.unusedSimpArgs false
theorem k_impl_in (a lo hi : Int) (S : St) : Ev Y impl_in [I a, I lo, I hi] S (.bool (inB a lo hi)) S := by
  refine E_start (h := ?_)
  repeat' (first | refine c0 ?_ | refine c1 ?_ | refine c2 ?_ | refine c3 ?_ | refine c4 ?_ | refine c5 ?_ | refine c6 (h := ?_) | refine c7 ?_ | refine d2 ?_ | refine c8 ?_ | refine c9 ?_ | refine d0 ?_ | refine d1 ?_ | refine d4 ?_ | refine a0 (hk := ?_) | refine b0 (hk := ?_) | refine b1 (hk := ?_) | refine b2 (hk := ?_) | refine b3 (hk := ?_) | refine b4 (hk := ?_) | refine p1 (hk := ?_) | refine g0' (hk := ?_) | refine a1 (hk := ?_) | refine a2 (hk := ?_) | refine u1 (hk := ?_) | refine u2 (hk := ?_) | refine u3 (hk := ?_) | refine u4 (hk := ?_) | refine a3 (ht := ?_) (hf := ?_) | refine a4 (ht := ?_) (hf := ?_) | refine a5 (hk := ?_) | refine b5 (hk := ?_) | refine b6 (hk := ?_) | refine b8 (hk := ?_) | refine b9 (hk := ?_) | refine b7 (hk := ?_) | refine p0 (hk := ?_) | refine g1 (hw := ?_) | refine g2 (hw := ?_) | refine g3 (hw := ?_) | refine g4 (hw := ?_) | (with_reducible intro hc) | refine d6 (ht := ?_) | refine d7 (hf := ?_) | refine u5 (hk := ?_) | refine u6 (hk := ?_) | refine u7 (hk := ?_) | refine u8 (hk := ?_) | refine d8 (ht := ?_) (hf := ?_) | refine d9 (ht := ?_) (hf := ?_))
  all_goals (refine rB (hv := ?_); simp_all [inB] <;> omega)
theorem k_impl_isHost (a : Int) (S : St) : Ev Y impl_isHost [I a] S (.bool (inB a 0 2)) S := by
  refine E_start (h := ?_)
  repeat' (first | refine c0 ?_ | refine c1 ?_ | refine c2 ?_ | refine c3 ?_ | refine c4 ?_ | refine c5 ?_ | refine c6 (h := ?_) | refine c7 ?_ | refine d2 ?_ | refine c8 ?_ | refine c9 ?_ | refine d0 ?_ | refine d1 ?_ | refine d4 ?_ | refine a0 (hk := ?_) | refine k0 (he := (by first | exact k_impl_in _ _ _ _)) (hk := ?_) | refine k1 (he := (by first | exact k_impl_in _ _ _ _)) (hk := ?_) | refine b0 (hk := ?_) | refine b1 (hk := ?_) | refine b2 (hk := ?_) | refine b3 (hk := ?_) | refine b4 (hk := ?_) | refine p1 (hk := ?_) | refine g0' (hk := ?_) | refine a1 (hk := ?_) | refine a2 (hk := ?_) | refine u1 (hk := ?_) | refine u2 (hk := ?_) | refine u3 (hk := ?_) | refine u4 (hk := ?_) | refine a3 (ht := ?_) (hf := ?_) | refine a4 (ht := ?_) (hf := ?_) | refine a5 (hk := ?_) | refine b5 (hk := ?_) | refine b6 (hk := ?_) | refine b8 (hk := ?_) | refine b9 (hk := ?_) | refine b7 (hk := ?_) | refine p0 (hk := ?_) | refine g1 (hw := ?_) | refine g2 (hw := ?_) | refine g3 (hw := ?_) | refine g4 (hw := ?_) | (with_reducible intro hc) | refine d6 (ht := ?_) | refine d7 (hf := ?_) | refine u5 (hk := ?_) | refine u6 (hk := ?_) | refine u7 (hk := ?_) | refine u8 (hk := ?_) | refine d8 (ht := ?_) (hf := ?_) | refine d9 (ht := ?_) (hf := ?_))
  exact rB (hv := rfl)
theorem k_impl_isSet (a : Int) (S : St) : Ev Y impl_isSet [I a] S (.bool (setB a)) S := by
  refine E_start (h := ?_)
  repeat' (first | refine c0 ?_ | refine c1 ?_ | refine c2 ?_ | refine c3 ?_ | refine c4 ?_ | refine c5 ?_ | refine c6 (h := ?_) | refine c7 ?_ | refine d2 ?_ | refine c8 ?_ | refine c9 ?_ | refine d0 ?_ | refine d1 ?_ | refine d4 ?_ | refine a0 (hk := ?_) | refine k0 (he := (by first | exact k_impl_in _ _ _ _)) (hk := ?_) | refine k1 (he := (by first | exact k_impl_in _ _ _ _)) (hk := ?_) | refine b0 (hk := ?_) | refine b1 (hk := ?_) | refine b2 (hk := ?_) | refine b3 (hk := ?_) | refine b4 (hk := ?_) | refine p1 (hk := ?_) | refine g0' (hk := ?_) | refine a1 (hk := ?_) | refine a2 (hk := ?_) | refine u1 (hk := ?_) | refine u2 (hk := ?_) | refine u3 (hk := ?_) | refine u4 (hk := ?_) | refine a3 (ht := ?_) (hf := ?_) | refine a4 (ht := ?_) (hf := ?_) | refine a5 (hk := ?_) | refine b5 (hk := ?_) | refine b6 (hk := ?_) | refine b8 (hk := ?_) | refine b9 (hk := ?_) | refine b7 (hk := ?_) | refine p0 (hk := ?_) | refine g1 (hw := ?_) | refine g2 (hw := ?_) | refine g3 (hw := ?_) | refine g4 (hw := ?_) | (with_reducible intro hc) | refine d6 (ht := ?_) | refine d7 (hf := ?_) | refine u5 (hk := ?_) | refine u6 (hk := ?_) | refine u7 (hk := ?_) | refine u8 (hk := ?_) | refine d8 (ht := ?_) (hf := ?_) | refine d9 (ht := ?_) (hf := ?_))
  exact rB (hv := rfl)
theorem k_impl_isNum (a : Int) (S : St) : Ev Y impl_isNum [I a] S (.bool (inB a 0 9)) S := by
  refine E_start (h := ?_)
  repeat' (first | refine c0 ?_ | refine c1 ?_ | refine c2 ?_ | refine c3 ?_ | refine c4 ?_ | refine c5 ?_ | refine c6 (h := ?_) | refine c7 ?_ | refine d2 ?_ | refine c8 ?_ | refine c9 ?_ | refine d0 ?_ | refine d1 ?_ | refine d4 ?_ | refine a0 (hk := ?_) | refine k0 (he := (by first | exact k_impl_in _ _ _ _)) (hk := ?_) | refine k1 (he := (by first | exact k_impl_in _ _ _ _)) (hk := ?_) | refine b0 (hk := ?_) | refine b1 (hk := ?_) | refine b2 (hk := ?_) | refine b3 (hk := ?_) | refine b4 (hk := ?_) | refine p1 (hk := ?_) | refine g0' (hk := ?_) | refine a1 (hk := ?_) | refine a2 (hk := ?_) | refine u1 (hk := ?_) | refine u2 (hk := ?_) | refine u3 (hk := ?_) | refine u4 (hk := ?_) | refine a3 (ht := ?_) (hf := ?_) | refine a4 (ht := ?_) (hf := ?_) | refine a5 (hk := ?_) | refine b5 (hk := ?_) | refine b6 (hk := ?_) | refine b8 (hk := ?_) | refine b9 (hk := ?_) | refine b7 (hk := ?_) | refine p0 (hk := ?_) | refine g1 (hw := ?_) | refine g2 (hw := ?_) | refine g3 (hw := ?_) | refine g4 (hw := ?_) | (with_reducible intro hc) | refine d6 (ht := ?_) | refine d7 (hf := ?_) | refine u5 (hk := ?_) | refine u6 (hk := ?_) | refine u7 (hk := ?_) | refine u8 (hk := ?_) | refine d8 (ht := ?_) (hf := ?_) | refine d9 (ht := ?_) (hf := ?_))
  exact rB (hv := rfl)
theorem k_impl_LabelOk (l : Lab) (S : St) : Ev Y impl_LabelOk [.agg (lrow l)] S (.bool (labOk l)) S := by
  refine E_start (h := ?_)
  repeat' (first | refine c0 ?_ | refine c1 ?_ | refine c2 ?_ | refine c3 ?_ | refine c4 ?_ | refine c5 ?_ | refine c6 (h := ?_) | refine c7 ?_ | refine d2 ?_ | refine c8 ?_ | refine c9 ?_ | refine d0 ?_ | refine d1 ?_ | refine d4 ?_ | refine a0 (hk := ?_) | refine k0 (he := (by first | exact k_impl_isSet _ _)) (hk := ?_) | refine k1 (he := (by first | exact k_impl_isSet _ _)) (hk := ?_) | refine b0 (hk := ?_) | refine b1 (hk := ?_) | refine b2 (hk := ?_) | refine b3 (hk := ?_) | refine b4 (hk := ?_) | refine p1 (hk := ?_) | refine g0' (hk := ?_) | refine a1 (hk := ?_) | refine a2 (hk := ?_) | refine u1 (hk := ?_) | refine u2 (hk := ?_) | refine u3 (hk := ?_) | refine u4 (hk := ?_) | refine a3 (ht := ?_) (hf := ?_) | refine a4 (ht := ?_) (hf := ?_) | refine a5 (hk := ?_) | refine b5 (hk := ?_) | refine b6 (hk := ?_) | refine b8 (hk := ?_) | refine b9 (hk := ?_) | refine b7 (hk := ?_) | refine p0 (hk := ?_) | refine g1 (hw := ?_) | refine g2 (hw := ?_) | refine g3 (hw := ?_) | refine g4 (hw := ?_) | (with_reducible intro hc) | refine d6 (ht := ?_) | refine d7 (hf := ?_) | refine u5 (hk := ?_) | refine u6 (hk := ?_) | refine u7 (hk := ?_) | refine u8 (hk := ?_) | refine d8 (ht := ?_) (hf := ?_) | refine d9 (ht := ?_) (hf := ?_))
  all_goals (refine rB (hv := ?_); simp_all [labOk])
theorem k_impl_ProgOk_1 (l : Lab) (S : St) : Ev Y impl_ProgOk_1 [.agg (lrow l)] S (.bool (!labOk l)) S := by
  refine E_start (h := ?_)
  repeat' (first | refine c0 ?_ | refine c1 ?_ | refine c2 ?_ | refine c3 ?_ | refine c4 ?_ | refine c5 ?_ | refine c6 (h := ?_) | refine c7 ?_ | refine d2 ?_ | refine c8 ?_ | refine c9 ?_ | refine d0 ?_ | refine d1 ?_ | refine d4 ?_ | refine a0 (hk := ?_) | refine k0 (he := (by first | exact k_impl_LabelOk _ _)) (hk := ?_) | refine k1 (he := (by first | exact k_impl_LabelOk _ _)) (hk := ?_) | refine b0 (hk := ?_) | refine b1 (hk := ?_) | refine b2 (hk := ?_) | refine b3 (hk := ?_) | refine b4 (hk := ?_) | refine p1 (hk := ?_) | refine g0' (hk := ?_) | refine a1 (hk := ?_) | refine a2 (hk := ?_) | refine u1 (hk := ?_) | refine u2 (hk := ?_) | refine u3 (hk := ?_) | refine u4 (hk := ?_) | refine a3 (ht := ?_) (hf := ?_) | refine a4 (ht := ?_) (hf := ?_) | refine a5 (hk := ?_) | refine b5 (hk := ?_) | refine b6 (hk := ?_) | refine b8 (hk := ?_) | refine b9 (hk := ?_) | refine b7 (hk := ?_) | refine p0 (hk := ?_) | refine g1 (hw := ?_) | refine g2 (hw := ?_) | refine g3 (hw := ?_) | refine g4 (hw := ?_) | (with_reducible intro hc) | refine d6 (ht := ?_) | refine d7 (hf := ?_) | refine u5 (hk := ?_) | refine u6 (hk := ?_) | refine u7 (hk := ?_) | refine u8 (hk := ?_) | refine d8 (ht := ?_) (hf := ?_) | refine d9 (ht := ?_) (hf := ?_))
  exact rB (hv := rfl)
def hasI (a i : Int) : Bool := inB i 0 2 && (IntKind.i64.wrap (BitVec.ofInt 64 (a.fdiv (2 ^ (min i.toNat 64))) &&& BitVec.ofInt 64 1).toNat == 1)
theorem k_impl_has (a i : Int) (S : St) : Ev Y impl_has [I a, I i] S (.bool (hasI a i)) S := by
  refine E_start (h := ?_)
  by_cases hi : 0 ≤ i
  · repeat' (first | refine c0 ?_ | refine c1 ?_ | refine c2 ?_ | refine c3 ?_ | refine c4 ?_ | refine c5 ?_ | refine c6 (h := ?_) | refine c7 ?_ | refine d2 ?_ | refine c8 ?_ | refine c9 ?_ | refine d0 ?_ | refine d1 ?_ | refine d4 ?_ | refine a0 (hk := ?_) | refine k0 (he := (by first | exact k_impl_isHost _ _)) (hk := ?_) | refine k1 (he := (by first | exact k_impl_isHost _ _)) (hk := ?_) | refine b0 (hk := ?_) | refine b1 (hk := ?_) | refine b2 (hk := ?_) | refine b3 (hk := ?_) | refine b4 (hk := ?_) | refine p1 (hk := ?_) | refine g0' (hk := ?_) | refine a1 (hk := ?_) | refine a2 (hk := ?_) | refine u1 (hk := ?_) | refine u2 (hk := ?_) | refine u3 (hk := ?_) | refine u4 (hk := ?_) | refine a3 (ht := ?_) (hf := ?_) | refine a4 (ht := ?_) (hf := ?_) | refine a5 (hk := ?_) | refine b5 (hk := ?_) | refine b6 (hk := ?_) | refine b8 (hk := ?_) | refine b9 (hk := ?_) | refine b7 (hk := ?_) | refine p0 (hk := ?_) | refine g1 (hw := ?_) | refine g2 (hw := ?_) | refine g3 (hw := ?_) | refine g4 (hw := ?_) | (with_reducible intro hc) | refine d6 (ht := ?_) | refine d7 (hf := ?_) | refine u5 (hk := ?_) | refine u6 (hk := ?_) | refine u7 (hk := ?_) | refine u8 (hk := ?_) | refine d8 (ht := ?_) (hf := ?_) | refine d9 (ht := ?_) (hf := ?_))
    · refine rB (hv := ?_)
      simp only [hasI, hc, Bool.true_and]; rfl
    · refine rB (hv := ?_)
      simp only [hasI, hc, Bool.false_and]
  · have : inB i 0 2 = false := by simp [inB]; omega
    repeat' (first | refine c0 ?_ | refine c1 ?_ | refine c2 ?_ | refine c3 ?_ | refine c4 ?_ | refine c5 ?_ | refine c6 (h := ?_) | refine c7 ?_ | refine d2 ?_ | refine c8 ?_ | refine c9 ?_ | refine d0 ?_ | refine d1 ?_ | refine d4 ?_ | refine a0 (hk := ?_) | refine k0 (he := (by first | exact this ▸ k_impl_isHost i _)) (hk := ?_) | refine k1 (he := (by first | exact this ▸ k_impl_isHost i _)) (hk := ?_) | refine b0 (hk := ?_) | refine b1 (hk := ?_) | refine b2 (hk := ?_) | refine b3 (hk := ?_) | refine b4 (hk := ?_) | refine p1 (hk := ?_) | refine g0' (hk := ?_) | refine a1 (hk := ?_) | refine a2 (hk := ?_) | refine u1 (hk := ?_) | refine u2 (hk := ?_) | refine u3 (hk := ?_) | refine u4 (hk := ?_) | refine a3 (ht := ?_) (hf := ?_) | refine a4 (ht := ?_) (hf := ?_) | refine a5 (hk := ?_) | refine b5 (hk := ?_) | refine b6 (hk := ?_) | refine b8 (hk := ?_) | refine b9 (hk := ?_) | refine b7 (hk := ?_) | refine p0 (hk := ?_) | refine g1 (hw := ?_) | refine g2 (hw := ?_) | refine g3 (hw := ?_) | refine g4 (hw := ?_) | (with_reducible intro hc) | refine d6 (ht := ?_) | refine d7 (hf := ?_) | refine u5 (hk := ?_) | refine u6 (hk := ?_) | refine u7 (hk := ?_) | refine u8 (hk := ?_) | refine d8 (ht := ?_) (hf := ?_) | refine d9 (ht := ?_) (hf := ?_))
    all_goals (refine rB (hv := ?_); simp_all [hasI])
theorem k_impl_Prog_isVar (ls : List Lab) (ss : Stps) (v : Int) (S : St) (hl : ls.length ≤ 1048576) : Ev Y impl_Prog_isVar [PR ls ss, I v] S (.bool (vOk ls.length v)) S := by
  refine E_start (h := ?_)
  repeat' (first | refine c0 ?_ | refine c1 ?_ | refine c2 ?_ | refine c3 ?_ | refine c4 ?_ | refine c5 ?_ | refine c6 (h := ?_) | refine c7 ?_ | refine d2 ?_ | refine c8 ?_ | refine c9 ?_ | refine d0 ?_ | refine d1 ?_ | refine d4 ?_ | refine a0 (hk := ?_) | refine k0 (he := (by first | exact k_impl_in _ _ _ _)) (hk := ?_) | refine k1 (he := (by first | exact k_impl_in _ _ _ _)) (hk := ?_) | refine b0 (hk := ?_) | refine b1 (hk := ?_) | refine b2 (hk := ?_) | refine b3 (hk := ?_) | refine b4 (hk := ?_) | refine p1 (hk := ?_) | refine g0' (hk := ?_) | refine a1 (hk := ?_) | refine a2 (hk := ?_) | refine u1 (hk := ?_) | refine u2 (hk := ?_) | refine u3 (hk := ?_) | refine u4 (hk := ?_) | refine a3 (ht := ?_) (hf := ?_) | refine a4 (ht := ?_) (hf := ?_) | refine a5 (hk := ?_) | refine b5 (hk := ?_) | refine b6 (hk := ?_) | refine b8 (hk := ?_) | refine b9 (hk := ?_) | refine b7 (hk := ?_) | refine p0 (hk := ?_) | refine g1 (hw := ?_) | refine g2 (hw := ?_) | refine g3 (hw := ?_) | refine g4 (hw := ?_) | (with_reducible intro hc) | refine d6 (ht := ?_) | refine d7 (hf := ?_) | refine u5 (hk := ?_) | refine u6 (hk := ?_) | refine u7 (hk := ?_) | refine u8 (hk := ?_) | refine d8 (ht := ?_) (hf := ?_) | refine d9 (ht := ?_) (hf := ?_))
  all_goals (refine rB (hv := ?_); rw [List.length_map, i64_id (by omega) (by omega)]; rfl)
theorem k_impl_Prog_valOk (ls : List Lab) (ss : Stps) (x : Vl) (S : St) (hl : ls.length ≤ 1048576) : Ev Y impl_Prog_valOk [PR ls ss, .agg (vrow x)] S (.bool (valOk ls.length x)) S := by
  refine E_start (h := ?_)
  repeat' (first | refine c0 ?_ | refine c1 ?_ | refine c2 ?_ | refine c3 ?_ | refine c4 ?_ | refine c5 ?_ | refine c6 (h := ?_) | refine c7 ?_ | refine d2 ?_ | refine c8 ?_ | refine c9 ?_ | refine d0 ?_ | refine d1 ?_ | refine d4 ?_ | refine a0 (hk := ?_) | refine k0 (he := (by first | exact k_impl_isNum _ _ | exact k_impl_Prog_isVar _ _ _ _ hl)) (hk := ?_) | refine k1 (he := (by first | exact k_impl_isNum _ _ | exact k_impl_Prog_isVar _ _ _ _ hl)) (hk := ?_) | refine b0 (hk := ?_) | refine b1 (hk := ?_) | refine b2 (hk := ?_) | refine b3 (hk := ?_) | refine b4 (hk := ?_) | refine p1 (hk := ?_) | refine g0' (hk := ?_) | refine a1 (hk := ?_) | refine a2 (hk := ?_) | refine u1 (hk := ?_) | refine u2 (hk := ?_) | refine u3 (hk := ?_) | refine u4 (hk := ?_) | refine a3 (ht := ?_) (hf := ?_) | refine a4 (ht := ?_) (hf := ?_) | refine a5 (hk := ?_) | refine b5 (hk := ?_) | refine b6 (hk := ?_) | refine b8 (hk := ?_) | refine b9 (hk := ?_) | refine b7 (hk := ?_) | refine p0 (hk := ?_) | refine g1 (hw := ?_) | refine g2 (hw := ?_) | refine g3 (hw := ?_) | refine g4 (hw := ?_) | (with_reducible intro hc) | refine d6 (ht := ?_) | refine d7 (hf := ?_) | refine u5 (hk := ?_) | refine u6 (hk := ?_) | refine u7 (hk := ?_) | refine u8 (hk := ?_) | refine d8 (ht := ?_) (hf := ?_) | refine d9 (ht := ?_) (hf := ?_))
  all_goals (refine rB (hv := ?_); simp_all [valOk])
theorem k_impl_size (n : Nat) : ∀ (l : Stps) (S : St), l.sz ≤ n → l.sz ≤ 1048576 → Ev Y impl_size [.lst l.rows] S (I l.sz) S := by
  induction n with
  | zero =>
    intro l S h _
    cases l with
    | cons => simp [Stps.sz] at h
    | nil =>
      refine E_start (h := ?_)
      repeat' (first | refine c0 ?_ | refine c1 ?_ | refine c2 ?_ | refine c3 ?_ | refine c4 ?_ | refine c5 ?_ | refine c6 (h := ?_) | refine c7 ?_ | refine d2 ?_ | refine c8 ?_ | refine c9 ?_ | refine d0 ?_ | refine d1 ?_ | refine d4 ?_ | refine d3' (h := ?_) | refine d4' ?_ | refine a0 (hk := ?_) | refine b0 (hk := ?_) | refine b1 (hk := ?_) | refine b2 (hk := ?_) | refine b3 (hk := ?_) | refine b4 (hk := ?_) | refine p1 (hk := ?_) | refine g0' (hk := ?_) | refine a1 (hk := ?_) | refine a2 (hk := ?_) | refine u1 (hk := ?_) | refine u2 (hk := ?_) | refine u3 (hk := ?_) | refine u4 (hk := ?_) | refine a3 (ht := ?_) (hf := ?_) | refine a4 (ht := ?_) (hf := ?_) | refine a5 (hk := ?_) | refine b5 (hk := ?_) | refine b6 (hk := ?_) | refine b8 (hk := ?_) | refine b9 (hk := ?_) | refine b7 (hk := ?_) | refine p0 (hk := ?_) | refine g1 (hw := ?_) | refine g2 (hw := ?_) | refine g3 (hw := ?_) | refine g4 (hw := ?_) | refine e0' (hk := ?_) | refine b0' (hk := ?_) | refine b1' (hk := ?_) | refine p1' (hk := ?_) | refine e1' (hk := ?_) | refine e2' (hk := ?_) | refine u1' (hk := ?_) | refine u2' (hk := ?_) | refine u3' (hk := ?_) | refine u4' (hk := ?_) | refine e3' (ht := ?_) (hf := ?_) | refine e4' (ht := ?_) (hf := ?_) | refine b4' (hk := ?_) | refine b7b (hk := ?_) | refine e5' (hk := ?_) | refine f5' (hk := ?_) | refine f6' (hk := ?_) | refine f8' (hk := ?_) | refine f9' (hk := ?_) | refine b7' (hk := ?_) | refine p0' (hk := ?_) | refine h1'' (hw := ?_) | refine h2'' (hw := ?_) | refine h3'' (hw := ?_) | refine h4'' (hw := ?_) | (with_reducible intro hc) | refine d6 (ht := ?_) | refine d7 (hf := ?_) | refine u5 (hk := ?_) | refine u6 (hk := ?_) | refine u7 (hk := ?_) | refine u8 (hk := ?_) | refine d8 (ht := ?_) (hf := ?_) | refine d9 (ht := ?_) (hf := ?_))
      refine d5 ?_
      repeat' (first | refine c0 ?_ | refine c1 ?_ | refine c2 ?_ | refine c3 ?_ | refine c4 ?_ | refine c5 ?_ | refine c6 (h := ?_) | refine c7 ?_ | refine d2 ?_ | refine c8 ?_ | refine c9 ?_ | refine d0 ?_ | refine d1 ?_ | refine d4 ?_ | refine d3' (h := ?_) | refine d4' ?_ | refine a0 (hk := ?_) | refine b0 (hk := ?_) | refine b1 (hk := ?_) | refine b2 (hk := ?_) | refine b3 (hk := ?_) | refine b4 (hk := ?_) | refine p1 (hk := ?_) | refine g0' (hk := ?_) | refine a1 (hk := ?_) | refine a2 (hk := ?_) | refine u1 (hk := ?_) | refine u2 (hk := ?_) | refine u3 (hk := ?_) | refine u4 (hk := ?_) | refine a3 (ht := ?_) (hf := ?_) | refine a4 (ht := ?_) (hf := ?_) | refine a5 (hk := ?_) | refine b5 (hk := ?_) | refine b6 (hk := ?_) | refine b8 (hk := ?_) | refine b9 (hk := ?_) | refine b7 (hk := ?_) | refine p0 (hk := ?_) | refine g1 (hw := ?_) | refine g2 (hw := ?_) | refine g3 (hw := ?_) | refine g4 (hw := ?_) | refine e0' (hk := ?_) | refine b0' (hk := ?_) | refine b1' (hk := ?_) | refine p1' (hk := ?_) | refine e1' (hk := ?_) | refine e2' (hk := ?_) | refine u1' (hk := ?_) | refine u2' (hk := ?_) | refine u3' (hk := ?_) | refine u4' (hk := ?_) | refine e3' (ht := ?_) (hf := ?_) | refine e4' (ht := ?_) (hf := ?_) | refine b4' (hk := ?_) | refine b7b (hk := ?_) | refine e5' (hk := ?_) | refine f5' (hk := ?_) | refine f6' (hk := ?_) | refine f8' (hk := ?_) | refine f9' (hk := ?_) | refine b7' (hk := ?_) | refine p0' (hk := ?_) | refine h1'' (hw := ?_) | refine h2'' (hw := ?_) | refine h3'' (hw := ?_) | refine h4'' (hw := ?_) | (with_reducible intro hc) | refine d6 (ht := ?_) | refine d7 (hf := ?_) | refine u5 (hk := ?_) | refine u6 (hk := ?_) | refine u7 (hk := ?_) | refine u8 (hk := ?_) | refine d8 (ht := ?_) (hf := ?_) | refine d9 (ht := ?_) (hf := ?_))
      exact rI (hv := rfl)
  | succ n ih =>
    intro l S h hb
    refine E_start (h := ?_)
    repeat' (first | refine c0 ?_ | refine c1 ?_ | refine c2 ?_ | refine c3 ?_ | refine c4 ?_ | refine c5 ?_ | refine c6 (h := ?_) | refine c7 ?_ | refine d2 ?_ | refine c8 ?_ | refine c9 ?_ | refine d0 ?_ | refine d1 ?_ | refine d4 ?_ | refine d3' (h := ?_) | refine d4' ?_ | refine a0 (hk := ?_) | refine b0 (hk := ?_) | refine b1 (hk := ?_) | refine b2 (hk := ?_) | refine b3 (hk := ?_) | refine b4 (hk := ?_) | refine p1 (hk := ?_) | refine g0' (hk := ?_) | refine a1 (hk := ?_) | refine a2 (hk := ?_) | refine u1 (hk := ?_) | refine u2 (hk := ?_) | refine u3 (hk := ?_) | refine u4 (hk := ?_) | refine a3 (ht := ?_) (hf := ?_) | refine a4 (ht := ?_) (hf := ?_) | refine a5 (hk := ?_) | refine b5 (hk := ?_) | refine b6 (hk := ?_) | refine b8 (hk := ?_) | refine b9 (hk := ?_) | refine b7 (hk := ?_) | refine p0 (hk := ?_) | refine g1 (hw := ?_) | refine g2 (hw := ?_) | refine g3 (hw := ?_) | refine g4 (hw := ?_) | refine e0' (hk := ?_) | refine b0' (hk := ?_) | refine b1' (hk := ?_) | refine p1' (hk := ?_) | refine e1' (hk := ?_) | refine e2' (hk := ?_) | refine u1' (hk := ?_) | refine u2' (hk := ?_) | refine u3' (hk := ?_) | refine u4' (hk := ?_) | refine e3' (ht := ?_) (hf := ?_) | refine e4' (ht := ?_) (hf := ?_) | refine b4' (hk := ?_) | refine b7b (hk := ?_) | refine e5' (hk := ?_) | refine f5' (hk := ?_) | refine f6' (hk := ?_) | refine f8' (hk := ?_) | refine f9' (hk := ?_) | refine b7' (hk := ?_) | refine p0' (hk := ?_) | refine h1'' (hw := ?_) | refine h2'' (hw := ?_) | refine h3'' (hw := ?_) | refine h4'' (hw := ?_) | (with_reducible intro hc) | refine d6 (ht := ?_) | refine d7 (hf := ?_) | refine u5 (hk := ?_) | refine u6 (hk := ?_) | refine u7 (hk := ?_) | refine u8 (hk := ?_) | refine d8 (ht := ?_) (hf := ?_) | refine d9 (ht := ?_) (hf := ?_))
    refine C_stps l (fun pre r T' S' => ∃ (T0 : Tm) (S1 : St) (c : Nat), l.sz + r.len = c + r.sz ∧ c ≤ l.sz ∧ Ext S S1 ∧ T' = putL T0 [(3, I c), (8, .lst l.rows), (9, I l.rows.length), (10, I pre.length)] ∧ S' = S1 ++ [])
      ⟨_, _, l.len, by omega, l.len_sz, ex0, at_mk ⟨by rw [← l.rows_len]; rfl, rfl, rfl, rfl, trivial⟩, (List.append_nil _).symm⟩ ?_ ?_
    · rintro pre k v x hh t e r T' S' hl hz ⟨T0, S1, c, hq, hcl, hE, rfl, rfl⟩
      have hg := mid hl
      have hp := mid_lt hl
      have := l.rows_len
      have := l.len_sz
      have := r.len_sz
      simp only [Stps.sz, Stps.len] at hq
      repeat' (first | refine c0 ?_ | refine c1 ?_ | refine c2 ?_ | refine c3 ?_ | refine c4 ?_ | refine c5 ?_ | refine c6 (h := ?_) | refine c7 ?_ | refine d2 ?_ | refine c8 ?_ | refine c9 ?_ | refine d0 ?_ | refine d1 ?_ | refine d4 ?_ | refine d3' (h := ?_) | refine d4' ?_ | refine a0 (hk := ?_) | refine k0 (he := (by first | exact ih t _ (by omega) (by omega) | exact ih e _ (by omega) (by omega))) (hk := ?_) | refine k1 (he := (by first | exact ih t _ (by omega) (by omega) | exact ih e _ (by omega) (by omega))) (hk := ?_) | refine k0' (he := (by first | exact ih t _ (by omega) (by omega) | exact ih e _ (by omega) (by omega))) (hk := ?_) | refine k2' (he := (by first | exact ih t _ (by omega) (by omega) | exact ih e _ (by omega) (by omega))) (hk := ?_) | refine k3' (he := (by first | exact ih t _ (by omega) (by omega) | exact ih e _ (by omega) (by omega))) (hk := ?_) | refine k1' (he := (by first | exact ih t _ (by omega) (by omega) | exact ih e _ (by omega) (by omega))) (hk := ?_) | refine b0 (hk := ?_) | refine b1 (hk := ?_) | refine b2 (hk := ?_) | refine b3 (hk := ?_) | refine b4 (hk := ?_) | refine p1 (hk := ?_) | refine g0' (hk := ?_) | refine a1 (hk := ?_) | refine a2 (hk := ?_) | refine u1 (hk := ?_) | refine u2 (hk := ?_) | refine u3 (hk := ?_) | refine u4 (hk := ?_) | refine a3 (ht := ?_) (hf := ?_) | refine a4 (ht := ?_) (hf := ?_) | refine a5 (hk := ?_) | refine b5 (hk := ?_) | refine b6 (hk := ?_) | refine b8 (hk := ?_) | refine b9 (hk := ?_) | refine b7 (hk := ?_) | refine p0 (hk := ?_) | refine g1 (hw := ?_) | refine g2 (hw := ?_) | refine g3 (hw := ?_) | refine g4 (hw := ?_) | refine e0' (hk := ?_) | refine b0' (hk := ?_) | refine b1' (hk := ?_) | refine p1' (hk := ?_) | refine e1' (hk := ?_) | refine e2' (hk := ?_) | refine u1' (hk := ?_) | refine u2' (hk := ?_) | refine u3' (hk := ?_) | refine u4' (hk := ?_) | refine e3' (ht := ?_) (hf := ?_) | refine e4' (ht := ?_) (hf := ?_) | refine b4' (hk := ?_) | refine b7b (hk := ?_) | refine e5' (hk := ?_) | refine f5' (hk := ?_) | refine f6' (hk := ?_) | refine f8' (hk := ?_) | refine f9' (hk := ?_) | refine b7' (hk := ?_) | refine p0' (hk := ?_) | refine h1'' (hw := ?_) | refine h2'' (hw := ?_) | refine h3'' (hw := ?_) | refine h4'' (hw := ?_) | (with_reducible intro hc) | refine d6 (ht := ?_) | refine d7 (hf := ?_) | refine u5 (hk := ?_) | refine u6 (hk := ?_) | refine u7 (hk := ?_) | refine u8 (hk := ?_) | refine d8 (ht := ?_) (hf := ?_) | refine d9 (ht := ?_) (hf := ?_))
      · refine ⟨_, _, c + (t.sz + e.sz), by omega, by omega, ex1 hE, at_mk ⟨?_, rfl, rfl, inc (by omega), trivial⟩, (List.append_nil _).symm⟩
        show HV.int _ _ = _
        rw [i64_id (n := (t.sz : Int) + e.sz) (by omega) (by omega), i64_id (by omega) (by omega)]
        simp
      · omega
    · rintro pre T' S' hl ⟨T0, S1, c, hq, hcl, hE, rfl, rfl⟩
      repeat' (first | refine c0 ?_ | refine c1 ?_ | refine c2 ?_ | refine c3 ?_ | refine c4 ?_ | refine c5 ?_ | refine c6 (h := ?_) | refine c7 ?_ | refine d2 ?_ | refine c8 ?_ | refine c9 ?_ | refine d0 ?_ | refine d1 ?_ | refine d4 ?_ | refine d3' (h := ?_) | refine d4' ?_ | refine a0 (hk := ?_) | refine b0 (hk := ?_) | refine b1 (hk := ?_) | refine b2 (hk := ?_) | refine b3 (hk := ?_) | refine b4 (hk := ?_) | refine p1 (hk := ?_) | refine g0' (hk := ?_) | refine a1 (hk := ?_) | refine a2 (hk := ?_) | refine u1 (hk := ?_) | refine u2 (hk := ?_) | refine u3 (hk := ?_) | refine u4 (hk := ?_) | refine a3 (ht := ?_) (hf := ?_) | refine a4 (ht := ?_) (hf := ?_) | refine a5 (hk := ?_) | refine b5 (hk := ?_) | refine b6 (hk := ?_) | refine b8 (hk := ?_) | refine b9 (hk := ?_) | refine b7 (hk := ?_) | refine p0 (hk := ?_) | refine g1 (hw := ?_) | refine g2 (hw := ?_) | refine g3 (hw := ?_) | refine g4 (hw := ?_) | refine e0' (hk := ?_) | refine b0' (hk := ?_) | refine b1' (hk := ?_) | refine p1' (hk := ?_) | refine e1' (hk := ?_) | refine e2' (hk := ?_) | refine u1' (hk := ?_) | refine u2' (hk := ?_) | refine u3' (hk := ?_) | refine u4' (hk := ?_) | refine e3' (ht := ?_) (hf := ?_) | refine e4' (ht := ?_) (hf := ?_) | refine b4' (hk := ?_) | refine b7b (hk := ?_) | refine e5' (hk := ?_) | refine f5' (hk := ?_) | refine f6' (hk := ?_) | refine f8' (hk := ?_) | refine f9' (hk := ?_) | refine b7' (hk := ?_) | refine p0' (hk := ?_) | refine h1'' (hw := ?_) | refine h2'' (hw := ?_) | refine h3'' (hw := ?_) | refine h4'' (hw := ?_) | (with_reducible intro hc) | refine d6 (ht := ?_) | refine d7 (hf := ?_) | refine u5 (hk := ?_) | refine u6 (hk := ?_) | refine u7 (hk := ?_) | refine u8 (hk := ?_) | refine d8 (ht := ?_) (hf := ?_) | refine d9 (ht := ?_) (hf := ?_))
      · simp [hl] at hc
      · exact rIx hE (hv := by simp [Stps.sz, Stps.len] at hq; omega)
theorem k_impl_size' (l : Stps) (S : St) (h : l.sz ≤ 1048576) : Ev Y impl_size [.lst l.rows] S (I l.sz) S := k_impl_size _ l S (Nat.le_refl _) h
/-- Some label is not ok. -/
theorem k_IndexFunc (ls : List Lab) (g : Nat) (p : Lab → Bool) (S : St) (hl : ls.length ≤ 1048576) (hg : Y.byref g = false) (hp : ∀ l S, Ev Y g [.agg (lrow l)] S (.bool (p l)) S) : EvR Y slices_IndexFunc_impl_Label [LS ls, .fn g []] S (fun v S' => ∃ n : Int, v = I n ∧ S' = S ∧ (decide (n ≥ 0) = ls.any p)) := by
  have main : ∃ n : Int, decide (n ≥ 0) = ls.any p ∧ Ev Y slices_IndexFunc_impl_Label [LS ls, .fn g []] S (I n) S := by
    refine ⟨(match ls.findIdx? p with | some i => (i : Int) | none => -1), ?_, ?_⟩
    · cases h : ls.findIdx? p with
      | none => simp at h ⊢; exact h
      | some i =>
        have := List.findIdx?_eq_some_iff_getElem.1 h
        obtain ⟨hi, h2, _⟩ := this
        simp
        exact ⟨_, List.getElem_mem hi, h2⟩
    · refine E_start (h := ?_)
      repeat' (first | refine c0 ?_ | refine c1 ?_ | refine c2 ?_ | refine c3 ?_ | refine c4 ?_ | refine c5 ?_ | refine c6 (h := ?_) | refine c7 ?_ | refine d2 ?_ | refine c8 ?_ | refine c9 ?_ | refine d0 ?_ | refine d1 ?_ | refine d4 ?_ | refine a0 (hk := ?_) | refine b0 (hk := ?_) | refine b1 (hk := ?_) | refine b2 (hk := ?_) | refine b3 (hk := ?_) | refine b4 (hk := ?_) | refine p1 (hk := ?_) | refine g0' (hk := ?_) | refine a1 (hk := ?_) | refine a2 (hk := ?_) | refine u1 (hk := ?_) | refine u2 (hk := ?_) | refine u3 (hk := ?_) | refine u4 (hk := ?_) | refine a3 (ht := ?_) (hf := ?_) | refine a4 (ht := ?_) (hf := ?_) | refine a5 (hk := ?_) | refine b5 (hk := ?_) | refine b6 (hk := ?_) | refine b8 (hk := ?_) | refine b9 (hk := ?_) | refine b7 (hk := ?_) | refine p0 (hk := ?_) | refine g1 (hw := ?_) | refine g2 (hw := ?_) | refine g3 (hw := ?_) | refine g4 (hw := ?_) | (with_reducible intro hc) | refine d6 (ht := ?_) | refine d7 (hf := ?_) | refine u5 (hk := ?_) | refine u6 (hk := ?_) | refine u7 (hk := ?_) | refine u8 (hk := ?_) | refine d8 (ht := ?_) (hf := ?_) | refine d9 (ht := ?_) (hf := ?_))
      refine C_list ls (fun pre r T' S' => ∃ (T0 : Tm) (S1 : St), (ls.findIdx? p = (r.findIdx? p).map (· + pre.length)) ∧ Ext S S1 ∧ T' = putL T0 [(0, LS ls), (1, .fn g []), (7, I (ls.map lrow).length), (8, I pre.length)] ∧ S' = S1 ++ [])
        ⟨_, _, by simp, ex0, at_mk ⟨rfl, rfl, rfl, rfl, trivial⟩, (List.append_nil _).symm⟩ ?_ ?_
      · rintro pre x r T' S' hx ⟨T0, S1, hq, hE, rfl, rfl⟩
        have hget := mid hx
        have hlt := mid_lt hx
        repeat' (first | refine c0 ?_ | refine c1 ?_ | refine c2 ?_ | refine c3 ?_ | refine c4 ?_ | refine c5 ?_ | refine c6 (h := ?_) | refine c7 ?_ | refine d2 ?_ | refine c8 ?_ | refine c9 ?_ | refine d0 ?_ | refine d1 ?_ | refine d4 ?_ | refine a0 (hk := ?_) | refine k0 (he := (by first | exact hp _ _)) (hk := ?_) | refine k1 (he := (by first | exact hp _ _)) (hk := ?_) | refine b0 (hk := ?_) | refine b1 (hk := ?_) | refine b2 (hk := ?_) | refine b3 (hk := ?_) | refine b4 (hk := ?_) | refine p1 (hk := ?_) | refine g0' (hk := ?_) | refine a1 (hk := ?_) | refine a2 (hk := ?_) | refine u1 (hk := ?_) | refine u2 (hk := ?_) | refine u3 (hk := ?_) | refine u4 (hk := ?_) | refine a3 (ht := ?_) (hf := ?_) | refine a4 (ht := ?_) (hf := ?_) | refine a5 (hk := ?_) | refine b5 (hk := ?_) | refine b6 (hk := ?_) | refine b8 (hk := ?_) | refine b9 (hk := ?_) | refine b7 (hk := ?_) | refine p0 (hk := ?_) | refine g1 (hw := ?_) | refine g2 (hw := ?_) | refine g3 (hw := ?_) | refine g4 (hw := ?_) | (with_reducible intro hc) | refine d6 (ht := ?_) | refine d7 (hf := ?_) | refine u5 (hk := ?_) | refine u6 (hk := ?_) | refine u7 (hk := ?_) | refine u8 (hk := ?_) | refine d8 (ht := ?_) (hf := ?_) | refine d9 (ht := ?_) (hf := ?_))
        · refine rIx hE (hv := ?_)
          rw [hq, List.findIdx?_cons, hc]; simp
        · refine ⟨_, _, ?_, ex1 hE, at_mk ⟨rfl, rfl, rfl, inc (by omega), trivial⟩, (List.append_nil _).symm⟩
          rw [hq, List.findIdx?_cons, hc]; cases List.findIdx? p r <;> simp; omega
        · simp at hc; omega
      · rintro T' S' ⟨T0, S1, hq, hE, rfl, rfl⟩
        repeat' (first | refine c0 ?_ | refine c1 ?_ | refine c2 ?_ | refine c3 ?_ | refine c4 ?_ | refine c5 ?_ | refine c6 (h := ?_) | refine c7 ?_ | refine d2 ?_ | refine c8 ?_ | refine c9 ?_ | refine d0 ?_ | refine d1 ?_ | refine d4 ?_ | refine a0 (hk := ?_) | refine b0 (hk := ?_) | refine b1 (hk := ?_) | refine b2 (hk := ?_) | refine b3 (hk := ?_) | refine b4 (hk := ?_) | refine p1 (hk := ?_) | refine g0' (hk := ?_) | refine a1 (hk := ?_) | refine a2 (hk := ?_) | refine u1 (hk := ?_) | refine u2 (hk := ?_) | refine u3 (hk := ?_) | refine u4 (hk := ?_) | refine a3 (ht := ?_) (hf := ?_) | refine a4 (ht := ?_) (hf := ?_) | refine a5 (hk := ?_) | refine b5 (hk := ?_) | refine b6 (hk := ?_) | refine b8 (hk := ?_) | refine b9 (hk := ?_) | refine b7 (hk := ?_) | refine p0 (hk := ?_) | refine g1 (hw := ?_) | refine g2 (hw := ?_) | refine g3 (hw := ?_) | refine g4 (hw := ?_) | (with_reducible intro hc) | refine d6 (ht := ?_) | refine d7 (hf := ?_) | refine u5 (hk := ?_) | refine u6 (hk := ?_) | refine u7 (hk := ?_) | refine u8 (hk := ?_) | refine d8 (ht := ?_) (hf := ?_) | refine d9 (ht := ?_) (hf := ?_))
        · simp at hc
        · refine rIx hE (hv := ?_)
          rw [hq]; rfl
  obtain ⟨n, h1, h2⟩ := main
  exact ⟨_, _, h2, n, rfl, rfl, h1⟩
theorem k_ContainsFunc (ls : List Lab) (g : Nat) (p : Lab → Bool) (S : St) (hl : ls.length ≤ 1048576) (hg : Y.byref g = false) (hp : ∀ l S, Ev Y g [.agg (lrow l)] S (.bool (p l)) S) : Ev Y slices_ContainsFunc_impl_Label [LS ls, .fn g []] S (.bool (ls.any p)) S := by
  obtain ⟨_, _, h1, n, rfl, rfl, h2⟩ := k_IndexFunc ls g p (S ++ []) hl hg hp
  refine E_start (h := ?_)
  repeat' (first | refine c0 ?_ | refine c1 ?_ | refine c2 ?_ | refine c3 ?_ | refine c4 ?_ | refine c5 ?_ | refine c6 (h := ?_) | refine c7 ?_ | refine d2 ?_ | refine c8 ?_ | refine c9 ?_ | refine d0 ?_ | refine d1 ?_ | refine d4 ?_ | refine a0 (hk := ?_) | refine k0 (he := (by first | exact h1)) (hk := ?_) | refine k1 (he := (by first | exact h1)) (hk := ?_) | refine b0 (hk := ?_) | refine b1 (hk := ?_) | refine b2 (hk := ?_) | refine b3 (hk := ?_) | refine b4 (hk := ?_) | refine p1 (hk := ?_) | refine g0' (hk := ?_) | refine a1 (hk := ?_) | refine a2 (hk := ?_) | refine u1 (hk := ?_) | refine u2 (hk := ?_) | refine u3 (hk := ?_) | refine u4 (hk := ?_) | refine a3 (ht := ?_) (hf := ?_) | refine a4 (ht := ?_) (hf := ?_) | refine a5 (hk := ?_) | refine b5 (hk := ?_) | refine b6 (hk := ?_) | refine b8 (hk := ?_) | refine b9 (hk := ?_) | refine b7 (hk := ?_) | refine p0 (hk := ?_) | refine g1 (hw := ?_) | refine g2 (hw := ?_) | refine g3 (hw := ?_) | refine g4 (hw := ?_) | (with_reducible intro hc) | refine d6 (ht := ?_) | refine d7 (hf := ?_) | refine u5 (hk := ?_) | refine u6 (hk := ?_) | refine u7 (hk := ?_) | refine u8 (hk := ?_) | refine d8 (ht := ?_) (hf := ?_) | refine d9 (ht := ?_) (hf := ?_))
  exact rB (hv := h2)
end Go.Proofs.X
end
section
namespace Go.Proofs.X
open Go Go.Proofs.XVai Go.Proofs Go.Proofs.XN
set_option linter.unusedVariables false
set_option linter.unusedSimpArgs false
theorem vnone (x : Vl) : (x.kind == 0 && (x.a == 0 && (x.b == 0 && true))) = x.none := by simp [Vl.none]
theorem lens1 {t e : Stps} (h : t.sz + e.sz ≤ 1048576) : decide (IntKind.i64.wrap ((t.rows.length : Int) + (e.rows.length : Int)) > 0) = !(t.len + e.len == 0) := by
  have := t.len_sz
  have := e.len_sz
  rw [Stps.rows_len, Stps.rows_len, i64_id (by omega) (by omega), Bool.eq_iff_iff]
  simp; omega
set_option maxHeartbeats 2000000 in
theorem k_impl_stepsOk (n : Nat) : ∀ (l : Stps) (d : Int) (ls : List Lab) (ss : Stps) (S : St), l.sz ≤ n → l.sz ≤ 1048576 → ls.length ≤ 1048576 → -9 ≤ d → d ≤ 100 → Ev Y impl_Prog_stepsOk [PR ls ss, .lst l.rows, I d] S (.bool (stepsOk ls.length l d)) S := by
  induction n with
  | zero =>
    intro l d ls ss S h _ hl hd0 hd1
    cases l with
    | cons => simp [Stps.sz] at h
    | nil =>
      refine E_start (h := ?_)
      repeat' (first | refine c0 ?_ | refine c1 ?_ | refine c2 ?_ | refine c3 ?_ | refine c4 ?_ | refine c5 ?_ | refine c6 (h := ?_) | refine c7 ?_ | refine d2 ?_ | refine c8 ?_ | refine c9 ?_ | refine d0 ?_ | refine d1 ?_ | refine d4 ?_ | refine a0 (hk := ?_) | refine b0 (hk := ?_) | refine b1 (hk := ?_) | refine b2 (hk := ?_) | refine b3 (hk := ?_) | refine b4 (hk := ?_) | refine p1 (hk := ?_) | refine g0' (hk := ?_) | refine a1 (hk := ?_) | refine a2 (hk := ?_) | refine u1 (hk := ?_) | refine u2 (hk := ?_) | refine u3 (hk := ?_) | refine u4 (hk := ?_) | refine a3 (ht := ?_) (hf := ?_) | refine a4 (ht := ?_) (hf := ?_) | refine a5 (hk := ?_) | refine b5 (hk := ?_) | refine b6 (hk := ?_) | refine b8 (hk := ?_) | refine b9 (hk := ?_) | refine b7 (hk := ?_) | refine p0 (hk := ?_) | refine g1 (hw := ?_) | refine g2 (hw := ?_) | refine g3 (hw := ?_) | refine g4 (hw := ?_) | (with_reducible intro hc) | refine d6 (ht := ?_) | refine d7 (hf := ?_) | refine u5 (hk := ?_) | refine u6 (hk := ?_) | refine u7 (hk := ?_) | refine u8 (hk := ?_) | refine d8 (ht := ?_) (hf := ?_) | refine d9 (ht := ?_) (hf := ?_))
      refine d5 ?_
      repeat' (first | refine c0 ?_ | refine c1 ?_ | refine c2 ?_ | refine c3 ?_ | refine c4 ?_ | refine c5 ?_ | refine c6 (h := ?_) | refine c7 ?_ | refine d2 ?_ | refine c8 ?_ | refine c9 ?_ | refine d0 ?_ | refine d1 ?_ | refine d4 ?_ | refine a0 (hk := ?_) | refine b0 (hk := ?_) | refine b1 (hk := ?_) | refine b2 (hk := ?_) | refine b3 (hk := ?_) | refine b4 (hk := ?_) | refine p1 (hk := ?_) | refine g0' (hk := ?_) | refine a1 (hk := ?_) | refine a2 (hk := ?_) | refine u1 (hk := ?_) | refine u2 (hk := ?_) | refine u3 (hk := ?_) | refine u4 (hk := ?_) | refine a3 (ht := ?_) (hf := ?_) | refine a4 (ht := ?_) (hf := ?_) | refine a5 (hk := ?_) | refine b5 (hk := ?_) | refine b6 (hk := ?_) | refine b8 (hk := ?_) | refine b9 (hk := ?_) | refine b7 (hk := ?_) | refine p0 (hk := ?_) | refine g1 (hw := ?_) | refine g2 (hw := ?_) | refine g3 (hw := ?_) | refine g4 (hw := ?_) | (with_reducible intro hc) | refine d6 (ht := ?_) | refine d7 (hf := ?_) | refine u5 (hk := ?_) | refine u6 (hk := ?_) | refine u7 (hk := ?_) | refine u8 (hk := ?_) | refine d8 (ht := ?_) (hf := ?_) | refine d9 (ht := ?_) (hf := ?_))
      exact rB (hv := rfl)
  | succ n ih =>
    intro l d ls ss S h hb hl hd0 hd1
    have ih1 : ∀ (t : Stps) (S : St), 1 ≤ d → t.sz ≤ n → t.sz ≤ 1048576 → Ev Y impl_Prog_stepsOk [PR ls ss, .lst t.rows, .int .i64 (IntKind.i64.wrap (d - 1))] S (.bool (stepsOk ls.length t (d - 1))) S := by
      rw [i64_id (n := d - 1) (by omega) (by omega)]; exact fun t S h1 h2 h3 => ih t (d - 1) ls ss S h2 h3 hl (by omega) (by omega)
    clear ih
    refine E_start (h := ?_)
    repeat' (first | refine c0 ?_ | refine c1 ?_ | refine c2 ?_ | refine c3 ?_ | refine c4 ?_ | refine c5 ?_ | refine c6 (h := ?_) | refine c7 ?_ | refine d2 ?_ | refine c8 ?_ | refine c9 ?_ | refine d0 ?_ | refine d1 ?_ | refine d4 ?_ | refine a0 (hk := ?_) | refine b0 (hk := ?_) | refine b1 (hk := ?_) | refine b2 (hk := ?_) | refine b3 (hk := ?_) | refine b4 (hk := ?_) | refine p1 (hk := ?_) | refine g0' (hk := ?_) | refine a1 (hk := ?_) | refine a2 (hk := ?_) | refine u1 (hk := ?_) | refine u2 (hk := ?_) | refine u3 (hk := ?_) | refine u4 (hk := ?_) | refine a3 (ht := ?_) (hf := ?_) | refine a4 (ht := ?_) (hf := ?_) | refine a5 (hk := ?_) | refine b5 (hk := ?_) | refine b6 (hk := ?_) | refine b8 (hk := ?_) | refine b9 (hk := ?_) | refine b7 (hk := ?_) | refine p0 (hk := ?_) | refine g1 (hw := ?_) | refine g2 (hw := ?_) | refine g3 (hw := ?_) | refine g4 (hw := ?_) | (with_reducible intro hc) | refine d6 (ht := ?_) | refine d7 (hf := ?_) | refine u5 (hk := ?_) | refine u6 (hk := ?_) | refine u7 (hk := ?_) | refine u8 (hk := ?_) | refine d8 (ht := ?_) (hf := ?_) | refine d9 (ht := ?_) (hf := ?_))
    refine C_stps l (fun pre r T' S' => ∃ (T0 : Tm) (S1 : St), stepsOk ls.length l d = stepsOk ls.length r d ∧ Ext S S1 ∧ S1[S.length + 0]? = some (.cells false [[LS ls, .lst ss.rows]]) ∧ T' = putL T0 [(2, I d), (3, .ptr (S.length + 0) 1 0 0), (10, .lst l.rows), (11, I l.rows.length), (12, I pre.length)] ∧ S' = S1 ++ [])
      ⟨_, _, rfl, ex0, get_own rfl, at_mk ⟨rfl, rfl, rfl, rfl, rfl, trivial⟩, (List.append_nil _).symm⟩ ?_ ?_
    · rintro pre k v x hh t e r T' S' hx hz ⟨T0, S1, hq, hE, h0, rfl, rfl⟩
      have hg := mid hx
      have hp := mid_lt hx
      have := l.rows_len
      have := l.len_sz
      have hz1 := lens1 (t := t) (e := e) (by omega)
      have hbad : stepOk ls.length k v x hh t e d = false → stepsOk ls.length l d = false := fun h => by rw [hq, stepsOk_cons, h]; rfl
      have hgood : stepOk ls.length k v x hh t e d = true → stepsOk ls.length l d = stepsOk ls.length r d := fun h => by rw [hq, stepsOk_cons, h]; rfl
      clear hq hx
      by_cases k1 : k = 1
      · subst k1
        repeat' (first | refine c0 ?_ | refine c1 ?_ | refine c2 ?_ | refine c3 ?_ | refine c4 ?_ | refine c5 ?_ | refine c6 (h := ?_) | refine c7 ?_ | refine d2 ?_ | refine c8 ?_ | refine c9 ?_ | refine d0 ?_ | refine d1 ?_ | refine d4 ?_ | refine a0 (hk := ?_) | refine k0 (he := (by first | exact k_impl_Prog_isVar _ _ _ _ hl | exact k_impl_Prog_valOk _ _ _ _ hl | exact k_impl_isHost _ _ | exact ih1 _ _ (by omega) (by omega) (by omega))) (hk := ?_) | refine k1 (he := (by first | exact k_impl_Prog_isVar _ _ _ _ hl | exact k_impl_Prog_valOk _ _ _ _ hl | exact k_impl_isHost _ _ | exact ih1 _ _ (by omega) (by omega) (by omega))) (hk := ?_) | refine b0 (hk := ?_) | refine b1 (hk := ?_) | refine b2 (hk := ?_) | refine b3 (hk := ?_) | refine b4 (hk := ?_) | refine p1 (hk := ?_) | refine g0' (hk := ?_) | refine a1 (hk := ?_) | refine a2 (hk := ?_) | refine u1 (hk := ?_) | refine u2 (hk := ?_) | refine u3 (hk := ?_) | refine u4 (hk := ?_) | refine a3 (ht := ?_) (hf := ?_) | refine a4 (ht := ?_) (hf := ?_) | refine a5 (hk := ?_) | refine b5 (hk := ?_) | refine b6 (hk := ?_) | refine b8 (hk := ?_) | refine b9 (hk := ?_) | refine b7 (hk := ?_) | refine p0 (hk := ?_) | refine g1 (hw := ?_) | refine g2 (hw := ?_) | refine g3 (hw := ?_) | refine g4 (hw := ?_) | (with_reducible intro hc) | refine d6 (ht := ?_) | refine d7 (hf := ?_) | refine u5 (hk := ?_) | refine u6 (hk := ?_) | refine u7 (hk := ?_) | refine u8 (hk := ?_) | refine d8 (ht := ?_) (hf := ?_) | refine d9 (ht := ?_) (hf := ?_))
        all_goals try (refine rBx hE (hv := (hbad ?_).symm); clear hbad hgood ih1 h0 hE hg; (try simp only [vnone] at *); simp_all [stepOk]; done)
        all_goals try (refine ⟨_, _, hgood ?_, ex1 hE, get_old h0, at_mk ⟨rfl, rfl, rfl, rfl, inc (by omega), trivial⟩, (List.append_nil _).symm⟩; clear hbad hgood ih1 h0 hE hg; (try simp only [vnone] at *); simp_all [stepOk]; done)
        all_goals try omega
      by_cases k2 : k = 2
      · subst k2
        repeat' (first | refine c0 ?_ | refine c1 ?_ | refine c2 ?_ | refine c3 ?_ | refine c4 ?_ | refine c5 ?_ | refine c6 (h := ?_) | refine c7 ?_ | refine d2 ?_ | refine c8 ?_ | refine c9 ?_ | refine d0 ?_ | refine d1 ?_ | refine d4 ?_ | refine a0 (hk := ?_) | refine k0 (he := (by first | exact k_impl_Prog_isVar _ _ _ _ hl | exact k_impl_Prog_valOk _ _ _ _ hl | exact k_impl_isHost _ _ | exact ih1 _ _ (by omega) (by omega) (by omega))) (hk := ?_) | refine k1 (he := (by first | exact k_impl_Prog_isVar _ _ _ _ hl | exact k_impl_Prog_valOk _ _ _ _ hl | exact k_impl_isHost _ _ | exact ih1 _ _ (by omega) (by omega) (by omega))) (hk := ?_) | refine b0 (hk := ?_) | refine b1 (hk := ?_) | refine b2 (hk := ?_) | refine b3 (hk := ?_) | refine b4 (hk := ?_) | refine p1 (hk := ?_) | refine g0' (hk := ?_) | refine a1 (hk := ?_) | refine a2 (hk := ?_) | refine u1 (hk := ?_) | refine u2 (hk := ?_) | refine u3 (hk := ?_) | refine u4 (hk := ?_) | refine a3 (ht := ?_) (hf := ?_) | refine a4 (ht := ?_) (hf := ?_) | refine a5 (hk := ?_) | refine b5 (hk := ?_) | refine b6 (hk := ?_) | refine b8 (hk := ?_) | refine b9 (hk := ?_) | refine b7 (hk := ?_) | refine p0 (hk := ?_) | refine g1 (hw := ?_) | refine g2 (hw := ?_) | refine g3 (hw := ?_) | refine g4 (hw := ?_) | (with_reducible intro hc) | refine d6 (ht := ?_) | refine d7 (hf := ?_) | refine u5 (hk := ?_) | refine u6 (hk := ?_) | refine u7 (hk := ?_) | refine u8 (hk := ?_) | refine d8 (ht := ?_) (hf := ?_) | refine d9 (ht := ?_) (hf := ?_))
        all_goals try (refine rBx hE (hv := (hbad ?_).symm); clear hbad hgood ih1 h0 hE hg; (try simp only [vnone] at *); simp_all [stepOk]; done)
        all_goals try (refine ⟨_, _, hgood ?_, ex1 hE, get_old h0, at_mk ⟨rfl, rfl, rfl, rfl, inc (by omega), trivial⟩, (List.append_nil _).symm⟩; clear hbad hgood ih1 h0 hE hg; (try simp only [vnone] at *); simp_all [stepOk]; done)
        all_goals try omega
      by_cases k3 : k = 3
      · subst k3
        repeat' (first | refine c0 ?_ | refine c1 ?_ | refine c2 ?_ | refine c3 ?_ | refine c4 ?_ | refine c5 ?_ | refine c6 (h := ?_) | refine c7 ?_ | refine d2 ?_ | refine c8 ?_ | refine c9 ?_ | refine d0 ?_ | refine d1 ?_ | refine d4 ?_ | refine a0 (hk := ?_) | refine k0 (he := (by first | exact k_impl_Prog_isVar _ _ _ _ hl | exact k_impl_Prog_valOk _ _ _ _ hl | exact k_impl_isHost _ _ | exact ih1 _ _ (by omega) (by omega) (by omega))) (hk := ?_) | refine k1 (he := (by first | exact k_impl_Prog_isVar _ _ _ _ hl | exact k_impl_Prog_valOk _ _ _ _ hl | exact k_impl_isHost _ _ | exact ih1 _ _ (by omega) (by omega) (by omega))) (hk := ?_) | refine b0 (hk := ?_) | refine b1 (hk := ?_) | refine b2 (hk := ?_) | refine b3 (hk := ?_) | refine b4 (hk := ?_) | refine p1 (hk := ?_) | refine g0' (hk := ?_) | refine a1 (hk := ?_) | refine a2 (hk := ?_) | refine u1 (hk := ?_) | refine u2 (hk := ?_) | refine u3 (hk := ?_) | refine u4 (hk := ?_) | refine a3 (ht := ?_) (hf := ?_) | refine a4 (ht := ?_) (hf := ?_) | refine a5 (hk := ?_) | refine b5 (hk := ?_) | refine b6 (hk := ?_) | refine b8 (hk := ?_) | refine b9 (hk := ?_) | refine b7 (hk := ?_) | refine p0 (hk := ?_) | refine g1 (hw := ?_) | refine g2 (hw := ?_) | refine g3 (hw := ?_) | refine g4 (hw := ?_) | (with_reducible intro hc) | refine d6 (ht := ?_) | refine d7 (hf := ?_) | refine u5 (hk := ?_) | refine u6 (hk := ?_) | refine u7 (hk := ?_) | refine u8 (hk := ?_) | refine d8 (ht := ?_) (hf := ?_) | refine d9 (ht := ?_) (hf := ?_))
        all_goals try (refine rBx hE (hv := (hbad ?_).symm); clear hbad hgood ih1 h0 hE hg; (try simp only [vnone] at *); simp_all [stepOk]; done)
        all_goals try (refine ⟨_, _, hgood ?_, ex1 hE, get_old h0, at_mk ⟨rfl, rfl, rfl, rfl, inc (by omega), trivial⟩, (List.append_nil _).symm⟩; clear hbad hgood ih1 h0 hE hg; (try simp only [vnone] at *); simp_all [stepOk]; done)
        all_goals try omega
      have q1 : (k == 1) = false := by simpa using k1
      have q2 : (k == 2) = false := by simpa using k2
      have q3 : (k == 3) = false := by simpa using k3
      have q4 : (k != 1) = true := by simpa using k1
      have q5 : (k != 2) = true := by simpa using k2
      have q6 : (k != 3) = true := by simpa using k3
      have hbad' := hbad (by simp [stepOk, k1, k2, k3])
      clear hbad hgood
      repeat' (first | refine c0 ?_ | refine c1 ?_ | refine c2 ?_ | refine c3 ?_ | refine c4 ?_ | refine c5 ?_ | refine c6 (h := ?_) | refine c7 ?_ | refine d2 ?_ | refine c8 ?_ | refine c9 ?_ | refine d0 ?_ | refine d1 ?_ | refine d4 ?_ | refine a0 (hk := ?_) | refine k0 (he := (by first | exact k_impl_Prog_isVar _ _ _ _ hl | exact k_impl_Prog_valOk _ _ _ _ hl | exact k_impl_isHost _ _ | exact ih1 _ _ (by omega) (by omega) (by omega))) (hk := ?_) | refine k1 (he := (by first | exact k_impl_Prog_isVar _ _ _ _ hl | exact k_impl_Prog_valOk _ _ _ _ hl | exact k_impl_isHost _ _ | exact ih1 _ _ (by omega) (by omega) (by omega))) (hk := ?_) | refine b0 (hk := ?_) | refine b1 (hk := ?_) | refine b2 (hk := ?_) | refine b3 (hk := ?_) | refine b4 (hk := ?_) | refine p1 (hk := ?_) | refine g0' (hk := ?_) | refine a1 (hk := ?_) | refine a2 (hk := ?_) | refine u1 (hk := ?_) | refine u2 (hk := ?_) | refine u3 (hk := ?_) | refine u4 (hk := ?_) | refine a3 (ht := ?_) (hf := ?_) | refine a4 (ht := ?_) (hf := ?_) | refine a5 (hk := ?_) | refine b5 (hk := ?_) | refine b6 (hk := ?_) | refine b8 (hk := ?_) | refine b9 (hk := ?_) | refine b7 (hk := ?_) | refine p0 (hk := ?_) | refine g1 (hw := ?_) | refine g2 (hw := ?_) | refine g3 (hw := ?_) | refine g4 (hw := ?_) | (with_reducible intro hc) | refine d6 (ht := ?_) | refine d7 (hf := ?_) | refine u5 (hk := ?_) | refine u6 (hk := ?_) | refine u7 (hk := ?_) | refine u8 (hk := ?_) | refine d8 (ht := ?_) (hf := ?_) | refine d9 (ht := ?_) (hf := ?_))
      all_goals first
        | exact rBx hE (hv := hbad'.symm)
        | (exfalso; simp_all; done)
        | omega
    · rintro pre T' S' hx ⟨T0, S1, hq, hE, h0, rfl, rfl⟩
      repeat' (first | refine c0 ?_ | refine c1 ?_ | refine c2 ?_ | refine c3 ?_ | refine c4 ?_ | refine c5 ?_ | refine c6 (h := ?_) | refine c7 ?_ | refine d2 ?_ | refine c8 ?_ | refine c9 ?_ | refine d0 ?_ | refine d1 ?_ | refine d4 ?_ | refine a0 (hk := ?_) | refine b0 (hk := ?_) | refine b1 (hk := ?_) | refine b2 (hk := ?_) | refine b3 (hk := ?_) | refine b4 (hk := ?_) | refine p1 (hk := ?_) | refine g0' (hk := ?_) | refine a1 (hk := ?_) | refine a2 (hk := ?_) | refine u1 (hk := ?_) | refine u2 (hk := ?_) | refine u3 (hk := ?_) | refine u4 (hk := ?_) | refine a3 (ht := ?_) (hf := ?_) | refine a4 (ht := ?_) (hf := ?_) | refine a5 (hk := ?_) | refine b5 (hk := ?_) | refine b6 (hk := ?_) | refine b8 (hk := ?_) | refine b9 (hk := ?_) | refine b7 (hk := ?_) | refine p0 (hk := ?_) | refine g1 (hw := ?_) | refine g2 (hw := ?_) | refine g3 (hw := ?_) | refine g4 (hw := ?_) | (with_reducible intro hc) | refine d6 (ht := ?_) | refine d7 (hf := ?_) | refine u5 (hk := ?_) | refine u6 (hk := ?_) | refine u7 (hk := ?_) | refine u8 (hk := ?_) | refine d8 (ht := ?_) (hf := ?_) | refine d9 (ht := ?_) (hf := ?_))
      · simp [hx] at hc
      · exact rBx hE (hv := by rw [hq]; rfl)
theorem k_impl_stepsOk' (l : Stps) (ls : List Lab) (ss : Stps) (S : St) (h : l.sz ≤ 1048576) (hl : ls.length ≤ 1048576) : Ev Y impl_Prog_stepsOk [PR ls ss, .lst l.rows, I 3] S (.bool (stepsOk ls.length l 3)) S := k_impl_stepsOk _ l 3 ls ss S (Nat.le_refl _) h hl (by omega) (by omega)
theorem k_impl_ProgOk (ls : List Lab) (ss : Stps) (S : St) (hs : ss.sz ≤ 1048576) (hl : ls.length ≤ 1048576) : Ev Y impl_ProgOk [PR ls ss] S (.bool (progOk ls ss)) S := by
  have e1 : (!ls.any fun l => !labOk l) = ls.all labOk := by rw [Bool.eq_iff_iff]; simp
  refine E_start (h := ?_)
  repeat' (first | refine c0 ?_ | refine c1 ?_ | refine c2 ?_ | refine c3 ?_ | refine c4 ?_ | refine c5 ?_ | refine c6 (h := ?_) | refine c7 ?_ | refine d2 ?_ | refine c8 ?_ | refine c9 ?_ | refine d0 ?_ | refine d1 ?_ | refine d4 ?_ | refine a0 (hk := ?_) | refine k0 (he := (by first | exact k_ContainsFunc _ _ (fun l => !labOk l) _ hl rfl k_impl_ProgOk_1 | exact k_impl_stepsOk' _ _ _ _ hs hl | exact k_impl_size' _ _ hs)) (hk := ?_) | refine k1 (he := (by first | exact k_ContainsFunc _ _ (fun l => !labOk l) _ hl rfl k_impl_ProgOk_1 | exact k_impl_stepsOk' _ _ _ _ hs hl | exact k_impl_size' _ _ hs)) (hk := ?_) | refine b0 (hk := ?_) | refine b1 (hk := ?_) | refine b2 (hk := ?_) | refine b3 (hk := ?_) | refine b4 (hk := ?_) | refine p1 (hk := ?_) | refine g0' (hk := ?_) | refine a1 (hk := ?_) | refine a2 (hk := ?_) | refine u1 (hk := ?_) | refine u2 (hk := ?_) | refine u3 (hk := ?_) | refine u4 (hk := ?_) | refine a3 (ht := ?_) (hf := ?_) | refine a4 (ht := ?_) (hf := ?_) | refine a5 (hk := ?_) | refine b5 (hk := ?_) | refine b6 (hk := ?_) | refine b8 (hk := ?_) | refine b9 (hk := ?_) | refine b7 (hk := ?_) | refine p0 (hk := ?_) | refine g1 (hw := ?_) | refine g2 (hw := ?_) | refine g3 (hw := ?_) | refine g4 (hw := ?_) | (with_reducible intro hc) | refine d6 (ht := ?_) | refine d7 (hf := ?_) | refine u5 (hk := ?_) | refine u6 (hk := ?_) | refine u7 (hk := ?_) | refine u8 (hk := ?_) | refine d8 (ht := ?_) (hf := ?_) | refine d9 (ht := ?_) (hf := ?_))
  all_goals
    refine rB (hv := ?_)
    try simp only [e1] at *
    clear e1
    simp only [List.length_map, Bool.not_eq_true', Bool.not_eq_false'] at *
    first
      | (simp_all [progOk]; done)
      | (have : ls.length ≤ 4 := by omega
         simp only [progOk, *, decide_true, Bool.true_and, Bool.and_true, Bool.false_and, Bool.and_false]; try simp; try omega)
      | (have : ¬ ls.length ≤ 4 := by omega
         simp [progOk, this])
end Go.Proofs.X
end
section
namespace Go.Proofs.X
open Go Go.Proofs.XVai Go.Proofs Go.Proofs.XN
set_option linter.unusedVariables false
set_option linter.unusedSimpArgs false
set_option maxHeartbeats 4000000
/-! ### bits -/
theorem setB_nat {v : Int} (h : setB v = true) : ∃ n : Nat, n ∈ List.range 8 ∧ v = n := by
  simp [setB, inB] at h
  exact ⟨v.toNat, by simp; omega, by omega⟩
theorem has_fin : ∀ n ∈ List.range 8, ∀ i ∈ List.range 3, hasG (n : Int) (i : Int) = hasI (n : Int) (i : Int) := by decide +kernel
theorem has_eq {v : Int} (h : setB v = true) (i : Int) : hasI v i = hasG v i := by
  by_cases hi : 0 ≤ i ∧ i < 3
  · obtain ⟨n, hn, rfl⟩ := setB_nat h
    obtain ⟨j, rfl⟩ := Int.eq_ofNat_of_zero_le hi.1
    exact (has_fin n hn j (by simp; omega)).symm
  · have h1 : inB i 0 2 = false := by simp [inB]; omega
    have h2 : decide (0 ≤ i ∧ i < 3) = false := by simpa using hi
    simp only [hasI, hasG, h1, h2, Bool.false_and]

theorem k_impl_NumsOk (ls : List Lab) (ss : Stps) (nums : List Int) (S : St) (hs : ss.sz ≤ 1048576) (hl : ls.length ≤ 1048576) (hn : nums.length ≤ 1048576) : Ev Y impl_NumsOk [PR ls ss, L nums] S (.bool (numsOk ls ss nums)) S := by
  refine E_start (h := ?_)
  repeat' (first | refine c0 ?_ | refine c1 ?_ | refine c2 ?_ | refine c3 ?_ | refine c4 ?_ | refine c5 ?_ | refine c6 (h := ?_) | refine c7 ?_ | refine d2 ?_ | refine c8 ?_ | refine c9 ?_ | refine d0 ?_ | refine d1 ?_ | refine d4 ?_ | refine a0 (hk := ?_) | refine b0 (hk := ?_) | refine b1 (hk := ?_) | refine b2 (hk := ?_) | refine b3 (hk := ?_) | refine b4 (hk := ?_) | refine p1 (hk := ?_) | refine g0' (hk := ?_) | refine a1 (hk := ?_) | refine a2 (hk := ?_) | refine u1 (hk := ?_) | refine u2 (hk := ?_) | refine u3 (hk := ?_) | refine u4 (hk := ?_) | refine a3 (ht := ?_) (hf := ?_) | refine a4 (ht := ?_) (hf := ?_) | refine a5 (hk := ?_) | refine b5 (hk := ?_) | refine b6 (hk := ?_) | refine b8 (hk := ?_) | refine b9 (hk := ?_) | refine b7 (hk := ?_) | refine p0 (hk := ?_) | refine g1 (hw := ?_) | refine g2 (hw := ?_) | refine g3 (hw := ?_) | refine g4 (hw := ?_) | (with_reducible intro hc) | refine d6 (ht := ?_) | refine d7 (hf := ?_) | refine u5 (hk := ?_) | refine u6 (hk := ?_) | refine u7 (hk := ?_) | refine u8 (hk := ?_) | refine d8 (ht := ?_) (hf := ?_) | refine d9 (ht := ?_) (hf := ?_))
  refine C_list nums (fun pre r T' S' => ∃ (T0 : Tm) (S1 : St), (nums.all (fun n => inB n 0 9) = r.all (fun n => inB n 0 9)) ∧ Ext S S1 ∧ S1[S.length + 0]? = some (.cells false [[LS ls, .lst ss.rows]]) ∧ T' = putL T0 [(1, L nums), (2, .ptr (S.length + 0) 1 0 0), (7, L nums), (8, I (nums.map irow).length), (9, I pre.length)] ∧ S' = S1 ++ [])
    ⟨_, _, rfl, ex0, get_own rfl, at_mk ⟨rfl, rfl, rfl, rfl, rfl, trivial⟩, (List.append_nil _).symm⟩ ?_ ?_
  · rintro pre x r T' S' hx ⟨T0, S1, hq, hE, h0, rfl, rfl⟩
    have hg := mid hx
    have hlt := mid_lt hx
    repeat' (first | refine c0 ?_ | refine c1 ?_ | refine c2 ?_ | refine c3 ?_ | refine c4 ?_ | refine c5 ?_ | refine c6 (h := ?_) | refine c7 ?_ | refine d2 ?_ | refine c8 ?_ | refine c9 ?_ | refine d0 ?_ | refine d1 ?_ | refine d4 ?_ | refine a0 (hk := ?_) | refine k0 (he := (by first | exact k_impl_isNum _ _)) (hk := ?_) | refine k1 (he := (by first | exact k_impl_isNum _ _)) (hk := ?_) | refine b0 (hk := ?_) | refine b1 (hk := ?_) | refine b2 (hk := ?_) | refine b3 (hk := ?_) | refine b4 (hk := ?_) | refine p1 (hk := ?_) | refine g0' (hk := ?_) | refine a1 (hk := ?_) | refine a2 (hk := ?_) | refine u1 (hk := ?_) | refine u2 (hk := ?_) | refine u3 (hk := ?_) | refine u4 (hk := ?_) | refine a3 (ht := ?_) (hf := ?_) | refine a4 (ht := ?_) (hf := ?_) | refine a5 (hk := ?_) | refine b5 (hk := ?_) | refine b6 (hk := ?_) | refine b8 (hk := ?_) | refine b9 (hk := ?_) | refine b7 (hk := ?_) | refine p0 (hk := ?_) | refine g1 (hw := ?_) | refine g2 (hw := ?_) | refine g3 (hw := ?_) | refine g4 (hw := ?_) | (with_reducible intro hc) | refine d6 (ht := ?_) | refine d7 (hf := ?_) | refine u5 (hk := ?_) | refine u6 (hk := ?_) | refine u7 (hk := ?_) | refine u8 (hk := ?_) | refine d8 (ht := ?_) (hf := ?_) | refine d9 (ht := ?_) (hf := ?_))
    · refine rBx hE (hv := ?_)
      simp at hc
      simp only [numsOk, hq, List.all_cons, hc, Bool.false_and, Bool.and_false]
    · refine ⟨_, _, ?_, ex1 hE, get_old h0, at_mk ⟨rfl, rfl, rfl, rfl, inc (by omega), trivial⟩, (List.append_nil _).symm⟩
      simp at hc
      simp only [hq, List.all_cons, hc, Bool.true_and]
    · simp at hc; omega
  · rintro T' S' ⟨T0, S1, hq, hE, h0, rfl, rfl⟩
    have hq : nums.all (fun n => inB n 0 9) = true := hq
    repeat' (first | refine c0 ?_ | refine c1 ?_ | refine c2 ?_ | refine c3 ?_ | refine c4 ?_ | refine c5 ?_ | refine c6 (h := ?_) | refine c7 ?_ | refine d2 ?_ | refine c8 ?_ | refine c9 ?_ | refine d0 ?_ | refine d1 ?_ | refine d4 ?_ | refine a0 (hk := ?_) | refine k0 (he := (by first | exact k_impl_ProgOk _ _ _ hs hl)) (hk := ?_) | refine k1 (he := (by first | exact k_impl_ProgOk _ _ _ hs hl)) (hk := ?_) | refine b0 (hk := ?_) | refine b1 (hk := ?_) | refine b2 (hk := ?_) | refine b3 (hk := ?_) | refine b4 (hk := ?_) | refine p1 (hk := ?_) | refine g0' (hk := ?_) | refine a1 (hk := ?_) | refine a2 (hk := ?_) | refine u1 (hk := ?_) | refine u2 (hk := ?_) | refine u3 (hk := ?_) | refine u4 (hk := ?_) | refine a3 (ht := ?_) (hf := ?_) | refine a4 (ht := ?_) (hf := ?_) | refine a5 (hk := ?_) | refine b5 (hk := ?_) | refine b6 (hk := ?_) | refine b8 (hk := ?_) | refine b9 (hk := ?_) | refine b7 (hk := ?_) | refine p0 (hk := ?_) | refine g1 (hw := ?_) | refine g2 (hw := ?_) | refine g3 (hw := ?_) | refine g4 (hw := ?_) | (with_reducible intro hc) | refine d6 (ht := ?_) | refine d7 (hf := ?_) | refine u5 (hk := ?_) | refine u6 (hk := ?_) | refine u7 (hk := ?_) | refine u8 (hk := ?_) | refine d8 (ht := ?_) (hf := ?_) | refine d9 (ht := ?_) (hf := ?_))
    · simp at hc
    all_goals
      refine rBx hE (hv := ?_)
      simp only [numsOk, hq, Bool.and_true, List.length_map]
      simp_all
    rw [Bool.eq_iff_iff]; simp; omega
theorem k_impl_RunTo (nums : List Int) (ws ss : List (Int × Int)) (host : Int) (S : St) (hs : ss.length ≤ 1048576) : Ev Y impl_RunTo [RN nums ws ss, I host] S (L (runTo ss host)) S := by
  refine E_start (h := ?_)
  repeat' (first | refine c0 ?_ | refine c1 ?_ | refine c2 ?_ | refine c3 ?_ | refine c4 ?_ | refine c5 ?_ | refine c6 (h := ?_) | refine c7 ?_ | refine d2 ?_ | refine c8 ?_ | refine c9 ?_ | refine d0 ?_ | refine d1 ?_ | refine d4 ?_ | refine a0 (hk := ?_) | refine b0 (hk := ?_) | refine b1 (hk := ?_) | refine b2 (hk := ?_) | refine b3 (hk := ?_) | refine b4 (hk := ?_) | refine p1 (hk := ?_) | refine g0' (hk := ?_) | refine a1 (hk := ?_) | refine a2 (hk := ?_) | refine u1 (hk := ?_) | refine u2 (hk := ?_) | refine u3 (hk := ?_) | refine u4 (hk := ?_) | refine a3 (ht := ?_) (hf := ?_) | refine a4 (ht := ?_) (hf := ?_) | refine a5 (hk := ?_) | refine b5 (hk := ?_) | refine b6 (hk := ?_) | refine b8 (hk := ?_) | refine b9 (hk := ?_) | refine b7 (hk := ?_) | refine p0 (hk := ?_) | refine g1 (hw := ?_) | refine g2 (hw := ?_) | refine g3 (hw := ?_) | refine g4 (hw := ?_) | (with_reducible intro hc) | refine d6 (ht := ?_) | refine d7 (hf := ?_) | refine u5 (hk := ?_) | refine u6 (hk := ?_) | refine u7 (hk := ?_) | refine u8 (hk := ?_) | refine d8 (ht := ?_) (hf := ?_) | refine d9 (ht := ?_) (hf := ?_))
  refine C_list ss (fun pre r T' S' => ∃ (T0 : Tm) (S1 : St) (d : List Int), runTo ss host = d ++ runTo r host ∧ d.length ≤ pre.length ∧ Ext S S1 ∧ S1[S.length + 2]? = some (.cells true (d.map irow)) ∧
      T' = putL T0 [(1, I host), (5, .sl (S.length + 2) d.length), (9, WS ss), (10, I (ss.map wrow).length), (11, I pre.length)] ∧ S' = S1 ++ [])
    ⟨_, _, [], rfl, by simp, ex0, get_own rfl, at_mk ⟨rfl, rfl, rfl, rfl, rfl, trivial⟩, (List.append_nil _).symm⟩ ?_ ?_
  · rintro pre x r T' S' hx ⟨T0, S1, d, hq, hd, hE, h1, rfl, rfl⟩
    have hg := mid hx
    have hlt := mid_lt hx
    have e1 := irow1 d
    have e2 : (d.map irow).length = d.length := by simp
    repeat' (first | refine c0 ?_ | refine c1 ?_ | refine c2 ?_ | refine c3 ?_ | refine c4 ?_ | refine c5 ?_ | refine c6 (h := ?_) | refine c7 ?_ | refine d2 ?_ | refine c8 ?_ | refine c9 ?_ | refine d0 ?_ | refine d1 ?_ | refine d4 ?_ | refine a0 (hk := ?_) | refine b0 (hk := ?_) | refine b1 (hk := ?_) | refine b2 (hk := ?_) | refine b3 (hk := ?_) | refine b4 (hk := ?_) | refine p1 (hk := ?_) | refine g0' (hk := ?_) | refine a1 (hk := ?_) | refine a2 (hk := ?_) | refine u1 (hk := ?_) | refine u2 (hk := ?_) | refine u3 (hk := ?_) | refine u4 (hk := ?_) | refine a3 (ht := ?_) (hf := ?_) | refine a4 (ht := ?_) (hf := ?_) | refine a5 (hk := ?_) | refine b5 (hk := ?_) | refine b6 (hk := ?_) | refine b8 (hk := ?_) | refine b9 (hk := ?_) | refine b7 (hk := ?_) | refine p0 (hk := ?_) | refine g1 (hw := ?_) | refine g2 (hw := ?_) | refine g3 (hw := ?_) | refine g4 (hw := ?_) | (with_reducible intro hc) | refine d6 (ht := ?_) | refine d7 (hf := ?_) | refine u5 (hk := ?_) | refine u6 (hk := ?_) | refine u7 (hk := ?_) | refine u8 (hk := ?_) | refine d8 (ht := ?_) (hf := ?_) | refine d9 (ht := ?_) (hf := ?_))
    · refine ⟨_, _, d ++ [x.2], ?_, by simp; omega, ex1 (ex2 hE (Nat.le_add_right _ _)), ?_, at_mk ⟨rfl, ?_, rfl, rfl, inc (by omega), trivial⟩, (List.append_nil _).symm⟩
      · rw [hq]; simp at hc; simp [runTo, hc]
      · rw [get_set h1, List.map_append]; rfl
      · show HV.sl _ _ = _; simp
    · refine ⟨_, _, d, ?_, by simp; omega, ex1 hE, get_old h1, at_mk ⟨rfl, rfl, rfl, rfl, inc (by omega), trivial⟩, (List.append_nil _).symm⟩
      rw [hq]; simp at hc; simp [runTo, hc]
    · simp at hc; omega
  · rintro T' S' ⟨T0, S1, d, hq, hd, hE, h1, rfl, rfl⟩
    repeat' (first | refine c0 ?_ | refine c1 ?_ | refine c2 ?_ | refine c3 ?_ | refine c4 ?_ | refine c5 ?_ | refine c6 (h := ?_) | refine c7 ?_ | refine d2 ?_ | refine c8 ?_ | refine c9 ?_ | refine d0 ?_ | refine d1 ?_ | refine d4 ?_ | refine a0 (hk := ?_) | refine b0 (hk := ?_) | refine b1 (hk := ?_) | refine b2 (hk := ?_) | refine b3 (hk := ?_) | refine b4 (hk := ?_) | refine p1 (hk := ?_) | refine g0' (hk := ?_) | refine a1 (hk := ?_) | refine a2 (hk := ?_) | refine u1 (hk := ?_) | refine u2 (hk := ?_) | refine u3 (hk := ?_) | refine u4 (hk := ?_) | refine a3 (ht := ?_) (hf := ?_) | refine a4 (ht := ?_) (hf := ?_) | refine a5 (hk := ?_) | refine b5 (hk := ?_) | refine b6 (hk := ?_) | refine b8 (hk := ?_) | refine b9 (hk := ?_) | refine b7 (hk := ?_) | refine p0 (hk := ?_) | refine g1 (hw := ?_) | refine g2 (hw := ?_) | refine g3 (hw := ?_) | refine g4 (hw := ?_) | (with_reducible intro hc) | refine d6 (ht := ?_) | refine d7 (hf := ?_) | refine u5 (hk := ?_) | refine u6 (hk := ?_) | refine u7 (hk := ?_) | refine u8 (hk := ?_) | refine d8 (ht := ?_) (hf := ?_) | refine d9 (ht := ?_) (hf := ?_))
    · simp at hc
    · exact rLx hE (hn := by simp) (hp := irow_pure d) (hv := by rw [hq]; simp [runTo])
theorem k_impl_row (n size : Nat) (S : St) (hn : n ≤ 1048576) (hs : size ≤ 60) : Ev Y impl_row [I n, I size] S (L (row2 n size)) S := by
  refine E_start (h := ?_)
  repeat' (first | refine c0 ?_ | refine c1 ?_ | refine c2 ?_ | refine c3 ?_ | refine c4 ?_ | refine c5 ?_ | refine c6 (h := ?_) | refine c7 ?_ | refine d2 ?_ | refine c8 ?_ | refine c9 ?_ | refine d0 ?_ | refine d1 ?_ | refine d4 ?_ | refine a0 (hk := ?_) | refine b0 (hk := ?_) | refine b1 (hk := ?_) | refine b2 (hk := ?_) | refine b3 (hk := ?_) | refine b4 (hk := ?_) | refine p1 (hk := ?_) | refine g0' (hk := ?_) | refine a1 (hk := ?_) | refine a2 (hk := ?_) | refine u1 (hk := ?_) | refine u2 (hk := ?_) | refine u3 (hk := ?_) | refine u4 (hk := ?_) | refine a3 (ht := ?_) (hf := ?_) | refine a4 (ht := ?_) (hf := ?_) | refine a5 (hk := ?_) | refine b5 (hk := ?_) | refine b6 (hk := ?_) | refine b8 (hk := ?_) | refine b9 (hk := ?_) | refine b7 (hk := ?_) | refine p0 (hk := ?_) | refine g1 (hw := ?_) | refine g2 (hw := ?_) | refine g3 (hw := ?_) | refine g4 (hw := ?_) | (with_reducible intro hc) | refine d6 (ht := ?_) | refine d7 (hf := ?_) | refine u5 (hk := ?_) | refine u6 (hk := ?_) | refine u7 (hk := ?_) | refine u8 (hk := ?_) | refine d8 (ht := ?_) (hf := ?_) | refine d9 (ht := ?_) (hf := ?_))
  refine C_loop (fun m T' S' => ∃ (T0 : Tm) (S1 : St) (i : Nat), i + m = size ∧ Ext S S1 ∧ S1[S.length + 1]? = some (.cells true ((row2 n i).map irow)) ∧ T' = putL T0 [(0, I n), (5, .sl (S.length + 1) i), (7, I size), (8, I i)] ∧ S' = S1 ++ []) size
    ⟨_, _, 0, by omega, ex0, get_own rfl, at_mk ⟨rfl, rfl, rfl, rfl, trivial⟩, (List.append_nil _).symm⟩ ?_
  rintro m T' S' ⟨T0, S1, i, hi, hE, h0, rfl, rfl⟩
  have e1 := irow1 (row2 n i)
  have e2 : ((row2 n i).map irow).length = i := by simp [row2_len]
  cases m with
  | zero =>
    have hc0 : ¬ ((i : Int) < (size : Int)) := by omega
    repeat' (first | refine c0 ?_ | refine c1 ?_ | refine c2 ?_ | refine c3 ?_ | refine c4 ?_ | refine c5 ?_ | refine c6 (h := ?_) | refine c7 ?_ | refine d2 ?_ | refine c8 ?_ | refine c9 ?_ | refine d0 ?_ | refine d1 ?_ | refine d4 ?_ | refine a0 (hk := ?_) | refine b0 (hk := ?_) | refine b1 (hk := ?_) | refine b2 (hk := ?_) | refine b3 (hk := ?_) | refine b4 (hk := ?_) | refine p1 (hk := ?_) | refine g0' (hk := ?_) | refine a1 (hk := ?_) | refine a2 (hk := ?_) | refine u1 (hk := ?_) | refine u2 (hk := ?_) | refine u3 (hk := ?_) | refine u4 (hk := ?_) | refine a3 (ht := ?_) (hf := ?_) | refine a4 (ht := ?_) (hf := ?_) | refine a5 (hk := ?_) | refine b5 (hk := ?_) | refine b6 (hk := ?_) | refine b8 (hk := ?_) | refine b9 (hk := ?_) | refine b7 (hk := ?_) | refine p0 (hk := ?_) | refine g1 (hw := ?_) | refine g2 (hw := ?_) | refine g3 (hw := ?_) | refine g4 (hw := ?_) | (with_reducible intro hc) | refine d6 (ht := ?_) | refine d7 (hf := ?_) | refine u5 (hk := ?_) | refine u6 (hk := ?_) | refine u7 (hk := ?_) | refine u8 (hk := ?_) | refine d8 (ht := ?_) (hf := ?_) | refine d9 (ht := ?_) (hf := ?_))
    exact rLx hE (hp := irow_pure _) (hv := by rw [show i = size by omega])
  | succ m =>
    have hc0 : (i : Int) < (size : Int) := by omega
    have e3 : IntKind.i64.wrap (BitVec.ofInt 64 ((n : Int).fdiv (2 ^ min (Int.toNat (i : Int)) IntKind.i64.bits)) &&& BitVec.ofInt 64 1).toNat = ((n / 2 ^ i % 2 : Nat) : Int) := by
      have h1 : min (Int.toNat (i : Int)) IntKind.i64.bits = i := by simp [IntKind.bits]; omega
      rw [h1, Int.fdiv_eq_ediv_of_nonneg _ (Int.le_of_lt (Int.pow_pos (by omega)))]
      rw [show ((n : Int) / (2 : Int) ^ i) = ((n / 2 ^ i : Nat) : Int) by simp]
      have h2 : n / 2 ^ i ≤ n := Nat.div_le_self _ _
      generalize n / 2 ^ i = q at *
      have h3 : (BitVec.ofInt 64 (q : Int) &&& BitVec.ofInt 64 1).toNat = q % 2 := by
        rw [BitVec.toNat_and]
        have : (BitVec.ofInt 64 (q : Int)).toNat = q := by simp; omega
        rw [this]
        exact Nat.and_one_is_mod q
      rw [h3, i64_id (by omega) (by omega)]
    repeat' (first | refine c0 ?_ | refine c1 ?_ | refine c2 ?_ | refine c3 ?_ | refine c4 ?_ | refine c5 ?_ | refine c6 (h := ?_) | refine c7 ?_ | refine d2 ?_ | refine c8 ?_ | refine c9 ?_ | refine d0 ?_ | refine d1 ?_ | refine d4 ?_ | refine a0 (hk := ?_) | refine b0 (hk := ?_) | refine b1 (hk := ?_) | refine b2 (hk := ?_) | refine b3 (hk := ?_) | refine b4 (hk := ?_) | refine p1 (hk := ?_) | refine g0' (hk := ?_) | refine a1 (hk := ?_) | refine a2 (hk := ?_) | refine u1 (hk := ?_) | refine u2 (hk := ?_) | refine u3 (hk := ?_) | refine u4 (hk := ?_) | refine a3 (ht := ?_) (hf := ?_) | refine a4 (ht := ?_) (hf := ?_) | refine a5 (hk := ?_) | refine b5 (hk := ?_) | refine b6 (hk := ?_) | refine b8 (hk := ?_) | refine b9 (hk := ?_) | refine b7 (hk := ?_) | refine p0 (hk := ?_) | refine g1 (hw := ?_) | refine g2 (hw := ?_) | refine g3 (hw := ?_) | refine g4 (hw := ?_) | (with_reducible intro hc) | refine d6 (ht := ?_) | refine d7 (hf := ?_) | refine u5 (hk := ?_) | refine u6 (hk := ?_) | refine u7 (hk := ?_) | refine u8 (hk := ?_) | refine d8 (ht := ?_) (hf := ?_) | refine d9 (ht := ?_) (hf := ?_))
    refine ⟨m, by omega, _, _, i + 1, by omega, ex1 (ex2 hE (Nat.le_add_right _ _)), ?_, at_mk ⟨rfl, ?_, rfl, ?_, trivial⟩, (List.append_nil _).symm⟩
    · rw [get_set h0, row2_succ, List.map_append, ← e3]; rfl
    · rfl
    · show HV.int _ _ = _
      rw [i64_id (by omega) (by omega)]; simp
end Go.Proofs.X
end
section
namespace Go.Proofs.X
open Go Go.Proofs.XVai Go.Proofs Go.Proofs.XN
set_option linter.unusedVariables false
set_option linter.unusedSimpArgs false
set_option maxHeartbeats 4000000
/-- Numbers are small. -/
def small (nums : List Int) : Prop := ∀ n ∈ nums, 0 ≤ n ∧ n ≤ 9
theorem nget_at {nums : List Int} {j : Nat} (h : j < nums.length) : nums[j]? = some (nget nums (j : Int)) := by
  simp [nget, h]
theorem small_nget {nums : List Int} (hs : small nums) (v : Int) : 0 ≤ nget nums v ∧ nget nums v ≤ 9 := by
  unfold nget
  rw [List.getD_eq_getElem?_getD]
  cases h : nums[v.toNat]? with
  | none => simp
  | some x => exact hs x (List.mem_of_getElem? h)
theorem vOk_nat {n : Nat} {v : Int} (h : vOk n v = true) : ∃ j : Nat, v = j ∧ j < n := by
  simp only [vOk, inB, decide_eq_true_eq] at h
  obtain ⟨j, rfl⟩ := Int.eq_ofNat_of_zero_le h.1
  exact ⟨j, rfl, by omega⟩
theorem k_spec_l3Num (x : Vl) (nums : List Int) (q : Nat) (fr : Bool) (S : St) (hx : valOk nums.length x = true) (hs : small nums) (hq : S[q]? = some (.cells fr (nums.map irow))) : Ev Y spec_l3Num [.agg (vrow x), .sl q nums.length] S (I (valNum x nums)) S := by
  obtain ⟨k, a, b⟩ := x
  have hn : (nums.map irow).length = nums.length := by simp
  simp only [valOk] at hx
  by_cases k1 : k = 1
  · subst k1
    refine E_start (h := ?_)
    repeat' (first | refine c0 ?_ | refine c1 ?_ | refine c2 ?_ | refine c3 ?_ | refine c4 ?_ | refine c5 ?_ | refine c6 (h := ?_) | refine c7 ?_ | refine d2 ?_ | refine c8 ?_ | refine c9 ?_ | refine d0 ?_ | refine d1 ?_ | refine d4 ?_ | refine a0 (hk := ?_) | refine b0 (hk := ?_) | refine b1 (hk := ?_) | refine b2 (hk := ?_) | refine b3 (hk := ?_) | refine b4 (hk := ?_) | refine p1 (hk := ?_) | refine g0' (hk := ?_) | refine a1 (hk := ?_) | refine a2 (hk := ?_) | refine u1 (hk := ?_) | refine u2 (hk := ?_) | refine u3 (hk := ?_) | refine u4 (hk := ?_) | refine a3 (ht := ?_) (hf := ?_) | refine a4 (ht := ?_) (hf := ?_) | refine a5 (hk := ?_) | refine b5 (hk := ?_) | refine b6 (hk := ?_) | refine b8 (hk := ?_) | refine b9 (hk := ?_) | refine b7 (hk := ?_) | refine p0 (hk := ?_) | refine g1 (hw := ?_) | refine g2 (hw := ?_) | refine g3 (hw := ?_) | refine g4 (hw := ?_) | (with_reducible intro hc) | refine d6 (ht := ?_) | refine d7 (hf := ?_) | refine u5 (hk := ?_) | refine u6 (hk := ?_) | refine u7 (hk := ?_) | refine u8 (hk := ?_) | refine d8 (ht := ?_) (hf := ?_) | refine d9 (ht := ?_) (hf := ?_))
    exact rI (hv := by simp [valNum])
  by_cases k2 : k = 2
  · subst k2
    simp at hx
    obtain ⟨j, rfl, hj⟩ := vOk_nat hx.1
    have hg := nget_at hj
    have hg' := map_get (f := irow) hg
    refine E_start (h := ?_)
    repeat' (first | refine c0 ?_ | refine c1 ?_ | refine c2 ?_ | refine c3 ?_ | refine c4 ?_ | refine c5 ?_ | refine c6 (h := ?_) | refine c7 ?_ | refine d2 ?_ | refine c8 ?_ | refine c9 ?_ | refine d0 ?_ | refine d1 ?_ | refine d4 ?_ | refine a0 (hk := ?_) | refine b0 (hk := ?_) | refine b1 (hk := ?_) | refine b2 (hk := ?_) | refine b3 (hk := ?_) | refine b4 (hk := ?_) | refine p1 (hk := ?_) | refine g0' (hk := ?_) | refine a1 (hk := ?_) | refine a2 (hk := ?_) | refine u1 (hk := ?_) | refine u2 (hk := ?_) | refine u3 (hk := ?_) | refine u4 (hk := ?_) | refine a3 (ht := ?_) (hf := ?_) | refine a4 (ht := ?_) (hf := ?_) | refine a5 (hk := ?_) | refine b5 (hk := ?_) | refine b6 (hk := ?_) | refine b8 (hk := ?_) | refine b9 (hk := ?_) | refine b7 (hk := ?_) | refine p0 (hk := ?_) | refine g1 (hw := ?_) | refine g2 (hw := ?_) | refine g3 (hw := ?_) | refine g4 (hw := ?_) | (with_reducible intro hc) | refine d6 (ht := ?_) | refine d7 (hf := ?_) | refine u5 (hk := ?_) | refine u6 (hk := ?_) | refine u7 (hk := ?_) | refine u8 (hk := ?_) | refine d8 (ht := ?_) (hf := ?_) | refine d9 (ht := ?_) (hf := ?_))
    exact rI (hv := by simp [valNum])
  have h34 : k = 3 ∨ k = 4 := by
    by_cases h : k = 3 ∨ k = 4
    · exact h
    · simp [k1, k2, h] at hx
  have hx2 : vOk nums.length a = true ∧ vOk nums.length b = true := by
    rcases h34 with rfl | rfl <;> simpa using hx
  obtain ⟨j, rfl, hj⟩ := vOk_nat hx2.1
  obtain ⟨i, rfl, hi⟩ := vOk_nat hx2.2
  have hg := nget_at hj
  have hg2 := nget_at hi
  have hg' := map_get (f := irow) hg
  have hg2' := map_get (f := irow) hg2
  have bu := small_nget hs (j : Int)
  have bw := small_nget hs (i : Int)
  rcases h34 with rfl | rfl
  · have e : valNum ⟨3, j, i⟩ nums = (nget nums j + nget nums i).tmod 10 := by simp [valNum]
    rw [e]
    generalize nget nums (j : Int) = u at *
    generalize nget nums (i : Int) = w at *
    refine E_start (h := ?_)
    repeat' (first | refine c0 ?_ | refine c1 ?_ | refine c2 ?_ | refine c3 ?_ | refine c4 ?_ | refine c5 ?_ | refine c6 (h := ?_) | refine c7 ?_ | refine d2 ?_ | refine c8 ?_ | refine c9 ?_ | refine d0 ?_ | refine d1 ?_ | refine d4 ?_ | refine d3' (h := ?_) | refine d4' ?_ | refine a0 (hk := ?_) | refine b0 (hk := ?_) | refine b1 (hk := ?_) | refine b2 (hk := ?_) | refine b3 (hk := ?_) | refine b4 (hk := ?_) | refine p1 (hk := ?_) | refine g0' (hk := ?_) | refine a1 (hk := ?_) | refine a2 (hk := ?_) | refine u1 (hk := ?_) | refine u2 (hk := ?_) | refine u3 (hk := ?_) | refine u4 (hk := ?_) | refine a3 (ht := ?_) (hf := ?_) | refine a4 (ht := ?_) (hf := ?_) | refine a5 (hk := ?_) | refine b5 (hk := ?_) | refine b6 (hk := ?_) | refine b8 (hk := ?_) | refine b9 (hk := ?_) | refine b7 (hk := ?_) | refine p0 (hk := ?_) | refine g1 (hw := ?_) | refine g2 (hw := ?_) | refine g3 (hw := ?_) | refine g4 (hw := ?_) | refine e0' (hk := ?_) | refine b0' (hk := ?_) | refine b1' (hk := ?_) | refine p1' (hk := ?_) | refine e1' (hk := ?_) | refine e2' (hk := ?_) | refine u1' (hk := ?_) | refine u2' (hk := ?_) | refine u3' (hk := ?_) | refine u4' (hk := ?_) | refine e3' (ht := ?_) (hf := ?_) | refine e4' (ht := ?_) (hf := ?_) | refine b4' (hk := ?_) | refine b7b (hk := ?_) | refine e5' (hk := ?_) | refine f5' (hk := ?_) | refine f6' (hk := ?_) | refine f8' (hk := ?_) | refine f9' (hk := ?_) | refine b7' (hk := ?_) | refine p0' (hk := ?_) | refine h1'' (hw := ?_) | refine h2'' (hw := ?_) | refine h3'' (hw := ?_) | refine h4'' (hw := ?_) | (with_reducible intro hc) | refine d6 (ht := ?_) | refine d7 (hf := ?_) | refine u5 (hk := ?_) | refine u6 (hk := ?_) | refine u7 (hk := ?_) | refine u8 (hk := ?_) | refine d8 (ht := ?_) (hf := ?_) | refine d9 (ht := ?_) (hf := ?_))
    exact rI (hv := by rw [i64_id (by omega) (by omega)])
  · have e : valNum ⟨4, j, i⟩ nums = if nget nums j = nget nums i then 1 else 0 := by simp [valNum]
    rw [e]
    generalize nget nums (j : Int) = u at *
    generalize nget nums (i : Int) = w at *
    refine E_start (h := ?_)
    repeat' (first | refine c0 ?_ | refine c1 ?_ | refine c2 ?_ | refine c3 ?_ | refine c4 ?_ | refine c5 ?_ | refine c6 (h := ?_) | refine c7 ?_ | refine d2 ?_ | refine c8 ?_ | refine c9 ?_ | refine d0 ?_ | refine d1 ?_ | refine d4 ?_ | refine d3' (h := ?_) | refine d4' ?_ | refine a0 (hk := ?_) | refine b0 (hk := ?_) | refine b1 (hk := ?_) | refine b2 (hk := ?_) | refine b3 (hk := ?_) | refine b4 (hk := ?_) | refine p1 (hk := ?_) | refine g0' (hk := ?_) | refine a1 (hk := ?_) | refine a2 (hk := ?_) | refine u1 (hk := ?_) | refine u2 (hk := ?_) | refine u3 (hk := ?_) | refine u4 (hk := ?_) | refine a3 (ht := ?_) (hf := ?_) | refine a4 (ht := ?_) (hf := ?_) | refine a5 (hk := ?_) | refine b5 (hk := ?_) | refine b6 (hk := ?_) | refine b8 (hk := ?_) | refine b9 (hk := ?_) | refine b7 (hk := ?_) | refine p0 (hk := ?_) | refine g1 (hw := ?_) | refine g2 (hw := ?_) | refine g3 (hw := ?_) | refine g4 (hw := ?_) | refine e0' (hk := ?_) | refine b0' (hk := ?_) | refine b1' (hk := ?_) | refine p1' (hk := ?_) | refine e1' (hk := ?_) | refine e2' (hk := ?_) | refine u1' (hk := ?_) | refine u2' (hk := ?_) | refine u3' (hk := ?_) | refine u4' (hk := ?_) | refine e3' (ht := ?_) (hf := ?_) | refine e4' (ht := ?_) (hf := ?_) | refine b4' (hk := ?_) | refine b7b (hk := ?_) | refine e5' (hk := ?_) | refine f5' (hk := ?_) | refine f6' (hk := ?_) | refine f8' (hk := ?_) | refine f9' (hk := ?_) | refine b7' (hk := ?_) | refine p0' (hk := ?_) | refine h1'' (hw := ?_) | refine h2'' (hw := ?_) | refine h3'' (hw := ?_) | refine h4'' (hw := ?_) | (with_reducible intro hc) | refine d6 (ht := ?_) | refine d7 (hf := ?_) | refine u5 (hk := ?_) | refine u6 (hk := ?_) | refine u7 (hk := ?_) | refine u8 (hk := ?_) | refine d8 (ht := ?_) (hf := ?_) | refine d9 (ht := ?_) (hf := ?_))
    · exact rI (hv := by simp at hc; simp [hc])
    · exact rI (hv := by simp at hc; simp [hc])
/-- The variables of a value. -/
def varsV (x : Vl) : List Int := if x.kind = 2 then [x.a] else if x.kind = 3 ∨ x.kind = 4 then [x.a, x.b] else []
theorem k_impl_Val_vars (x : Vl) (S : St) : Ev Y impl_Val_vars [.agg (vrow x)] S (L (varsV x)) S := by
  obtain ⟨k, a, b⟩ := x
  by_cases k2 : k = 2
  · subst k2
    refine E_start (h := ?_)
    repeat' (first | refine c0 ?_ | refine c1 ?_ | refine c2 ?_ | refine c3 ?_ | refine c4 ?_ | refine c5 ?_ | refine c6 (h := ?_) | refine c7 ?_ | refine d2 ?_ | refine c8 ?_ | refine c9 ?_ | refine d0 ?_ | refine d1 ?_ | refine d4 ?_ | refine a0 (hk := ?_) | refine b0 (hk := ?_) | refine b1 (hk := ?_) | refine b2 (hk := ?_) | refine b3 (hk := ?_) | refine b4 (hk := ?_) | refine p1 (hk := ?_) | refine g0' (hk := ?_) | refine a1 (hk := ?_) | refine a2 (hk := ?_) | refine u1 (hk := ?_) | refine u2 (hk := ?_) | refine u3 (hk := ?_) | refine u4 (hk := ?_) | refine a3 (ht := ?_) (hf := ?_) | refine a4 (ht := ?_) (hf := ?_) | refine a5 (hk := ?_) | refine b5 (hk := ?_) | refine b6 (hk := ?_) | refine b8 (hk := ?_) | refine b9 (hk := ?_) | refine b7 (hk := ?_) | refine p0 (hk := ?_) | refine g1 (hw := ?_) | refine g2 (hw := ?_) | refine g3 (hw := ?_) | refine g4 (hw := ?_) | (with_reducible intro hc) | refine d6 (ht := ?_) | refine d7 (hf := ?_) | refine u5 (hk := ?_) | refine u6 (hk := ?_) | refine u7 (hk := ?_) | refine u8 (hk := ?_) | refine d8 (ht := ?_) (hf := ?_) | refine d9 (ht := ?_) (hf := ?_))
    exact rV
  by_cases k3 : k = 3
  · subst k3
    refine E_start (h := ?_)
    repeat' (first | refine c0 ?_ | refine c1 ?_ | refine c2 ?_ | refine c3 ?_ | refine c4 ?_ | refine c5 ?_ | refine c6 (h := ?_) | refine c7 ?_ | refine d2 ?_ | refine c8 ?_ | refine c9 ?_ | refine d0 ?_ | refine d1 ?_ | refine d4 ?_ | refine a0 (hk := ?_) | refine b0 (hk := ?_) | refine b1 (hk := ?_) | refine b2 (hk := ?_) | refine b3 (hk := ?_) | refine b4 (hk := ?_) | refine p1 (hk := ?_) | refine g0' (hk := ?_) | refine a1 (hk := ?_) | refine a2 (hk := ?_) | refine u1 (hk := ?_) | refine u2 (hk := ?_) | refine u3 (hk := ?_) | refine u4 (hk := ?_) | refine a3 (ht := ?_) (hf := ?_) | refine a4 (ht := ?_) (hf := ?_) | refine a5 (hk := ?_) | refine b5 (hk := ?_) | refine b6 (hk := ?_) | refine b8 (hk := ?_) | refine b9 (hk := ?_) | refine b7 (hk := ?_) | refine p0 (hk := ?_) | refine g1 (hw := ?_) | refine g2 (hw := ?_) | refine g3 (hw := ?_) | refine g4 (hw := ?_) | (with_reducible intro hc) | refine d6 (ht := ?_) | refine d7 (hf := ?_) | refine u5 (hk := ?_) | refine u6 (hk := ?_) | refine u7 (hk := ?_) | refine u8 (hk := ?_) | refine d8 (ht := ?_) (hf := ?_) | refine d9 (ht := ?_) (hf := ?_))
    exact rV
  by_cases k4 : k = 4
  · subst k4
    refine E_start (h := ?_)
    repeat' (first | refine c0 ?_ | refine c1 ?_ | refine c2 ?_ | refine c3 ?_ | refine c4 ?_ | refine c5 ?_ | refine c6 (h := ?_) | refine c7 ?_ | refine d2 ?_ | refine c8 ?_ | refine c9 ?_ | refine d0 ?_ | refine d1 ?_ | refine d4 ?_ | refine a0 (hk := ?_) | refine b0 (hk := ?_) | refine b1 (hk := ?_) | refine b2 (hk := ?_) | refine b3 (hk := ?_) | refine b4 (hk := ?_) | refine p1 (hk := ?_) | refine g0' (hk := ?_) | refine a1 (hk := ?_) | refine a2 (hk := ?_) | refine u1 (hk := ?_) | refine u2 (hk := ?_) | refine u3 (hk := ?_) | refine u4 (hk := ?_) | refine a3 (ht := ?_) (hf := ?_) | refine a4 (ht := ?_) (hf := ?_) | refine a5 (hk := ?_) | refine b5 (hk := ?_) | refine b6 (hk := ?_) | refine b8 (hk := ?_) | refine b9 (hk := ?_) | refine b7 (hk := ?_) | refine p0 (hk := ?_) | refine g1 (hw := ?_) | refine g2 (hw := ?_) | refine g3 (hw := ?_) | refine g4 (hw := ?_) | (with_reducible intro hc) | refine d6 (ht := ?_) | refine d7 (hf := ?_) | refine u5 (hk := ?_) | refine u6 (hk := ?_) | refine u7 (hk := ?_) | refine u8 (hk := ?_) | refine d8 (ht := ?_) (hf := ?_) | refine d9 (ht := ?_) (hf := ?_))
    exact rV
  have q2 : (k == 2) = false := by simpa using k2
  have q3 : (k == 3) = false := by simpa using k3
  have q4 : (k == 4) = false := by simpa using k4
  rw [show varsV ⟨k, a, b⟩ = [] by simp [varsV, k2, k3, k4]]
  refine E_start (h := ?_)
  repeat' (first | refine c0 ?_ | refine c1 ?_ | refine c2 ?_ | refine c3 ?_ | refine c4 ?_ | refine c5 ?_ | refine c6 (h := ?_) | refine c7 ?_ | refine d2 ?_ | refine c8 ?_ | refine c9 ?_ | refine d0 ?_ | refine d1 ?_ | refine d4 ?_ | refine a0 (hk := ?_) | refine b0 (hk := ?_) | refine b1 (hk := ?_) | refine b2 (hk := ?_) | refine b3 (hk := ?_) | refine b4 (hk := ?_) | refine p1 (hk := ?_) | refine g0' (hk := ?_) | refine a1 (hk := ?_) | refine a2 (hk := ?_) | refine u1 (hk := ?_) | refine u2 (hk := ?_) | refine u3 (hk := ?_) | refine u4 (hk := ?_) | refine a3 (ht := ?_) (hf := ?_) | refine a4 (ht := ?_) (hf := ?_) | refine a5 (hk := ?_) | refine b5 (hk := ?_) | refine b6 (hk := ?_) | refine b8 (hk := ?_) | refine b9 (hk := ?_) | refine b7 (hk := ?_) | refine p0 (hk := ?_) | refine g1 (hw := ?_) | refine g2 (hw := ?_) | refine g3 (hw := ?_) | refine g4 (hw := ?_) | (with_reducible intro hc) | refine d6 (ht := ?_) | refine d7 (hf := ?_) | refine u5 (hk := ?_) | refine u6 (hk := ?_) | refine u7 (hk := ?_) | refine u8 (hk := ?_) | refine d8 (ht := ?_) (hf := ?_) | refine d9 (ht := ?_) (hf := ?_))
  exact rL (hp := rfl) (hv := rfl)
theorem k_impl_Val_of (x : Vl) (nums : List Int) (S : St) (hx : valOk nums.length x = true) (hs : small nums) : Ev Y impl_Val_of [.agg (vrow x), L ((varsV x).map (nget nums))] S (I (valNum x nums)) S := by
  obtain ⟨k, a, b⟩ := x
  simp only [valOk] at hx
  have bu := small_nget hs a
  have bw := small_nget hs b
  by_cases k1 : k = 1
  · subst k1
    refine E_start (h := ?_)
    repeat' (first | refine c0 ?_ | refine c1 ?_ | refine c2 ?_ | refine c3 ?_ | refine c4 ?_ | refine c5 ?_ | refine c6 (h := ?_) | refine c7 ?_ | refine d2 ?_ | refine c8 ?_ | refine c9 ?_ | refine d0 ?_ | refine d1 ?_ | refine d4 ?_ | refine a0 (hk := ?_) | refine b0 (hk := ?_) | refine b1 (hk := ?_) | refine b2 (hk := ?_) | refine b3 (hk := ?_) | refine b4 (hk := ?_) | refine p1 (hk := ?_) | refine g0' (hk := ?_) | refine a1 (hk := ?_) | refine a2 (hk := ?_) | refine u1 (hk := ?_) | refine u2 (hk := ?_) | refine u3 (hk := ?_) | refine u4 (hk := ?_) | refine a3 (ht := ?_) (hf := ?_) | refine a4 (ht := ?_) (hf := ?_) | refine a5 (hk := ?_) | refine b5 (hk := ?_) | refine b6 (hk := ?_) | refine b8 (hk := ?_) | refine b9 (hk := ?_) | refine b7 (hk := ?_) | refine p0 (hk := ?_) | refine g1 (hw := ?_) | refine g2 (hw := ?_) | refine g3 (hw := ?_) | refine g4 (hw := ?_) | (with_reducible intro hc) | refine d6 (ht := ?_) | refine d7 (hf := ?_) | refine u5 (hk := ?_) | refine u6 (hk := ?_) | refine u7 (hk := ?_) | refine u8 (hk := ?_) | refine d8 (ht := ?_) (hf := ?_) | refine d9 (ht := ?_) (hf := ?_))
    exact rI (hv := by simp [valNum])
  by_cases k2 : k = 2
  · subst k2
    refine E_start (h := ?_)
    repeat' (first | refine c0 ?_ | refine c1 ?_ | refine c2 ?_ | refine c3 ?_ | refine c4 ?_ | refine c5 ?_ | refine c6 (h := ?_) | refine c7 ?_ | refine d2 ?_ | refine c8 ?_ | refine c9 ?_ | refine d0 ?_ | refine d1 ?_ | refine d4 ?_ | refine a0 (hk := ?_) | refine b0 (hk := ?_) | refine b1 (hk := ?_) | refine b2 (hk := ?_) | refine b3 (hk := ?_) | refine b4 (hk := ?_) | refine p1 (hk := ?_) | refine g0' (hk := ?_) | refine a1 (hk := ?_) | refine a2 (hk := ?_) | refine u1 (hk := ?_) | refine u2 (hk := ?_) | refine u3 (hk := ?_) | refine u4 (hk := ?_) | refine a3 (ht := ?_) (hf := ?_) | refine a4 (ht := ?_) (hf := ?_) | refine a5 (hk := ?_) | refine b5 (hk := ?_) | refine b6 (hk := ?_) | refine b8 (hk := ?_) | refine b9 (hk := ?_) | refine b7 (hk := ?_) | refine p0 (hk := ?_) | refine g1 (hw := ?_) | refine g2 (hw := ?_) | refine g3 (hw := ?_) | refine g4 (hw := ?_) | (with_reducible intro hc) | refine d6 (ht := ?_) | refine d7 (hf := ?_) | refine u5 (hk := ?_) | refine u6 (hk := ?_) | refine u7 (hk := ?_) | refine u8 (hk := ?_) | refine d8 (ht := ?_) (hf := ?_) | refine d9 (ht := ?_) (hf := ?_))
    exact rI (hv := by simp [valNum])
  have h34 : k = 3 ∨ k = 4 := by
    by_cases h : k = 3 ∨ k = 4
    · exact h
    · simp [k1, k2, h] at hx
  rcases h34 with rfl | rfl
  · refine E_start (h := ?_)
    repeat' (first | refine c0 ?_ | refine c1 ?_ | refine c2 ?_ | refine c3 ?_ | refine c4 ?_ | refine c5 ?_ | refine c6 (h := ?_) | refine c7 ?_ | refine d2 ?_ | refine c8 ?_ | refine c9 ?_ | refine d0 ?_ | refine d1 ?_ | refine d4 ?_ | refine d3' (h := ?_) | refine d4' ?_ | refine a0 (hk := ?_) | refine b0 (hk := ?_) | refine b1 (hk := ?_) | refine b2 (hk := ?_) | refine b3 (hk := ?_) | refine b4 (hk := ?_) | refine p1 (hk := ?_) | refine g0' (hk := ?_) | refine a1 (hk := ?_) | refine a2 (hk := ?_) | refine u1 (hk := ?_) | refine u2 (hk := ?_) | refine u3 (hk := ?_) | refine u4 (hk := ?_) | refine a3 (ht := ?_) (hf := ?_) | refine a4 (ht := ?_) (hf := ?_) | refine a5 (hk := ?_) | refine b5 (hk := ?_) | refine b6 (hk := ?_) | refine b8 (hk := ?_) | refine b9 (hk := ?_) | refine b7 (hk := ?_) | refine p0 (hk := ?_) | refine g1 (hw := ?_) | refine g2 (hw := ?_) | refine g3 (hw := ?_) | refine g4 (hw := ?_) | refine e0' (hk := ?_) | refine b0' (hk := ?_) | refine b1' (hk := ?_) | refine p1' (hk := ?_) | refine e1' (hk := ?_) | refine e2' (hk := ?_) | refine u1' (hk := ?_) | refine u2' (hk := ?_) | refine u3' (hk := ?_) | refine u4' (hk := ?_) | refine e3' (ht := ?_) (hf := ?_) | refine e4' (ht := ?_) (hf := ?_) | refine b4' (hk := ?_) | refine b7b (hk := ?_) | refine e5' (hk := ?_) | refine f5' (hk := ?_) | refine f6' (hk := ?_) | refine f8' (hk := ?_) | refine f9' (hk := ?_) | refine b7' (hk := ?_) | refine p0' (hk := ?_) | refine h1'' (hw := ?_) | refine h2'' (hw := ?_) | refine h3'' (hw := ?_) | refine h4'' (hw := ?_) | (with_reducible intro hc) | refine d6 (ht := ?_) | refine d7 (hf := ?_) | refine u5 (hk := ?_) | refine u6 (hk := ?_) | refine u7 (hk := ?_) | refine u8 (hk := ?_) | refine d8 (ht := ?_) (hf := ?_) | refine d9 (ht := ?_) (hf := ?_))
    exact rI (hv := by
      show (IntKind.i64.wrap (nget nums a + nget nums b)).tmod 10 = _
      rw [i64_id (by omega) (by omega)]; simp [valNum])
  · refine E_start (h := ?_)
    repeat' (first | refine c0 ?_ | refine c1 ?_ | refine c2 ?_ | refine c3 ?_ | refine c4 ?_ | refine c5 ?_ | refine c6 (h := ?_) | refine c7 ?_ | refine d2 ?_ | refine c8 ?_ | refine c9 ?_ | refine d0 ?_ | refine d1 ?_ | refine d4 ?_ | refine d3' (h := ?_) | refine d4' ?_ | refine a0 (hk := ?_) | refine b0 (hk := ?_) | refine b1 (hk := ?_) | refine b2 (hk := ?_) | refine b3 (hk := ?_) | refine b4 (hk := ?_) | refine p1 (hk := ?_) | refine g0' (hk := ?_) | refine a1 (hk := ?_) | refine a2 (hk := ?_) | refine u1 (hk := ?_) | refine u2 (hk := ?_) | refine u3 (hk := ?_) | refine u4 (hk := ?_) | refine a3 (ht := ?_) (hf := ?_) | refine a4 (ht := ?_) (hf := ?_) | refine a5 (hk := ?_) | refine b5 (hk := ?_) | refine b6 (hk := ?_) | refine b8 (hk := ?_) | refine b9 (hk := ?_) | refine b7 (hk := ?_) | refine p0 (hk := ?_) | refine g1 (hw := ?_) | refine g2 (hw := ?_) | refine g3 (hw := ?_) | refine g4 (hw := ?_) | refine e0' (hk := ?_) | refine b0' (hk := ?_) | refine b1' (hk := ?_) | refine p1' (hk := ?_) | refine e1' (hk := ?_) | refine e2' (hk := ?_) | refine u1' (hk := ?_) | refine u2' (hk := ?_) | refine u3' (hk := ?_) | refine u4' (hk := ?_) | refine e3' (ht := ?_) (hf := ?_) | refine e4' (ht := ?_) (hf := ?_) | refine b4' (hk := ?_) | refine b7b (hk := ?_) | refine e5' (hk := ?_) | refine f5' (hk := ?_) | refine f6' (hk := ?_) | refine f8' (hk := ?_) | refine f9' (hk := ?_) | refine b7' (hk := ?_) | refine p0' (hk := ?_) | refine h1'' (hw := ?_) | refine h2'' (hw := ?_) | refine h3'' (hw := ?_) | refine h4'' (hw := ?_) | (with_reducible intro hc) | refine d6 (ht := ?_) | refine d7 (hf := ?_) | refine u5 (hk := ?_) | refine u6 (hk := ?_) | refine u7 (hk := ?_) | refine u8 (hk := ?_) | refine d8 (ht := ?_) (hf := ?_) | refine d9 (ht := ?_) (hf := ?_))
    · exact rI (hv := by simp at hc; simp [valNum, hc])
    · exact rI (hv := by simp at hc; simp [valNum, hc])
end Go.Proofs.X
end
section
namespace Go.Proofs.X
open Go Go.Proofs.XVai Go.Proofs Go.Proofs.XN
set_option linter.unusedVariables false
set_option linter.unusedSimpArgs false
set_option maxHeartbeats 4000000
/-! ### bytes that are read -/
abbrev brow (b : UInt8) : List HV := [.int .u8 (b.toNat : Int)]
abbrev BY (bs : List UInt8) : HV := .lst (bs.map brow)
abbrev RD (bs : List UInt8) (p : Nat) : Ob := .cells false [[BY bs, I p]]
theorem xor_pos {a b : Int} (ha : 0 ≤ a) (ha' : a < 4611686018427387904) (hb : 0 ≤ b) (hb' : b < 4611686018427387904) : 0 ≤ IntKind.i64.wrap (BitVec.ofInt 64 a ^^^ BitVec.ofInt 64 b).toNat := by
  obtain ⟨n, rfl⟩ := Int.eq_ofNat_of_zero_le ha
  obtain ⟨m, rfl⟩ := Int.eq_ofNat_of_zero_le hb
  have : (BitVec.ofInt 64 (n : Int) ^^^ BitVec.ofInt 64 (m : Int)).toNat < 2 ^ 62 := by
    rw [BitVec.toNat_xor]
    refine Nat.xor_lt_two_pow ?_ ?_ <;> simp <;> omega
  rw [i64_id (by omega) (by omega)]
  omega
theorem RD_ok {n0 : Nat} (bs : List UInt8) (p : Nat) : idO n0 (RD bs p) = true := by simp [idO, idC]
/-- A value, and an old object that is another one. -/
theorem rKV {Y : XVai.Sys} {f : Nat} {fn : Func} {T' : Tm} {S0 S1 L : St} {k : Nat} {o o' o0 : Ob} {vs : List HV} {v v' : HV} (h0 : S0[k]? = some o0) (hE : ExtK S0 k o S1) (hio : idO S0.length o = true)
    (hkp : Y.keep f = false := by rfl) (hr : resVs Y T' (S1 ++ L) fn.results.toList = some vs := by rfl) (hz : ∀ S, frzR S0.length (resTup vs) S = some (v, S) := by exact fun _ => rfl) (hi : idR S0.length v = true := by rfl) (hv : v = v' := by rfl) (ho : o = o' := by rfl) : RT Y f fn S0 v' (S0.set k o') .ret T' (S1 ++ L) := by
  subst hv; subst ho
  obtain ⟨J, rfl⟩ := hE
  rw [List.append_assoc] at hr ⊢
  exact rS hkp hr (hz _) hi rfl (by simp) (rS1 (o := o) h0 hio)
/-- The same, of a row of one's own. -/
theorem rKL {Y : XVai.Sys} {f : Nat} {fn : Func} {T' : Tm} {S0 S1 L : St} {k q n : Nat} {o o' o0 : Ob} {rows rows' : List (List HV)} (h0 : S0[k]? = some o0) (hE : ExtK S0 k o S1) (hio : idO S0.length o = true)
    (hkp : Y.keep f = false := by rfl) (hr : resVs Y T' (S1 ++ L) fn.results.toList = some [.sl q n] := by rfl) (hq : S0.length ≤ q := by exact Nat.le_add_right _ _) (hL : (S1 ++ L)[q]? = some (.cells true rows)) (hn : rows.length = n := by rfl) (hp : rows.all (fun r => r.all pureC) = true) (hv : rows = rows') (ho : o = o' := by rfl) : RT Y f fn S0 (.lst rows') (S0.set k o') .ret T' (S1 ++ L) := by
  subst hv; subst ho
  obtain ⟨J, rfl⟩ := hE
  rw [List.append_assoc] at hr hL ⊢
  exact rS hkp hr (fz_sl rfl hq hL hn hp |> fun h => by simp only [resTup, frzR, frzV]; exact h) rfl rfl (by simp) (rS1 (o := o) h0 hio)
theorem xkS {S L : St} {k : Nat} {o : Ob} : ExtK S k o (S.set k o ++ L) := ⟨L, rfl⟩
theorem xkZ {S : St} {k : Nat} {o : Ob} : ExtK S k o (S.set k o) := ⟨[], by simp⟩
theorem big (a b c p : Nat) (ha : a < 256) (hb : b < 256) (hc : c ≤ 100000000) (hp : p ≤ 100000000) :
    0 ≤ IntKind.i64.wrap (IntKind.i64.wrap (IntKind.i64.wrap (IntKind.i64.wrap (IntKind.i64.wrap (a : Int) * 131) + IntKind.i64.wrap (IntKind.i64.wrap (b : Int) * 1117)) + IntKind.i64.wrap ((p : Int) * 29)) + IntKind.i64.wrap (IntKind.i64.wrap (c : Int) * 53)) ∧
    IntKind.i64.wrap (IntKind.i64.wrap (IntKind.i64.wrap (IntKind.i64.wrap (IntKind.i64.wrap (a : Int) * 131) + IntKind.i64.wrap (IntKind.i64.wrap (b : Int) * 1117)) + IntKind.i64.wrap ((p : Int) * 29)) + IntKind.i64.wrap (IntKind.i64.wrap (c : Int) * 53)) < 4611686018427387904 := by
  rw [i64_id (n := (a : Int)) (by omega) (by omega), i64_id (n := (b : Int)) (by omega) (by omega), i64_id (n := (c : Int)) (by omega) (by omega), i64_id (n := (a : Int) * 131) (by omega) (by omega), i64_id (n := (b : Int) * 1117) (by omega) (by omega), i64_id (n := (p : Int) * 29) (by omega) (by omega), i64_id (n := (c : Int) * 53) (by omega) (by omega),
    i64_id (n := (a : Int) * 131 + (b : Int) * 1117) (by omega) (by omega), i64_id (n := (a : Int) * 131 + (b : Int) * 1117 + (p : Int) * 29) (by omega) (by omega), i64_id (by omega) (by omega)]
  omega
theorem pick_ex (bs : List UInt8) (p : Nat) (n : Int) (hb : bs.length ≤ 2000) (hp : p ≤ 100000000) : ∃ v : Int, (0 ≤ v ∧ (1 ≤ n → v < n) ∧ (n < 1 → v = 0)) ∧ ∀ (k : Nat) (S : St), S[k]? = some (RD bs p) → Ev Y spec_l6Rd_pick [.ptr k 1 0 0, I n] S (I v) (S.set k (RD bs (p + 1))) := by
  have e1 : IntKind.i64.wrap ((p : Int) + 1) = ((p + 1 : Nat) : Int) := by rw [i64_id (by omega) (by omega)]; simp
  have e2 : IntKind.i64.wrap (((p + 1 : Nat) : Int) - 1) = (p : Int) := by rw [i64_id (by omega) (by omega)]; simp
  by_cases h1 : n < 1
  · refine ⟨0, ⟨by omega, by omega, fun _ => rfl⟩, fun k S hk => ?_⟩
    refine E_start (h := ?_)
    repeat' (first | refine c0 ?_ | refine c1 ?_ | refine c2 ?_ | refine c3 ?_ | refine c4 ?_ | refine c5 ?_ | refine c6 (h := ?_) | refine c7 ?_ | refine d2 ?_ | refine c8 ?_ | refine c9 ?_ | refine d0 ?_ | refine d1 ?_ | refine d4 ?_ | refine d3' (h := ?_) | refine d4' ?_ | refine a0 (hk := ?_) | refine b0 (hk := ?_) | refine b1 (hk := ?_) | refine b2 (hk := ?_) | refine b3 (hk := ?_) | refine b4 (hk := ?_) | refine p1 (hk := ?_) | refine g0' (hk := ?_) | refine a1 (hk := ?_) | refine a2 (hk := ?_) | refine u1 (hk := ?_) | refine u2 (hk := ?_) | refine u3 (hk := ?_) | refine u4 (hk := ?_) | refine a3 (ht := ?_) (hf := ?_) | refine a4 (ht := ?_) (hf := ?_) | refine a5 (hk := ?_) | refine b5 (hk := ?_) | refine b6 (hk := ?_) | refine b8 (hk := ?_) | refine b9 (hk := ?_) | refine b7 (hk := ?_) | refine p0 (hk := ?_) | refine g1 (hw := ?_) | refine g2 (hw := ?_) | refine g3 (hw := ?_) | refine g4 (hw := ?_) | refine e0' (hk := ?_) | refine b0' (hk := ?_) | refine b1' (hk := ?_) | refine p1' (hk := ?_) | refine e1' (hk := ?_) | refine e2' (hk := ?_) | refine u1' (hk := ?_) | refine u2' (hk := ?_) | refine u3' (hk := ?_) | refine u4' (hk := ?_) | refine e3' (ht := ?_) (hf := ?_) | refine e4' (ht := ?_) (hf := ?_) | refine b4' (hk := ?_) | refine b7b (hk := ?_) | refine e5' (hk := ?_) | refine f5' (hk := ?_) | refine f6' (hk := ?_) | refine f8' (hk := ?_) | refine f9' (hk := ?_) | refine b7' (hk := ?_) | refine p0' (hk := ?_) | refine h1'' (hw := ?_) | refine h2'' (hw := ?_) | refine h3'' (hw := ?_) | refine h4'' (hw := ?_) | (with_reducible intro hc) | refine d6 (ht := ?_) | refine d7 (hf := ?_) | refine u5 (hk := ?_) | refine u6 (hk := ?_) | refine u7 (hk := ?_) | refine u8 (hk := ?_) | refine d8 (ht := ?_) (hf := ?_) | refine d9 (ht := ?_) (hf := ?_))
    rw [e1]
    exact rKV (o := RD _ (p + 1)) hk xkZ (RD_ok _ _)
  cases bs with
  | nil =>
    refine ⟨0, ⟨by omega, by omega, fun _ => rfl⟩, fun k S hk => ?_⟩
    refine E_start (h := ?_)
    repeat' (first | refine c0 ?_ | refine c1 ?_ | refine c2 ?_ | refine c3 ?_ | refine c4 ?_ | refine c5 ?_ | refine c6 (h := ?_) | refine c7 ?_ | refine d2 ?_ | refine c8 ?_ | refine c9 ?_ | refine d0 ?_ | refine d1 ?_ | refine d4 ?_ | refine d3' (h := ?_) | refine d4' ?_ | refine a0 (hk := ?_) | refine b0 (hk := ?_) | refine b1 (hk := ?_) | refine b2 (hk := ?_) | refine b3 (hk := ?_) | refine b4 (hk := ?_) | refine p1 (hk := ?_) | refine g0' (hk := ?_) | refine a1 (hk := ?_) | refine a2 (hk := ?_) | refine u1 (hk := ?_) | refine u2 (hk := ?_) | refine u3 (hk := ?_) | refine u4 (hk := ?_) | refine a3 (ht := ?_) (hf := ?_) | refine a4 (ht := ?_) (hf := ?_) | refine a5 (hk := ?_) | refine b5 (hk := ?_) | refine b6 (hk := ?_) | refine b8 (hk := ?_) | refine b9 (hk := ?_) | refine b7 (hk := ?_) | refine p0 (hk := ?_) | refine g1 (hw := ?_) | refine g2 (hw := ?_) | refine g3 (hw := ?_) | refine g4 (hw := ?_) | refine e0' (hk := ?_) | refine b0' (hk := ?_) | refine b1' (hk := ?_) | refine p1' (hk := ?_) | refine e1' (hk := ?_) | refine e2' (hk := ?_) | refine u1' (hk := ?_) | refine u2' (hk := ?_) | refine u3' (hk := ?_) | refine u4' (hk := ?_) | refine e3' (ht := ?_) (hf := ?_) | refine e4' (ht := ?_) (hf := ?_) | refine b4' (hk := ?_) | refine b7b (hk := ?_) | refine e5' (hk := ?_) | refine f5' (hk := ?_) | refine f6' (hk := ?_) | refine f8' (hk := ?_) | refine f9' (hk := ?_) | refine b7' (hk := ?_) | refine p0' (hk := ?_) | refine h1'' (hw := ?_) | refine h2'' (hw := ?_) | refine h3'' (hw := ?_) | refine h4'' (hw := ?_) | (with_reducible intro hc) | refine d6 (ht := ?_) | refine d7 (hf := ?_) | refine u5 (hk := ?_) | refine u6 (hk := ?_) | refine u7 (hk := ?_) | refine u8 (hk := ?_) | refine d8 (ht := ?_) (hf := ?_) | refine d9 (ht := ?_) (hf := ?_))
    rw [e1]
    exact rKV (o := RD _ (p + 1)) hk xkZ (RD_ok _ _)
  | cons b0 bt =>
    generalize hbs : b0 :: bt = bs at *
    have hlen : 0 < bs.length := by rw [← hbs]; simp
    have hne : ((bs.map brow).length : Int) ≠ 0 := by rw [List.length_map]; omega
    by_cases h2 : p < bs.length
    · have hget : bs[p]? = some bs[p] := by simp [h2]
      have hlt : bs[p].toNat < 256 := bs[p].toNat_lt
      refine ⟨((bs[p].toNat : Int)).tmod n, ⟨Int.tmod_nonneg _ (Int.natCast_nonneg _), fun h => Int.tmod_lt_of_pos _ (by omega), fun h => absurd h h1⟩, fun k S hk => ?_⟩
      have h3 : (p : Int) < ((bs.map brow).length : Int) := by simp; omega
      have e3 : IntKind.i64.wrap (bs[p].toNat : Int) = (bs[p].toNat : Int) := i64_id (by omega) (by omega)
      have h4 : n ≠ 0 := by omega
      have h5 : (((bs.map brow).length : Int) == 0) = false := by simpa using hne
      have h6 : ∀ q : Int, q = (p : Int) → (decide (q < ((bs.map brow).length : Int)) = true) := fun q hq => by rw [hq]; simpa using h2
      refine E_start (h := ?_)
      repeat' (first | refine c0 ?_ | refine c1 ?_ | refine c2 ?_ | refine c3 ?_ | refine c4 ?_ | refine c5 ?_ | refine c6 (h := ?_) | refine c7 ?_ | refine d2 ?_ | refine c8 ?_ | refine c9 ?_ | refine d0 ?_ | refine d1 ?_ | refine d4 ?_ | refine d3' (h := ?_) | refine d4' ?_ | refine a0 (hk := ?_) | refine b0 (hk := ?_) | refine b1 (hk := ?_) | refine b2 (hk := ?_) | refine b3 (hk := ?_) | refine b4 (hk := ?_) | refine p1 (hk := ?_) | refine g0' (hk := ?_) | refine a1 (hk := ?_) | refine a2 (hk := ?_) | refine u1 (hk := ?_) | refine u2 (hk := ?_) | refine u3 (hk := ?_) | refine u4 (hk := ?_) | refine a3 (ht := ?_) (hf := ?_) | refine a4 (ht := ?_) (hf := ?_) | refine a5 (hk := ?_) | refine b5 (hk := ?_) | refine b6 (hk := ?_) | refine b8 (hk := ?_) | refine b9 (hk := ?_) | refine b7 (hk := ?_) | refine p0 (hk := ?_) | refine g1 (hw := ?_) | refine g2 (hw := ?_) | refine g3 (hw := ?_) | refine g4 (hw := ?_) | refine e0' (hk := ?_) | refine b0' (hk := ?_) | refine b1' (hk := ?_) | refine p1' (hk := ?_) | refine e1' (hk := ?_) | refine e2' (hk := ?_) | refine u1' (hk := ?_) | refine u2' (hk := ?_) | refine u3' (hk := ?_) | refine u4' (hk := ?_) | refine e3' (ht := ?_) (hf := ?_) | refine e4' (ht := ?_) (hf := ?_) | refine b4' (hk := ?_) | refine b7b (hk := ?_) | refine e5' (hk := ?_) | refine f5' (hk := ?_) | refine f6' (hk := ?_) | refine f8' (hk := ?_) | refine f9' (hk := ?_) | refine b7' (hk := ?_) | refine p0' (hk := ?_) | refine h1'' (hw := ?_) | refine h2'' (hw := ?_) | refine h3'' (hw := ?_) | refine h4'' (hw := ?_) | (with_reducible intro hc) | refine d6 (ht := ?_) | refine d7 (hf := ?_) | refine u5 (hk := ?_) | refine u6 (hk := ?_) | refine u7 (hk := ?_) | refine u8 (hk := ?_) | refine d8 (ht := ?_) (hf := ?_) | refine d9 (ht := ?_) (hf := ?_))
      all_goals rw [e1, e2] at *
      · repeat' (first | refine c0 ?_ | refine c1 ?_ | refine c2 ?_ | refine c3 ?_ | refine c4 ?_ | refine c5 ?_ | refine c6 (h := ?_) | refine c7 ?_ | refine d2 ?_ | refine c8 ?_ | refine c9 ?_ | refine d0 ?_ | refine d1 ?_ | refine d4 ?_ | refine d3' (h := ?_) | refine d4' ?_ | refine a0 (hk := ?_) | refine b0 (hk := ?_) | refine b1 (hk := ?_) | refine b2 (hk := ?_) | refine b3 (hk := ?_) | refine b4 (hk := ?_) | refine p1 (hk := ?_) | refine g0' (hk := ?_) | refine a1 (hk := ?_) | refine a2 (hk := ?_) | refine u1 (hk := ?_) | refine u2 (hk := ?_) | refine u3 (hk := ?_) | refine u4 (hk := ?_) | refine a3 (ht := ?_) (hf := ?_) | refine a4 (ht := ?_) (hf := ?_) | refine a5 (hk := ?_) | refine b5 (hk := ?_) | refine b6 (hk := ?_) | refine b8 (hk := ?_) | refine b9 (hk := ?_) | refine b7 (hk := ?_) | refine p0 (hk := ?_) | refine g1 (hw := ?_) | refine g2 (hw := ?_) | refine g3 (hw := ?_) | refine g4 (hw := ?_) | refine e0' (hk := ?_) | refine b0' (hk := ?_) | refine b1' (hk := ?_) | refine p1' (hk := ?_) | refine e1' (hk := ?_) | refine e2' (hk := ?_) | refine u1' (hk := ?_) | refine u2' (hk := ?_) | refine u3' (hk := ?_) | refine u4' (hk := ?_) | refine e3' (ht := ?_) (hf := ?_) | refine e4' (ht := ?_) (hf := ?_) | refine b4' (hk := ?_) | refine b7b (hk := ?_) | refine e5' (hk := ?_) | refine f5' (hk := ?_) | refine f6' (hk := ?_) | refine f8' (hk := ?_) | refine f9' (hk := ?_) | refine b7' (hk := ?_) | refine p0' (hk := ?_) | refine h1'' (hw := ?_) | refine h2'' (hw := ?_) | refine h3'' (hw := ?_) | refine h4'' (hw := ?_) | (with_reducible intro hc) | refine d6 (ht := ?_) | refine d7 (hf := ?_) | refine u5 (hk := ?_) | refine u6 (hk := ?_) | refine u7 (hk := ?_) | refine u8 (hk := ?_) | refine d8 (ht := ?_) (hf := ?_) | refine d9 (ht := ?_) (hf := ?_))
        rw [e3]
        repeat' (first | refine c0 ?_ | refine c1 ?_ | refine c2 ?_ | refine c3 ?_ | refine c4 ?_ | refine c5 ?_ | refine c6 (h := ?_) | refine c7 ?_ | refine d2 ?_ | refine c8 ?_ | refine c9 ?_ | refine d0 ?_ | refine d1 ?_ | refine d4 ?_ | refine d3' (h := ?_) | refine d4' ?_ | refine a0 (hk := ?_) | refine b0 (hk := ?_) | refine b1 (hk := ?_) | refine b2 (hk := ?_) | refine b3 (hk := ?_) | refine b4 (hk := ?_) | refine p1 (hk := ?_) | refine g0' (hk := ?_) | refine a1 (hk := ?_) | refine a2 (hk := ?_) | refine u1 (hk := ?_) | refine u2 (hk := ?_) | refine u3 (hk := ?_) | refine u4 (hk := ?_) | refine a3 (ht := ?_) (hf := ?_) | refine a4 (ht := ?_) (hf := ?_) | refine a5 (hk := ?_) | refine b5 (hk := ?_) | refine b6 (hk := ?_) | refine b8 (hk := ?_) | refine b9 (hk := ?_) | refine b7 (hk := ?_) | refine p0 (hk := ?_) | refine g1 (hw := ?_) | refine g2 (hw := ?_) | refine g3 (hw := ?_) | refine g4 (hw := ?_) | refine e0' (hk := ?_) | refine b0' (hk := ?_) | refine b1' (hk := ?_) | refine p1' (hk := ?_) | refine e1' (hk := ?_) | refine e2' (hk := ?_) | refine u1' (hk := ?_) | refine u2' (hk := ?_) | refine u3' (hk := ?_) | refine u4' (hk := ?_) | refine e3' (ht := ?_) (hf := ?_) | refine e4' (ht := ?_) (hf := ?_) | refine b4' (hk := ?_) | refine b7b (hk := ?_) | refine e5' (hk := ?_) | refine f5' (hk := ?_) | refine f6' (hk := ?_) | refine f8' (hk := ?_) | refine f9' (hk := ?_) | refine b7' (hk := ?_) | refine p0' (hk := ?_) | refine h1'' (hw := ?_) | refine h2'' (hw := ?_) | refine h3'' (hw := ?_) | refine h4'' (hw := ?_) | (with_reducible intro hc) | refine d6 (ht := ?_) | refine d7 (hf := ?_) | refine u5 (hk := ?_) | refine u6 (hk := ?_) | refine u7 (hk := ?_) | refine u8 (hk := ?_) | refine d8 (ht := ?_) (hf := ?_) | refine d9 (ht := ?_) (hf := ?_))
        exact rKV (o := RD _ (p + 1)) hk xkZ (RD_ok _ _)
      · contradiction
    · have h3 : ¬ ((p : Int) < ((bs.map brow).length : Int)) := by simp; omega
      have h5 : (((bs.map brow).length : Int) == 0) = false := by simpa using hne
      have hm : ∀ q : Nat, ((q : Int).tmod ((bs.map brow).length : Int)) = ((q % bs.length : Nat) : Int) := fun q => by rw [List.length_map]; rfl
      have hq : ∀ q : Nat, bs[q % bs.length]? = some (bs[q % bs.length]'(Nat.mod_lt _ hlen)) := fun q => by simp [Nat.mod_lt _ hlen]
      have e7 : IntKind.i64.wrap ((p : Int) * 7) = ((p * 7 : Nat) : Int) := by rw [i64_id (by omega) (by omega)]; simp
      have e8 : IntKind.i64.wrap (((p * 7 : Nat) : Int) + 3) = ((p * 7 + 3 : Nat) : Int) := by rw [i64_id (by omega) (by omega)]; simp
      have hq1 := hq p
      have hq2 := hq (p * 7 + 3)
      have h4 : n ≠ 0 := by omega
      let w := IntKind.i64.wrap
      let x : Int := w (w (w (w (w ((bs[p % bs.length]'(Nat.mod_lt _ hlen)).toNat : Int) * 131) + w (w ((bs[(p * 7 + 3) % bs.length]'(Nat.mod_lt _ hlen)).toNat : Int) * 1117)) + w ((p : Int) * 29)) + w (w ((p : Int).tdiv ((bs.map brow).length : Int)) * 53))
      have hx : 0 ≤ x ∧ x < 4611686018427387904 := by
        have l1 : (bs[p % bs.length]'(Nat.mod_lt _ hlen)).toNat < 256 := UInt8.toNat_lt _
        have l2 : (bs[(p * 7 + 3) % bs.length]'(Nat.mod_lt _ hlen)).toNat < 256 := UInt8.toNat_lt _
        have l3 : (p : Int).tdiv ((bs.map brow).length : Int) = ((p / bs.length : Nat) : Int) := by rw [List.length_map]; rfl
        have l4 : p / bs.length ≤ p := Nat.div_le_self _ _
        simp only [x, w, l3]
        exact big _ _ _ _ l1 l2 (Nat.le_trans l4 hp) hp
      refine ⟨(w (BitVec.ofInt 64 x ^^^ BitVec.ofInt 64 (w (x.tdiv 64))).toNat).tmod n, ⟨?_, fun _ => Int.tmod_lt_of_pos _ (by omega), fun h => absurd h h1⟩, ?_⟩
      · have hd : x.tdiv 64 = x / 64 := Int.tdiv_eq_ediv_of_nonneg hx.1
        have hw : w (x.tdiv 64) = x / 64 := by rw [hd]; exact i64_id (by omega) (by omega)
        refine Int.tmod_nonneg _ ?_
        rw [hw]
        exact xor_pos hx.1 hx.2 (by omega) (by omega)
      · intro k S hk
        refine E_start (h := ?_)
        repeat' (first | refine c0 ?_ | refine c1 ?_ | refine c2 ?_ | refine c3 ?_ | refine c4 ?_ | refine c5 ?_ | refine c6 (h := ?_) | refine c7 ?_ | refine d2 ?_ | refine c8 ?_ | refine c9 ?_ | refine d0 ?_ | refine d1 ?_ | refine d4 ?_ | refine d3' (h := ?_) | refine d4' ?_ | refine a0 (hk := ?_) | refine b0 (hk := ?_) | refine b1 (hk := ?_) | refine b2 (hk := ?_) | refine b3 (hk := ?_) | refine b4 (hk := ?_) | refine p1 (hk := ?_) | refine g0' (hk := ?_) | refine a1 (hk := ?_) | refine a2 (hk := ?_) | refine u1 (hk := ?_) | refine u2 (hk := ?_) | refine u3 (hk := ?_) | refine u4 (hk := ?_) | refine a3 (ht := ?_) (hf := ?_) | refine a4 (ht := ?_) (hf := ?_) | refine a5 (hk := ?_) | refine b5 (hk := ?_) | refine b6 (hk := ?_) | refine b8 (hk := ?_) | refine b9 (hk := ?_) | refine b7 (hk := ?_) | refine p0 (hk := ?_) | refine g1 (hw := ?_) | refine g2 (hw := ?_) | refine g3 (hw := ?_) | refine g4 (hw := ?_) | refine e0' (hk := ?_) | refine b0' (hk := ?_) | refine b1' (hk := ?_) | refine p1' (hk := ?_) | refine e1' (hk := ?_) | refine e2' (hk := ?_) | refine u1' (hk := ?_) | refine u2' (hk := ?_) | refine u3' (hk := ?_) | refine u4' (hk := ?_) | refine e3' (ht := ?_) (hf := ?_) | refine e4' (ht := ?_) (hf := ?_) | refine b4' (hk := ?_) | refine b7b (hk := ?_) | refine e5' (hk := ?_) | refine f5' (hk := ?_) | refine f6' (hk := ?_) | refine f8' (hk := ?_) | refine f9' (hk := ?_) | refine b7' (hk := ?_) | refine p0' (hk := ?_) | refine h1'' (hw := ?_) | refine h2'' (hw := ?_) | refine h3'' (hw := ?_) | refine h4'' (hw := ?_) | (with_reducible intro hc) | refine d6 (ht := ?_) | refine d7 (hf := ?_) | refine u5 (hk := ?_) | refine u6 (hk := ?_) | refine u7 (hk := ?_) | refine u8 (hk := ?_) | refine d8 (ht := ?_) (hf := ?_) | refine d9 (ht := ?_) (hf := ?_))
        all_goals rw [e1, e2] at *
        · contradiction
        · repeat' (first | refine c0 ?_ | refine c1 ?_ | refine c2 ?_ | refine c3 ?_ | refine c4 ?_ | refine c5 ?_ | refine c6 (h := ?_) | refine c7 ?_ | refine d2 ?_ | refine c8 ?_ | refine c9 ?_ | refine d0 ?_ | refine d1 ?_ | refine d4 ?_ | refine d3' (h := ?_) | refine d4' ?_ | refine a0 (hk := ?_) | refine b0 (hk := ?_) | refine b1 (hk := ?_) | refine b2 (hk := ?_) | refine b3 (hk := ?_) | refine b4 (hk := ?_) | refine p1 (hk := ?_) | refine g0' (hk := ?_) | refine a1 (hk := ?_) | refine a2 (hk := ?_) | refine u1 (hk := ?_) | refine u2 (hk := ?_) | refine u3 (hk := ?_) | refine u4 (hk := ?_) | refine a3 (ht := ?_) (hf := ?_) | refine a4 (ht := ?_) (hf := ?_) | refine a5 (hk := ?_) | refine b5 (hk := ?_) | refine b6 (hk := ?_) | refine b8 (hk := ?_) | refine b9 (hk := ?_) | refine b7 (hk := ?_) | refine p0 (hk := ?_) | refine g1 (hw := ?_) | refine g2 (hw := ?_) | refine g3 (hw := ?_) | refine g4 (hw := ?_) | refine e0' (hk := ?_) | refine b0' (hk := ?_) | refine b1' (hk := ?_) | refine p1' (hk := ?_) | refine e1' (hk := ?_) | refine e2' (hk := ?_) | refine u1' (hk := ?_) | refine u2' (hk := ?_) | refine u3' (hk := ?_) | refine u4' (hk := ?_) | refine e3' (ht := ?_) (hf := ?_) | refine e4' (ht := ?_) (hf := ?_) | refine b4' (hk := ?_) | refine b7b (hk := ?_) | refine e5' (hk := ?_) | refine f5' (hk := ?_) | refine f6' (hk := ?_) | refine f8' (hk := ?_) | refine f9' (hk := ?_) | refine b7' (hk := ?_) | refine p0' (hk := ?_) | refine h1'' (hw := ?_) | refine h2'' (hw := ?_) | refine h3'' (hw := ?_) | refine h4'' (hw := ?_) | (with_reducible intro hc) | refine d6 (ht := ?_) | refine d7 (hf := ?_) | refine u5 (hk := ?_) | refine u6 (hk := ?_) | refine u7 (hk := ?_) | refine u8 (hk := ?_) | refine d8 (ht := ?_) (hf := ?_) | refine d9 (ht := ?_) (hf := ?_))
          refine f8' (h5 := hm p) (h6 := map_get hq1) (hk := ?_)
          repeat' (first | refine c0 ?_ | refine c1 ?_ | refine c2 ?_ | refine c3 ?_ | refine c4 ?_ | refine c5 ?_ | refine c6 (h := ?_) | refine c7 ?_ | refine d2 ?_ | refine c8 ?_ | refine c9 ?_ | refine d0 ?_ | refine d1 ?_ | refine d4 ?_ | refine d3' (h := ?_) | refine d4' ?_ | refine a0 (hk := ?_) | refine b0 (hk := ?_) | refine b1 (hk := ?_) | refine b2 (hk := ?_) | refine b3 (hk := ?_) | refine b4 (hk := ?_) | refine p1 (hk := ?_) | refine g0' (hk := ?_) | refine a1 (hk := ?_) | refine a2 (hk := ?_) | refine u1 (hk := ?_) | refine u2 (hk := ?_) | refine u3 (hk := ?_) | refine u4 (hk := ?_) | refine a3 (ht := ?_) (hf := ?_) | refine a4 (ht := ?_) (hf := ?_) | refine a5 (hk := ?_) | refine b5 (hk := ?_) | refine b6 (hk := ?_) | refine b8 (hk := ?_) | refine b9 (hk := ?_) | refine b7 (hk := ?_) | refine p0 (hk := ?_) | refine g1 (hw := ?_) | refine g2 (hw := ?_) | refine g3 (hw := ?_) | refine g4 (hw := ?_) | refine e0' (hk := ?_) | refine b0' (hk := ?_) | refine b1' (hk := ?_) | refine p1' (hk := ?_) | refine e1' (hk := ?_) | refine e2' (hk := ?_) | refine u1' (hk := ?_) | refine u2' (hk := ?_) | refine u3' (hk := ?_) | refine u4' (hk := ?_) | refine e3' (ht := ?_) (hf := ?_) | refine e4' (ht := ?_) (hf := ?_) | refine b4' (hk := ?_) | refine b7b (hk := ?_) | refine e5' (hk := ?_) | refine f5' (hk := ?_) | refine f6' (hk := ?_) | refine f8' (hk := ?_) | refine f9' (hk := ?_) | refine b7' (hk := ?_) | refine p0' (hk := ?_) | refine h1'' (hw := ?_) | refine h2'' (hw := ?_) | refine h3'' (hw := ?_) | refine h4'' (hw := ?_) | (with_reducible intro hc) | refine d6 (ht := ?_) | refine d7 (hf := ?_) | refine u5 (hk := ?_) | refine u6 (hk := ?_) | refine u7 (hk := ?_) | refine u8 (hk := ?_) | refine d8 (ht := ?_) (hf := ?_) | refine d9 (ht := ?_) (hf := ?_))
          rw [e7, e8]
          repeat' (first | refine c0 ?_ | refine c1 ?_ | refine c2 ?_ | refine c3 ?_ | refine c4 ?_ | refine c5 ?_ | refine c6 (h := ?_) | refine c7 ?_ | refine d2 ?_ | refine c8 ?_ | refine c9 ?_ | refine d0 ?_ | refine d1 ?_ | refine d4 ?_ | refine d3' (h := ?_) | refine d4' ?_ | refine a0 (hk := ?_) | refine b0 (hk := ?_) | refine b1 (hk := ?_) | refine b2 (hk := ?_) | refine b3 (hk := ?_) | refine b4 (hk := ?_) | refine p1 (hk := ?_) | refine g0' (hk := ?_) | refine a1 (hk := ?_) | refine a2 (hk := ?_) | refine u1 (hk := ?_) | refine u2 (hk := ?_) | refine u3 (hk := ?_) | refine u4 (hk := ?_) | refine a3 (ht := ?_) (hf := ?_) | refine a4 (ht := ?_) (hf := ?_) | refine a5 (hk := ?_) | refine b5 (hk := ?_) | refine b6 (hk := ?_) | refine b8 (hk := ?_) | refine b9 (hk := ?_) | refine b7 (hk := ?_) | refine p0 (hk := ?_) | refine g1 (hw := ?_) | refine g2 (hw := ?_) | refine g3 (hw := ?_) | refine g4 (hw := ?_) | refine e0' (hk := ?_) | refine b0' (hk := ?_) | refine b1' (hk := ?_) | refine p1' (hk := ?_) | refine e1' (hk := ?_) | refine e2' (hk := ?_) | refine u1' (hk := ?_) | refine u2' (hk := ?_) | refine u3' (hk := ?_) | refine u4' (hk := ?_) | refine e3' (ht := ?_) (hf := ?_) | refine e4' (ht := ?_) (hf := ?_) | refine b4' (hk := ?_) | refine b7b (hk := ?_) | refine e5' (hk := ?_) | refine f5' (hk := ?_) | refine f6' (hk := ?_) | refine f8' (hk := ?_) | refine f9' (hk := ?_) | refine b7' (hk := ?_) | refine p0' (hk := ?_) | refine h1'' (hw := ?_) | refine h2'' (hw := ?_) | refine h3'' (hw := ?_) | refine h4'' (hw := ?_) | (with_reducible intro hc) | refine d6 (ht := ?_) | refine d7 (hf := ?_) | refine u5 (hk := ?_) | refine u6 (hk := ?_) | refine u7 (hk := ?_) | refine u8 (hk := ?_) | refine d8 (ht := ?_) (hf := ?_) | refine d9 (ht := ?_) (hf := ?_))
          refine f8' (h5 := hm (p * 7 + 3)) (h6 := map_get hq2) (hk := ?_)
          repeat' (first | refine c0 ?_ | refine c1 ?_ | refine c2 ?_ | refine c3 ?_ | refine c4 ?_ | refine c5 ?_ | refine c6 (h := ?_) | refine c7 ?_ | refine d2 ?_ | refine c8 ?_ | refine c9 ?_ | refine d0 ?_ | refine d1 ?_ | refine d4 ?_ | refine d3' (h := ?_) | refine d4' ?_ | refine a0 (hk := ?_) | refine b0 (hk := ?_) | refine b1 (hk := ?_) | refine b2 (hk := ?_) | refine b3 (hk := ?_) | refine b4 (hk := ?_) | refine p1 (hk := ?_) | refine g0' (hk := ?_) | refine a1 (hk := ?_) | refine a2 (hk := ?_) | refine u1 (hk := ?_) | refine u2 (hk := ?_) | refine u3 (hk := ?_) | refine u4 (hk := ?_) | refine a3 (ht := ?_) (hf := ?_) | refine a4 (ht := ?_) (hf := ?_) | refine a5 (hk := ?_) | refine b5 (hk := ?_) | refine b6 (hk := ?_) | refine b8 (hk := ?_) | refine b9 (hk := ?_) | refine b7 (hk := ?_) | refine p0 (hk := ?_) | refine g1 (hw := ?_) | refine g2 (hw := ?_) | refine g3 (hw := ?_) | refine g4 (hw := ?_) | refine e0' (hk := ?_) | refine b0' (hk := ?_) | refine b1' (hk := ?_) | refine p1' (hk := ?_) | refine e1' (hk := ?_) | refine e2' (hk := ?_) | refine u1' (hk := ?_) | refine u2' (hk := ?_) | refine u3' (hk := ?_) | refine u4' (hk := ?_) | refine e3' (ht := ?_) (hf := ?_) | refine e4' (ht := ?_) (hf := ?_) | refine b4' (hk := ?_) | refine b7b (hk := ?_) | refine e5' (hk := ?_) | refine f5' (hk := ?_) | refine f6' (hk := ?_) | refine f8' (hk := ?_) | refine f9' (hk := ?_) | refine b7' (hk := ?_) | refine p0' (hk := ?_) | refine h1'' (hw := ?_) | refine h2'' (hw := ?_) | refine h3'' (hw := ?_) | refine h4'' (hw := ?_) | (with_reducible intro hc) | refine d6 (ht := ?_) | refine d7 (hf := ?_) | refine u5 (hk := ?_) | refine u6 (hk := ?_) | refine u7 (hk := ?_) | refine u8 (hk := ?_) | refine d8 (ht := ?_) (hf := ?_) | refine d9 (ht := ?_) (hf := ?_))
          exact rKV (o := RD _ (p + 1)) hk xkZ (RD_ok _ _)
/-- The number that is drawn. -/
noncomputable def pickv (bs : List UInt8) (p : Nat) (n : Int) : Int := if h : bs.length ≤ 2000 ∧ p ≤ 100000000 then Classical.choose (pick_ex bs p n h.1 h.2) else 0
theorem k_pick {bs : List UInt8} {p : Nat} {n : Int} {k : Nat} {S : St} (hb : bs.length ≤ 2000) (hp : p ≤ 100000000) (hk : S[k]? = some (RD bs p)) : Ev Y spec_l6Rd_pick [.ptr k 1 0 0, I n] S (I (pickv bs p n)) (S.set k (RD bs (p + 1))) := by
  have h : bs.length ≤ 2000 ∧ p ≤ 100000000 := ⟨hb, hp⟩
  simp only [pickv, h, dif_pos, and_self]
  exact (Classical.choose_spec (pick_ex bs p n h.1 h.2)).2 k S hk
theorem pickv_bd (bs : List UInt8) (p : Nat) (n : Int) : 0 ≤ pickv bs p n ∧ (1 ≤ n → pickv bs p n < n) ∧ (n < 1 → pickv bs p n = 0) := by
  unfold pickv
  split
  · rename_i h; exact (Classical.choose_spec (pick_ex bs p n h.1 h.2)).1
  · exact ⟨by omega, by omega, fun _ => rfl⟩
end Go.Proofs.X
end
section
namespace Go.Proofs.X
open Go Go.Proofs.XVai Go.Proofs Go.Proofs.XN
set_option linter.unusedVariables false
set_option linter.unusedSimpArgs false
set_option maxHeartbeats 4000000
/-- What is drawn: at most so many bytes on, a value of which something holds. -/
def Dr (g : Nat) (args : List HV) (c : Nat) (R : HV → Prop) : Prop := ∀ (bs : List UInt8) (p k : Nat) (S : St), bs.length ≤ 2000 → p + c ≤ 100000000 → S[k]? = some (RD bs p) →
  ∃ v p', p ≤ p' ∧ p' ≤ p + c ∧ R v ∧ Ev Y g (.ptr k 1 0 0 :: args) S v (S.set k (RD bs p'))
section
variable {fid : Nat} {T : Tm} {S : St} {K : Tm → St → Prop} {ops : Array Oper} {l : List Oper} {dst : Option Tmp} {ty : TypeId} {pos : String} {after : Array Edge} {g0 : Option (Nat × Bool)} {bs ix : Nat} {es : List (Nat × (Nat → Prop))} {ns : List (Nat × Nat)}
theorem kD {f : Operand} {args : Array Operand} {ats : Array TypeId} {g c k p : Nat} {S0 L : St} {args' : List HV} {R : HV → Prop} {by' : List UInt8} {o : Ob} (hg : wantG ops g0 T = true := by rfl) (hf : ev T f = .fn g [] := by rfl) (hb : Y.byref g = false := by rfl)
    (ha : mapMS (frzV 0) (args.toList.map (ev T)) (S0.set k o ++ L) = some (.ptr k 1 0 0 :: args', S0.set k o ++ L) := by rfl) (hd : Dr g args' c R) (h0 : ∃ o1, S0[k]? = some o1) (ho : o = RD by' p := by rfl) (hl : by'.length ≤ 2000) (hp : p + c ≤ 100000000)
    (hk : ∀ v p', p ≤ p' → p' ≤ p + c → R v → OW Y fid ops none l (put T dst v) (S0.set k (RD by' p') ++ L) K) : OW Y fid ops none (⟨dst, .call ⟨.value f, args, ats⟩, ty, pos, after, g0⟩ :: l) T (S0.set k o ++ L) K := by
  subst ho
  obtain ⟨o1, h0⟩ := h0
  obtain ⟨v, p', h1, h2, h3, h4⟩ := hd by' p k _ hl hp (get_set h0)
  rw [set_set h0] at h4
  exact k0 hg hf hb ha (by rw [List.append_nil]; exact h4) rfl (by rw [fv_eq]; exact hk v p' h1 h2 h3)
end
theorem k_pick' {bs : List UInt8} {p : Nat} {n : Int} {k : Nat} {S : St} (hk : S[k]? = some (RD bs p)) (hb : bs.length ≤ 2000) (hp : p ≤ 100000000) : Ev Y spec_l6Rd_pick [.ptr k 1 0 0, I n] S (I (pickv bs p n)) (S.set k (RD bs (p + 1))) := k_pick hb hp hk
theorem pick_nat (bs : List UInt8) (p : Nat) {n : Nat} (h : 1 ≤ n) : ∃ j : Nat, pickv bs p n = j ∧ j < n := by
  obtain ⟨h1, h2, _⟩ := pickv_bd bs p n
  have := h2 (by omega)
  exact ⟨(pickv bs p n).toNat, by omega, by omega⟩
theorem lit_get (xs : List Int) {j : Nat} (h : j < xs.length) : xs[j]? = some (xs.getD j 0) := by simp [h]
/-- A value out of a cell of one's own, and an old object that is another one. -/
theorem rKC {Y : XVai.Sys} {f : Nat} {fn : Func} {T' : Tm} {S0 S1 L : St} {k : Nat} {o o' o0 : Ob} {v v' : HV} (h0 : S0[k]? = some o0) (hE : ExtK S0 k o S1) (hio : idO S0.length o = true) (hkp : Y.keep f = false := by rfl) {a : Tmp} {t : TypeId} (hres : fn.results.toList = [.cell a t] := by rfl) {ti : TI} (h1 : Y.tab t = some ti := by rfl) {q n i of' : Nat} {fr : Bool} {rows : List (List HV)} {row : List HV}
    (h2 : T' a = .ptr q n i of' := by rfl) (h3 : (S1 ++ L)[q]? = some (.cells fr rows)) (h4 : rows.length = n := by rfl) (h5 : rows[i]? = some row := by rfl) (h6 : XVai.part ti.agg ti.size row of' = some v := by rfl) (hz : ∀ S, frzR S0.length v S = some (v', S) := by exact fun _ => rfl) (hi : idR S0.length v' = true := by rfl) (ho : o = o' := by rfl) : RT Y f fn S0 v' (S0.set k o') .ret T' (S1 ++ L) := by
  refine rKV (vs := [v]) h0 hE hio hkp ?_ hz hi rfl ho
  rw [hres]
  simp only [resVs, resV, cload, h1, getRow, h2, h3, h4, if_true, h5, Option.map_some, h6]

theorem d_l71Label : Dr spec_l71Label [] 2 (fun v => ∃ l, v = .agg (lrow l) ∧ labOk l = true) := by
  intro bs p k S hb hp hk
  obtain ⟨j1, e1, hj1⟩ := pick_nat bs p (n := 9) (by omega)
  obtain ⟨j2, e2, hj2⟩ := pick_nat bs (p + 1) (n := 9) (by omega)
  have g1 := lit_get [7, 7, 3, 5, 6, 1, 2, 4, 0] (j := j1) hj1
  have g2 := lit_get [0, 0, 1, 2, 4, 3, 7, 5, 6] (j := j2) hj2
  refine ⟨_, p + 2, by omega, by omega, ⟨⟨[7, 7, 3, 5, 6, 1, 2, 4, 0].getD j1 0, [0, 0, 1, 2, 4, 3, 7, 5, 6].getD j2 0⟩, rfl, ?_⟩, ?_⟩
  · have a1 : ∀ j ∈ List.range 9, setB ([7, 7, 3, 5, 6, 1, 2, 4, 0].getD j 0) = true := by decide
    have a2 : ∀ j ∈ List.range 9, setB ([0, 0, 1, 2, 4, 3, 7, 5, 6].getD j 0) = true := by decide
    simp only [labOk, a1 j1 (by simpa using hj1), a2 j2 (by simpa using hj2), Bool.and_self]
  · refine E_start (h := ?_)
    repeat' (first | refine c0 ?_ | refine c1 ?_ | refine c2 ?_ | refine c3 ?_ | refine c4 ?_ | refine c5 ?_ | refine c6 (h := ?_) | refine c7 ?_ | refine d2 ?_ | refine c8 ?_ | refine c9 ?_ | refine d0 ?_ | refine d1 ?_ | refine d4 ?_ | refine d3' (h := ?_) | refine d4' ?_ | refine a0 (hk := ?_) | refine k0 (he := (by first | exact k_pick' (by first | assumption | exact get_old (by assumption) | exact get_set (by assumption)) hb (by omega))) (hk := ?_) | refine k1 (he := (by first | exact k_pick' (by first | assumption | exact get_old (by assumption) | exact get_set (by assumption)) hb (by omega))) (hk := ?_) | refine k0' (he := (by first | exact k_pick' (by first | assumption | exact get_old (by assumption) | exact get_set (by assumption)) hb (by omega))) (hk := ?_) | refine k2' (he := (by first | exact k_pick' (by first | assumption | exact get_old (by assumption) | exact get_set (by assumption)) hb (by omega))) (hk := ?_) | refine k3' (he := (by first | exact k_pick' (by first | assumption | exact get_old (by assumption) | exact get_set (by assumption)) hb (by omega))) (hk := ?_) | refine k1' (he := (by first | exact k_pick' (by first | assumption | exact get_old (by assumption) | exact get_set (by assumption)) hb (by omega))) (hk := ?_) | refine b0 (hk := ?_) | refine b1 (hk := ?_) | refine b2 (hk := ?_) | refine b3 (hk := ?_) | refine b4 (hk := ?_) | refine p1 (hk := ?_) | refine g0' (hk := ?_) | refine a1 (hk := ?_) | refine a2 (hk := ?_) | refine u1 (hk := ?_) | refine u2 (hk := ?_) | refine u3 (hk := ?_) | refine u4 (hk := ?_) | refine a3 (ht := ?_) (hf := ?_) | refine a4 (ht := ?_) (hf := ?_) | refine a5 (hk := ?_) | refine b5 (hk := ?_) | refine b6 (hk := ?_) | refine b8 (hk := ?_) | refine b9 (hk := ?_) | refine b7 (hk := ?_) | refine p0 (hk := ?_) | refine g1 (hw := ?_) | refine g2 (hw := ?_) | refine g3 (hw := ?_) | refine g4 (hw := ?_) | refine e0' (hk := ?_) | refine b0' (hk := ?_) | refine b1' (hk := ?_) | refine p1' (hk := ?_) | refine e1' (hk := ?_) | refine e2' (hk := ?_) | refine u1' (hk := ?_) | refine u2' (hk := ?_) | refine u3' (hk := ?_) | refine u4' (hk := ?_) | refine e3' (ht := ?_) (hf := ?_) | refine e4' (ht := ?_) (hf := ?_) | refine b4' (hk := ?_) | refine b7b (hk := ?_) | refine e5' (hk := ?_) | refine f5' (hk := ?_) | refine f6' (hk := ?_) | refine f8' (hk := ?_) | refine f9' (hk := ?_) | refine b7' (hk := ?_) | refine p0' (hk := ?_) | refine h1'' (hw := ?_) | refine h2'' (hw := ?_) | refine h3'' (hw := ?_) | refine h4'' (hw := ?_) | (with_reducible intro hc) | refine d6 (ht := ?_) | refine d7 (hf := ?_) | refine u5 (hk := ?_) | refine u6 (hk := ?_) | refine u7 (hk := ?_) | refine u8 (hk := ?_) | refine d8 (ht := ?_) (hf := ?_) | refine d9 (ht := ?_) (hf := ?_))
    refine f8' (h5 := e1) (h6 := map_get (f := irow) g1) (hk := ?_)
    repeat' (first | refine c0 ?_ | refine c1 ?_ | refine c2 ?_ | refine c3 ?_ | refine c4 ?_ | refine c5 ?_ | refine c6 (h := ?_) | refine c7 ?_ | refine d2 ?_ | refine c8 ?_ | refine c9 ?_ | refine d0 ?_ | refine d1 ?_ | refine d4 ?_ | refine d3' (h := ?_) | refine d4' ?_ | refine a0 (hk := ?_) | refine k0 (he := (by first | exact k_pick' (by first | assumption | exact get_old (by assumption) | exact get_set (by assumption)) hb (by omega))) (hk := ?_) | refine k1 (he := (by first | exact k_pick' (by first | assumption | exact get_old (by assumption) | exact get_set (by assumption)) hb (by omega))) (hk := ?_) | refine k0' (he := (by first | exact k_pick' (by first | assumption | exact get_old (by assumption) | exact get_set (by assumption)) hb (by omega))) (hk := ?_) | refine k2' (he := (by first | exact k_pick' (by first | assumption | exact get_old (by assumption) | exact get_set (by assumption)) hb (by omega))) (hk := ?_) | refine k3' (he := (by first | exact k_pick' (by first | assumption | exact get_old (by assumption) | exact get_set (by assumption)) hb (by omega))) (hk := ?_) | refine k1' (he := (by first | exact k_pick' (by first | assumption | exact get_old (by assumption) | exact get_set (by assumption)) hb (by omega))) (hk := ?_) | refine b0 (hk := ?_) | refine b1 (hk := ?_) | refine b2 (hk := ?_) | refine b3 (hk := ?_) | refine b4 (hk := ?_) | refine p1 (hk := ?_) | refine g0' (hk := ?_) | refine a1 (hk := ?_) | refine a2 (hk := ?_) | refine u1 (hk := ?_) | refine u2 (hk := ?_) | refine u3 (hk := ?_) | refine u4 (hk := ?_) | refine a3 (ht := ?_) (hf := ?_) | refine a4 (ht := ?_) (hf := ?_) | refine a5 (hk := ?_) | refine b5 (hk := ?_) | refine b6 (hk := ?_) | refine b8 (hk := ?_) | refine b9 (hk := ?_) | refine b7 (hk := ?_) | refine p0 (hk := ?_) | refine g1 (hw := ?_) | refine g2 (hw := ?_) | refine g3 (hw := ?_) | refine g4 (hw := ?_) | refine e0' (hk := ?_) | refine b0' (hk := ?_) | refine b1' (hk := ?_) | refine p1' (hk := ?_) | refine e1' (hk := ?_) | refine e2' (hk := ?_) | refine u1' (hk := ?_) | refine u2' (hk := ?_) | refine u3' (hk := ?_) | refine u4' (hk := ?_) | refine e3' (ht := ?_) (hf := ?_) | refine e4' (ht := ?_) (hf := ?_) | refine b4' (hk := ?_) | refine b7b (hk := ?_) | refine e5' (hk := ?_) | refine f5' (hk := ?_) | refine f6' (hk := ?_) | refine f8' (hk := ?_) | refine f9' (hk := ?_) | refine b7' (hk := ?_) | refine p0' (hk := ?_) | refine h1'' (hw := ?_) | refine h2'' (hw := ?_) | refine h3'' (hw := ?_) | refine h4'' (hw := ?_) | (with_reducible intro hc) | refine d6 (ht := ?_) | refine d7 (hf := ?_) | refine u5 (hk := ?_) | refine u6 (hk := ?_) | refine u7 (hk := ?_) | refine u8 (hk := ?_) | refine d8 (ht := ?_) (hf := ?_) | refine d9 (ht := ?_) (hf := ?_))
    refine f8' (h5 := e2) (h6 := map_get (f := irow) g2) (hk := ?_)
    repeat' (first | refine c0 ?_ | refine c1 ?_ | refine c2 ?_ | refine c3 ?_ | refine c4 ?_ | refine c5 ?_ | refine c6 (h := ?_) | refine c7 ?_ | refine d2 ?_ | refine c8 ?_ | refine c9 ?_ | refine d0 ?_ | refine d1 ?_ | refine d4 ?_ | refine d3' (h := ?_) | refine d4' ?_ | refine a0 (hk := ?_) | refine b0 (hk := ?_) | refine b1 (hk := ?_) | refine b2 (hk := ?_) | refine b3 (hk := ?_) | refine b4 (hk := ?_) | refine p1 (hk := ?_) | refine g0' (hk := ?_) | refine a1 (hk := ?_) | refine a2 (hk := ?_) | refine u1 (hk := ?_) | refine u2 (hk := ?_) | refine u3 (hk := ?_) | refine u4 (hk := ?_) | refine a3 (ht := ?_) (hf := ?_) | refine a4 (ht := ?_) (hf := ?_) | refine a5 (hk := ?_) | refine b5 (hk := ?_) | refine b6 (hk := ?_) | refine b8 (hk := ?_) | refine b9 (hk := ?_) | refine b7 (hk := ?_) | refine p0 (hk := ?_) | refine g1 (hw := ?_) | refine g2 (hw := ?_) | refine g3 (hw := ?_) | refine g4 (hw := ?_) | refine e0' (hk := ?_) | refine b0' (hk := ?_) | refine b1' (hk := ?_) | refine p1' (hk := ?_) | refine e1' (hk := ?_) | refine e2' (hk := ?_) | refine u1' (hk := ?_) | refine u2' (hk := ?_) | refine u3' (hk := ?_) | refine u4' (hk := ?_) | refine e3' (ht := ?_) (hf := ?_) | refine e4' (ht := ?_) (hf := ?_) | refine b4' (hk := ?_) | refine b7b (hk := ?_) | refine e5' (hk := ?_) | refine f5' (hk := ?_) | refine f6' (hk := ?_) | refine f8' (hk := ?_) | refine f9' (hk := ?_) | refine b7' (hk := ?_) | refine p0' (hk := ?_) | refine h1'' (hw := ?_) | refine h2'' (hw := ?_) | refine h3'' (hw := ?_) | refine h4'' (hw := ?_) | (with_reducible intro hc) | refine d6 (ht := ?_) | refine d7 (hf := ?_) | refine u5 (hk := ?_) | refine u6 (hk := ?_) | refine u7 (hk := ?_) | refine u8 (hk := ?_) | refine d8 (ht := ?_) (hf := ?_) | refine d9 (ht := ?_) (hf := ?_))
    exact rKC hk xkZ (RD_ok _ _) (h3 := get_setO rfl)

theorem d_l71Val (n : Int) : Dr spec_l71Val [I n] 3 (fun v => ∃ x : Vl, v = .agg (vrow x)) := by
  intro bs p k S hb hp hk
  obtain ⟨j1, e1, hj1⟩ := pick_nat bs p (n := 5) (by omega)
  have e1 : pickv bs p 5 = j1 := e1
  by_cases w0 : j1 = 0
  · subst w0
    refine ⟨_, p + 2, by omega, by omega, ⟨⟨1, pickv bs (p + 1) 10, 0⟩, rfl⟩, ?_⟩
    have q0 : (pickv bs p 5 == 0) = true := by simpa using e1
    refine E_start (h := ?_)
    repeat' (first | refine c0 ?_ | refine c1 ?_ | refine c2 ?_ | refine c3 ?_ | refine c4 ?_ | refine c5 ?_ | refine c6 (h := ?_) | refine c7 ?_ | refine d2 ?_ | refine c8 ?_ | refine c9 ?_ | refine d0 ?_ | refine d1 ?_ | refine d4 ?_ | refine a0 (hk := ?_) | refine k0 (he := (by first | exact k_pick' (by first | assumption | exact get_old (by assumption) | exact get_set (by assumption)) hb (by omega))) (hk := ?_) | refine k1 (he := (by first | exact k_pick' (by first | assumption | exact get_old (by assumption) | exact get_set (by assumption)) hb (by omega))) (hk := ?_) | refine b0 (hk := ?_) | refine b1 (hk := ?_) | refine b2 (hk := ?_) | refine b3 (hk := ?_) | refine b4 (hk := ?_) | refine p1 (hk := ?_) | refine g0' (hk := ?_) | refine a1 (hk := ?_) | refine a2 (hk := ?_) | refine u1 (hk := ?_) | refine u2 (hk := ?_) | refine u3 (hk := ?_) | refine u4 (hk := ?_) | refine a3 (ht := ?_) (hf := ?_) | refine a4 (ht := ?_) (hf := ?_) | refine a5 (hk := ?_) | refine b5 (hk := ?_) | refine b6 (hk := ?_) | refine b8 (hk := ?_) | refine b9 (hk := ?_) | refine b7 (hk := ?_) | refine p0 (hk := ?_) | refine g1 (hw := ?_) | refine g2 (hw := ?_) | refine g3 (hw := ?_) | refine g4 (hw := ?_) | (with_reducible intro hc) | refine d6 (ht := ?_) | refine d7 (hf := ?_) | refine u5 (hk := ?_) | refine u6 (hk := ?_) | refine u7 (hk := ?_) | refine u8 (hk := ?_) | refine d8 (ht := ?_) (hf := ?_) | refine d9 (ht := ?_) (hf := ?_))
    exact rKC hk (by first | exact xkS | exact xkZ) (RD_ok _ _) (h3 := by first | exact get_setO rfl | exact get_own rfl)
  by_cases w1 : j1 = 1 ∨ j1 = 2
  · refine ⟨_, p + 2, by omega, by omega, ⟨⟨2, pickv bs (p + 1) n, 0⟩, rfl⟩, ?_⟩
    have q0 : (pickv bs p 5 == 0) = false := by simp; omega
    refine E_start (h := ?_)
    repeat' (first | refine c0 ?_ | refine c1 ?_ | refine c2 ?_ | refine c3 ?_ | refine c4 ?_ | refine c5 ?_ | refine c6 (h := ?_) | refine c7 ?_ | refine d2 ?_ | refine c8 ?_ | refine c9 ?_ | refine d0 ?_ | refine d1 ?_ | refine d4 ?_ | refine a0 (hk := ?_) | refine k0 (he := (by first | exact k_pick' (by first | assumption | exact get_old (by assumption) | exact get_set (by assumption)) hb (by omega))) (hk := ?_) | refine k1 (he := (by first | exact k_pick' (by first | assumption | exact get_old (by assumption) | exact get_set (by assumption)) hb (by omega))) (hk := ?_) | refine b0 (hk := ?_) | refine b1 (hk := ?_) | refine b2 (hk := ?_) | refine b3 (hk := ?_) | refine b4 (hk := ?_) | refine p1 (hk := ?_) | refine g0' (hk := ?_) | refine a1 (hk := ?_) | refine a2 (hk := ?_) | refine u1 (hk := ?_) | refine u2 (hk := ?_) | refine u3 (hk := ?_) | refine u4 (hk := ?_) | refine a3 (ht := ?_) (hf := ?_) | refine a4 (ht := ?_) (hf := ?_) | refine a5 (hk := ?_) | refine b5 (hk := ?_) | refine b6 (hk := ?_) | refine b8 (hk := ?_) | refine b9 (hk := ?_) | refine b7 (hk := ?_) | refine p0 (hk := ?_) | refine g1 (hw := ?_) | refine g2 (hw := ?_) | refine g3 (hw := ?_) | refine g4 (hw := ?_) | (with_reducible intro hc) | refine d6 (ht := ?_) | refine d7 (hf := ?_) | refine u5 (hk := ?_) | refine u6 (hk := ?_) | refine u7 (hk := ?_) | refine u8 (hk := ?_) | refine d8 (ht := ?_) (hf := ?_) | refine d9 (ht := ?_) (hf := ?_))
    · exact rKC hk (by first | exact xkS | exact xkZ) (RD_ok _ _) (h3 := by first | exact get_setO rfl | exact get_own rfl)
    · exact rKC hk (by first | exact xkS | exact xkZ) (RD_ok _ _) (h3 := by first | exact get_setO rfl | exact get_own rfl)
    all_goals (exfalso; simp at *; omega)
  by_cases w3 : j1 = 3
  · refine ⟨_, p + 3, by omega, by omega, ⟨⟨3, pickv bs (p + 1) n, pickv bs (p + 1 + 1) n⟩, rfl⟩, ?_⟩
    have q0 : (pickv bs p 5 == 0) = false := by simp; omega
    have q1 : (pickv bs p 5 == 1) = false := by simp; omega
    have q2 : (pickv bs p 5 == 2) = false := by simp; omega
    have q3 : (pickv bs p 5 == 3) = true := by simp; omega
    refine E_start (h := ?_)
    repeat' (first | refine c0 ?_ | refine c1 ?_ | refine c2 ?_ | refine c3 ?_ | refine c4 ?_ | refine c5 ?_ | refine c6 (h := ?_) | refine c7 ?_ | refine d2 ?_ | refine c8 ?_ | refine c9 ?_ | refine d0 ?_ | refine d1 ?_ | refine d4 ?_ | refine a0 (hk := ?_) | refine k0 (he := (by first | exact k_pick' (by first | assumption | exact get_old (by assumption) | exact get_set (by assumption)) hb (by omega))) (hk := ?_) | refine k1 (he := (by first | exact k_pick' (by first | assumption | exact get_old (by assumption) | exact get_set (by assumption)) hb (by omega))) (hk := ?_) | refine b0 (hk := ?_) | refine b1 (hk := ?_) | refine b2 (hk := ?_) | refine b3 (hk := ?_) | refine b4 (hk := ?_) | refine p1 (hk := ?_) | refine g0' (hk := ?_) | refine a1 (hk := ?_) | refine a2 (hk := ?_) | refine u1 (hk := ?_) | refine u2 (hk := ?_) | refine u3 (hk := ?_) | refine u4 (hk := ?_) | refine a3 (ht := ?_) (hf := ?_) | refine a4 (ht := ?_) (hf := ?_) | refine a5 (hk := ?_) | refine b5 (hk := ?_) | refine b6 (hk := ?_) | refine b8 (hk := ?_) | refine b9 (hk := ?_) | refine b7 (hk := ?_) | refine p0 (hk := ?_) | refine g1 (hw := ?_) | refine g2 (hw := ?_) | refine g3 (hw := ?_) | refine g4 (hw := ?_) | (with_reducible intro hc) | refine d6 (ht := ?_) | refine d7 (hf := ?_) | refine u5 (hk := ?_) | refine u6 (hk := ?_) | refine u7 (hk := ?_) | refine u8 (hk := ?_) | refine d8 (ht := ?_) (hf := ?_) | refine d9 (ht := ?_) (hf := ?_))
    exact rKC hk (by first | exact xkS | exact xkZ) (RD_ok _ _) (h3 := by first | exact get_setO rfl | exact get_own rfl)
  · refine ⟨_, p + 3, by omega, by omega, ⟨⟨4, pickv bs (p + 1) n, pickv bs (p + 1 + 1) n⟩, rfl⟩, ?_⟩
    have q0 : (pickv bs p 5 == 0) = false := by simp; omega
    have q1 : (pickv bs p 5 == 1) = false := by simp; omega
    have q2 : (pickv bs p 5 == 2) = false := by simp; omega
    have q3 : (pickv bs p 5 == 3) = false := by simp; omega
    refine E_start (h := ?_)
    repeat' (first | refine c0 ?_ | refine c1 ?_ | refine c2 ?_ | refine c3 ?_ | refine c4 ?_ | refine c5 ?_ | refine c6 (h := ?_) | refine c7 ?_ | refine d2 ?_ | refine c8 ?_ | refine c9 ?_ | refine d0 ?_ | refine d1 ?_ | refine d4 ?_ | refine a0 (hk := ?_) | refine k0 (he := (by first | exact k_pick' (by first | assumption | exact get_old (by assumption) | exact get_set (by assumption)) hb (by omega))) (hk := ?_) | refine k1 (he := (by first | exact k_pick' (by first | assumption | exact get_old (by assumption) | exact get_set (by assumption)) hb (by omega))) (hk := ?_) | refine b0 (hk := ?_) | refine b1 (hk := ?_) | refine b2 (hk := ?_) | refine b3 (hk := ?_) | refine b4 (hk := ?_) | refine p1 (hk := ?_) | refine g0' (hk := ?_) | refine a1 (hk := ?_) | refine a2 (hk := ?_) | refine u1 (hk := ?_) | refine u2 (hk := ?_) | refine u3 (hk := ?_) | refine u4 (hk := ?_) | refine a3 (ht := ?_) (hf := ?_) | refine a4 (ht := ?_) (hf := ?_) | refine a5 (hk := ?_) | refine b5 (hk := ?_) | refine b6 (hk := ?_) | refine b8 (hk := ?_) | refine b9 (hk := ?_) | refine b7 (hk := ?_) | refine p0 (hk := ?_) | refine g1 (hw := ?_) | refine g2 (hw := ?_) | refine g3 (hw := ?_) | refine g4 (hw := ?_) | (with_reducible intro hc) | refine d6 (ht := ?_) | refine d7 (hf := ?_) | refine u5 (hk := ?_) | refine u6 (hk := ?_) | refine u7 (hk := ?_) | refine u8 (hk := ?_) | refine d8 (ht := ?_) (hf := ?_) | refine d9 (ht := ?_) (hf := ?_))
    exact rKC hk (by first | exact xkS | exact xkZ) (RD_ok _ _) (h3 := by first | exact get_setO rfl | exact get_own rfl)
end Go.Proofs.X
end
section
namespace Go.Proofs.X
open Go Go.Proofs.XVai Go.Proofs Go.Proofs.XN
set_option linter.unusedVariables false
set_option linter.unusedSimpArgs false
set_option maxHeartbeats 4000000
/-- A return of which only something is told. -/
structure RTX (Y : XVai.Sys) (f : Nat) (fn : Func) (S : St) (R : HV → St → Prop) (ex : Ex) (T' : Tm) (S1 : St) : Prop where
  of : ∃ v S', RT Y f fn S v S' ex T' S1 ∧ R v S'
theorem E_startR {Y : XVai.Sys} {S : St} {R : HV → St → Prop} {f : Nat} {fn : Func} {c : Code} {args : List HV} (hf : Y.fn f = some fn := by rfl) (hb : fn.body = some c := by rfl) (hl : args.length ≤ fn.ntmps := by exact Nat.le_of_ble_eq_true rfl)
    (h : CW Y f c (tm0 args) (S ++ []) (RTX Y f fn S R)) : EvR Y f args S R := by
  obtain ⟨m, ex, T', S1, h1, h2⟩ := h.of
  obtain ⟨v, S', h3, h4⟩ := h2.of
  exact ⟨v, S', E_start hf hb hl ⟨⟨m, ex, T', S1, h1, h3⟩⟩, h4⟩
theorem Dr_of {g : Nat} {args : List HV} {c : Nat} {R : HV → Prop} (h : ∀ (bs : List UInt8) (p k : Nat) (S : St), bs.length ≤ 2000 → p + c ≤ 100000000 → S[k]? = some (RD bs p) → EvR Y g (.ptr k 1 0 0 :: args) S (fun v S' => ∃ p', p ≤ p' ∧ p' ≤ p + c ∧ R v ∧ S' = S.set k (RD bs p'))) : Dr g args c R := by
  intro bs p k S h1 h2 h3
  obtain ⟨v, S', h4, p', h5, h6, h7, rfl⟩ := h bs p k S h1 h2 h3
  exact ⟨v, p', h5, h6, h7, h4⟩
theorem Stps.app_sz : ∀ a b : Stps, (a.app b).sz = a.sz + b.sz
  | .nil, _ => by simp [Stps.app, Stps.sz]
  | .cons _ _ _ _ _ _ r, b => by simp [Stps.app, Stps.sz, Stps.app_sz r b]; omega
theorem xk3 {S S1 L : St} {k j : Nat} {o o' o2 o0 : Ob} (h0 : S[k]? = some o0) (hE : ExtK S k o S1) (hj : S.length ≤ j) : ExtK S k o' ((S1.set k o').set j o2 ++ L) := by
  obtain ⟨J, rfl⟩ := hE
  have hk : k < S.length := (List.getElem?_eq_some_iff.1 h0).1
  refine ⟨J.set (j - S.length) o2 ++ L, ?_⟩
  rw [List.set_append_left _ _ (by simpa using hk), List.set_set, List.set_append_right _ _ (by simpa using hj), List.append_assoc]
  simp
set_option maxHeartbeats 2000000 in
theorem d_l71Steps (deep c B : Nat) (vars : Int) (ih : deep > 1 → Dr spec_l71Steps [I 2, .int .i64 (IntKind.i64.wrap ((deep : Int) - 1)), I vars] c (fun v => ∃ l : Stps, v = .lst l.rows ∧ l.sz ≤ B)) (most : Nat) (hm : most ≤ 4) (hd : deep ≤ 3) (hc : c ≤ 1000) (hB : B ≤ 1000) :
    Dr spec_l71Steps [I most, I deep, I vars] (1 + most * (6 + 2 * c)) (fun v => ∃ l : Stps, v = .lst l.rows ∧ l.sz ≤ most * (1 + 2 * B)) := by
  refine Dr_of fun bs p k S hb hp hk => ?_
  have hkl : k < S.length := (List.getElem?_eq_some_iff.1 hk).1
  have e0 : IntKind.i64.wrap ((most : Int) + 1) = ((most + 1 : Nat) : Int) := by rw [i64_id (by omega) (by omega)]; simp
  refine E_startR (h := ?_)
  repeat' (first | refine c0 ?_ | refine c1 ?_ | refine c2 ?_ | refine c3 ?_ | refine c4 ?_ | refine c5 ?_ | refine c6 (h := ?_) | refine c7 ?_ | refine d2 ?_ | refine c8 ?_ | refine c9 ?_ | refine d0 ?_ | refine d1 ?_ | refine d4 ?_ | refine a0 (hk := ?_) | refine k0 (he := (by first | exact k_pick' (by first | assumption | exact get_old (by assumption) | exact get_set (by assumption)) hb (by omega))) (hk := ?_) | refine k1 (he := (by first | exact k_pick' (by first | assumption | exact get_old (by assumption) | exact get_set (by assumption)) hb (by omega))) (hk := ?_) | refine b0 (hk := ?_) | refine b1 (hk := ?_) | refine b2 (hk := ?_) | refine b3 (hk := ?_) | refine b4 (hk := ?_) | refine p1 (hk := ?_) | refine g0' (hk := ?_) | refine a1 (hk := ?_) | refine a2 (hk := ?_) | refine u1 (hk := ?_) | refine u2 (hk := ?_) | refine u3 (hk := ?_) | refine u4 (hk := ?_) | refine a3 (ht := ?_) (hf := ?_) | refine a4 (ht := ?_) (hf := ?_) | refine a5 (hk := ?_) | refine b5 (hk := ?_) | refine b6 (hk := ?_) | refine b8 (hk := ?_) | refine b9 (hk := ?_) | refine b7 (hk := ?_) | refine p0 (hk := ?_) | refine g1 (hw := ?_) | refine g2 (hw := ?_) | refine g3 (hw := ?_) | refine g4 (hw := ?_) | (with_reducible intro hc) | refine d6 (ht := ?_) | refine d7 (hf := ?_) | refine u5 (hk := ?_) | refine u6 (hk := ?_) | refine u7 (hk := ?_) | refine u8 (hk := ?_) | refine d8 (ht := ?_) (hf := ?_) | refine d9 (ht := ?_) (hf := ?_))
  rw [e0]
  obtain ⟨n0, hn0, hn1⟩ := pick_nat bs p (n := most + 1) (by omega)
  rw [hn0]
  refine C_loop (fun n T' S' => ∃ (T0 : Tm) (S1 : St) (l : Stps) (q : Nat), n ≤ most ∧ p ≤ q ∧ q + n * (6 + 2 * c) ≤ p + 1 + most * (6 + 2 * c) ∧ l.sz + n * (1 + 2 * B) ≤ most * (1 + 2 * B) ∧ ExtK S k (RD bs q) S1 ∧ S1[S.length + 1]? = some (.cells true l.rows) ∧
      T' = putL T0 [(0, .ptr k 1 0 0), (2, I deep), (3, I vars), (9, .sl (S.length + 1) l.rows.length), (10, I n)] ∧ S' = S1 ++ []) n0
    ⟨_, _, .nil, p + 1, by omega, by omega, ?_, ?_, xkS, get_setO rfl, at_mk ⟨rfl, rfl, rfl, rfl, rfl, trivial⟩, (List.append_nil _).symm⟩ ?_
  · have := Nat.mul_le_mul_right (6 + 2 * c) (show n0 ≤ most by omega); omega
  · have := Nat.mul_le_mul_right (1 + 2 * B) (show n0 ≤ most by omega); simp [Stps.sz]; omega
  rintro n T' S' ⟨T0, S1, l, q, hnm, hpq, hq, hsz, hE, h0, rfl, rfl⟩
  have hcur := xk_get hk hE
  cases n with
  | zero =>
    have h00 : ¬ ((0 : Nat) : Int) > 0 := by omega
    repeat' (first | refine c0 ?_ | refine c1 ?_ | refine c2 ?_ | refine c3 ?_ | refine c4 ?_ | refine c5 ?_ | refine c6 (h := ?_) | refine c7 ?_ | refine d2 ?_ | refine c8 ?_ | refine c9 ?_ | refine d0 ?_ | refine d1 ?_ | refine d4 ?_ | refine a0 (hk := ?_) | refine b0 (hk := ?_) | refine b1 (hk := ?_) | refine b2 (hk := ?_) | refine b3 (hk := ?_) | refine b4 (hk := ?_) | refine p1 (hk := ?_) | refine g0' (hk := ?_) | refine a1 (hk := ?_) | refine a2 (hk := ?_) | refine u1 (hk := ?_) | refine u2 (hk := ?_) | refine u3 (hk := ?_) | refine u4 (hk := ?_) | refine a3 (ht := ?_) (hf := ?_) | refine a4 (ht := ?_) (hf := ?_) | refine a5 (hk := ?_) | refine b5 (hk := ?_) | refine b6 (hk := ?_) | refine b8 (hk := ?_) | refine b9 (hk := ?_) | refine b7 (hk := ?_) | refine p0 (hk := ?_) | refine g1 (hw := ?_) | refine g2 (hw := ?_) | refine g3 (hw := ?_) | refine g4 (hw := ?_) | (with_reducible intro hc) | refine d6 (ht := ?_) | refine d7 (hf := ?_) | refine u5 (hk := ?_) | refine u6 (hk := ?_) | refine u7 (hk := ?_) | refine u8 (hk := ?_) | refine d8 (ht := ?_) (hf := ?_) | refine d9 (ht := ?_) (hf := ?_))
    exact ⟨_, _, rKL hk hE (RD_ok _ _) (hL := get_old h0) (hp := l.rows_pure) (hv := rfl), q, hpq, by omega, ⟨l, rfl, by omega⟩, rfl⟩
  | succ n =>
    rw [Nat.succ_mul] at hq hsz
    have h00 : ((n + 1 : Nat) : Int) > 0 := by omega
    have hnk : S.length + 1 ≠ k := by omega
    have h8 := l.rows_eight
    have hll := l.rows_len
    have hls := l.len_sz
    have hbig : most * (1 + 2 * B) ≤ 4 * 2001 := Nat.mul_le_mul hm (by omega)
    have hbig2 : most * (6 + 2 * c) ≤ 4 * 2006 := Nat.mul_le_mul hm (by omega)
    have dec : HV.int .i64 (IntKind.i64.wrap (((n + 1 : Nat) : Int) - 1)) = I n := by rw [i64_id (by omega) (by omega)]; simp
    obtain ⟨j, hj, hj5⟩ := pick_nat bs (q + 1) (n := 5) (by omega)
    have hj : pickv bs (q + 1) 5 = j := hj
    have h8' : ∀ row : List HV, row.length = 8 → (l.rows ++ [row]).all (fun r => r.length == 8) = true := fun row h => all8 h8 (by simp [h])
    by_cases w0 : j = 0
    · have q0 : (pickv bs (q + 1) 5 == 0) = true := by simp; omega
      repeat' (first | refine c0 ?_ | refine c1 ?_ | refine c2 ?_ | refine c3 ?_ | refine c4 ?_ | refine c5 ?_ | refine c6 (h := ?_) | refine c7 ?_ | refine d2 ?_ | refine c8 ?_ | refine c9 ?_ | refine d0 ?_ | refine d1 ?_ | refine d4 ?_ | refine a0 (hk := ?_) | refine k0 (he := (by first | exact k_pick' (by first | assumption | exact get_old (by assumption) | exact get_set (by assumption)) hb (by omega))) (hk := ?_) | refine k1 (he := (by first | exact k_pick' (by first | assumption | exact get_old (by assumption) | exact get_set (by assumption)) hb (by omega))) (hk := ?_) | refine b0 (hk := ?_) | refine b1 (hk := ?_) | refine b2 (hk := ?_) | refine b3 (hk := ?_) | refine b4 (hk := ?_) | refine p1 (hk := ?_) | refine g0' (hk := ?_) | refine a1 (hk := ?_) | refine a2 (hk := ?_) | refine u1 (hk := ?_) | refine u2 (hk := ?_) | refine u3 (hk := ?_) | refine u4 (hk := ?_) | refine a3 (ht := ?_) (hf := ?_) | refine a4 (ht := ?_) (hf := ?_) | refine a5 (hk := ?_) | refine b5 (hk := ?_) | refine b6 (hk := ?_) | refine b8 (hk := ?_) | refine b9 (hk := ?_) | refine b7 (hk := ?_) | refine p0 (hk := ?_) | refine g1 (hw := ?_) | refine g2 (hw := ?_) | refine g3 (hw := ?_) | refine g4 (hw := ?_) | (with_reducible intro hc) | refine d6 (ht := ?_) | refine d7 (hf := ?_) | refine u5 (hk := ?_) | refine u6 (hk := ?_) | refine u7 (hk := ?_) | refine u8 (hk := ?_) | refine d8 (ht := ?_) (hf := ?_) | refine d9 (ht := ?_) (hf := ?_))
      refine ⟨n, by omega, _, _, l.app (.cons 3 (pickv bs q vars) ⟨0, 0, 0⟩ (pickv bs (q + 1 + 1) 3) .nil .nil .nil), q + 3, by omega, by omega, by omega, ?_, ?_, ?_, at_mk ⟨rfl, rfl, rfl, ?_, dec, trivial⟩, (List.append_nil _).symm⟩
      · simp [Stps.app_sz, Stps.sz]; omega
      · exact xk3 hk hE (Nat.le_add_right _ _)
      · rw [get_set2 h0, Stps.app_rows]; rfl
      · show HV.sl _ _ = _; simp [Stps.app_rows, Stps.rows]
    have q0 : (pickv bs (q + 1) 5 == 0) = false := by simp; omega
    by_cases w1 : (j = 1 ∨ j = 2) ∧ deep > 1
    · obtain ⟨w1, wd⟩ := w1
      have hd1 : (deep : Int) > 1 := by omega
      rcases w1 with rfl | rfl
      · have q1 : (pickv bs (q + 1) 5 == 1) = true := by simp; omega
        repeat' (first | refine c0 ?_ | refine c1 ?_ | refine c2 ?_ | refine c3 ?_ | refine c4 ?_ | refine c5 ?_ | refine c6 (h := ?_) | refine c7 ?_ | refine d2 ?_ | refine c8 ?_ | refine c9 ?_ | refine d0 ?_ | refine d1 ?_ | refine d4 ?_ | refine a0 (hk := ?_) | refine k0 (he := (by first | exact k_pick' (by first | assumption | exact get_old (by assumption) | exact get_set (by assumption)) hb (by omega))) (hk := ?_) | refine k1 (he := (by first | exact k_pick' (by first | assumption | exact get_old (by assumption) | exact get_set (by assumption)) hb (by omega))) (hk := ?_) | refine b0 (hk := ?_) | refine b1 (hk := ?_) | refine b2 (hk := ?_) | refine b3 (hk := ?_) | refine b4 (hk := ?_) | refine p1 (hk := ?_) | refine g0' (hk := ?_) | refine a1 (hk := ?_) | refine a2 (hk := ?_) | refine u1 (hk := ?_) | refine u2 (hk := ?_) | refine u3 (hk := ?_) | refine u4 (hk := ?_) | refine a3 (ht := ?_) (hf := ?_) | refine a4 (ht := ?_) (hf := ?_) | refine a5 (hk := ?_) | refine b5 (hk := ?_) | refine b6 (hk := ?_) | refine b8 (hk := ?_) | refine b9 (hk := ?_) | refine b7 (hk := ?_) | refine p0 (hk := ?_) | refine g1 (hw := ?_) | refine g2 (hw := ?_) | refine g3 (hw := ?_) | refine g4 (hw := ?_) | (with_reducible intro hc) | refine d6 (ht := ?_) | refine d7 (hf := ?_) | refine u5 (hk := ?_) | refine u6 (hk := ?_) | refine u7 (hk := ?_) | refine u8 (hk := ?_) | refine d8 (ht := ?_) (hf := ?_) | refine d9 (ht := ?_) (hf := ?_))
        refine kD (hd := ih wd) (h0 := ⟨_, hcur⟩) (hl := hb) (hp := by omega) (hk := ?_)
        rintro v p1 hp1 hp1' ⟨l1, rfl, hl1⟩
        repeat' (first | refine c0 ?_ | refine c1 ?_ | refine c2 ?_ | refine c3 ?_ | refine c4 ?_ | refine c5 ?_ | refine c6 (h := ?_) | refine c7 ?_ | refine d2 ?_ | refine c8 ?_ | refine c9 ?_ | refine d0 ?_ | refine d1 ?_ | refine d4 ?_ | refine a0 (hk := ?_) | refine b0 (hk := ?_) | refine b1 (hk := ?_) | refine b2 (hk := ?_) | refine b3 (hk := ?_) | refine b4 (hk := ?_) | refine p1 (hk := ?_) | refine g0' (hk := ?_) | refine a1 (hk := ?_) | refine a2 (hk := ?_) | refine u1 (hk := ?_) | refine u2 (hk := ?_) | refine u3 (hk := ?_) | refine u4 (hk := ?_) | refine a3 (ht := ?_) (hf := ?_) | refine a4 (ht := ?_) (hf := ?_) | refine a5 (hk := ?_) | refine b5 (hk := ?_) | refine b6 (hk := ?_) | refine b8 (hk := ?_) | refine b9 (hk := ?_) | refine b7 (hk := ?_) | refine p0 (hk := ?_) | refine g1 (hw := ?_) | refine g2 (hw := ?_) | refine g3 (hw := ?_) | refine g4 (hw := ?_) | (with_reducible intro hc) | refine d6 (ht := ?_) | refine d7 (hf := ?_) | refine u5 (hk := ?_) | refine u6 (hk := ?_) | refine u7 (hk := ?_) | refine u8 (hk := ?_) | refine d8 (ht := ?_) (hf := ?_) | refine d9 (ht := ?_) (hf := ?_))
        refine kD (hd := ih wd) (h0 := ⟨_, hcur⟩) (hl := hb) (hp := by omega) (hk := ?_)
        rintro v p2 hp2 hp2' ⟨l2, rfl, hl2⟩
        repeat' (first | refine c0 ?_ | refine c1 ?_ | refine c2 ?_ | refine c3 ?_ | refine c4 ?_ | refine c5 ?_ | refine c6 (h := ?_) | refine c7 ?_ | refine d2 ?_ | refine c8 ?_ | refine c9 ?_ | refine d0 ?_ | refine d1 ?_ | refine d4 ?_ | refine a0 (hk := ?_) | refine b0 (hk := ?_) | refine b1 (hk := ?_) | refine b2 (hk := ?_) | refine b3 (hk := ?_) | refine b4 (hk := ?_) | refine p1 (hk := ?_) | refine g0' (hk := ?_) | refine a1 (hk := ?_) | refine a2 (hk := ?_) | refine u1 (hk := ?_) | refine u2 (hk := ?_) | refine u3 (hk := ?_) | refine u4 (hk := ?_) | refine a3 (ht := ?_) (hf := ?_) | refine a4 (ht := ?_) (hf := ?_) | refine a5 (hk := ?_) | refine b5 (hk := ?_) | refine b6 (hk := ?_) | refine b8 (hk := ?_) | refine b9 (hk := ?_) | refine b7 (hk := ?_) | refine p0 (hk := ?_) | refine g1 (hw := ?_) | refine g2 (hw := ?_) | refine g3 (hw := ?_) | refine g4 (hw := ?_) | (with_reducible intro hc) | refine d6 (ht := ?_) | refine d7 (hf := ?_) | refine u5 (hk := ?_) | refine u6 (hk := ?_) | refine u7 (hk := ?_) | refine u8 (hk := ?_) | refine d8 (ht := ?_) (hf := ?_) | refine d9 (ht := ?_) (hf := ?_))
        refine ⟨n, by omega, _, _, l.app (.cons 2 (pickv bs q vars) ⟨0, 0, 0⟩ 0 l1 l2 .nil), p2, by omega, by omega, by omega, ?_, ?_, ?_, at_mk ⟨rfl, rfl, rfl, ?_, dec, trivial⟩, (List.append_nil _).symm⟩
        · simp [Stps.app_sz, Stps.sz]; omega
        · exact xk3 hk hE (Nat.le_add_right _ _)
        · rw [get_set2 h0, Stps.app_rows]; rfl
        · show HV.sl _ _ = _; simp [Stps.app_rows, Stps.rows]
      · have q1 : (pickv bs (q + 1) 5 == 1) = false := by simp; omega
        have q2 : (pickv bs (q + 1) 5 == 2) = true := by simp; omega
        repeat' (first | refine c0 ?_ | refine c1 ?_ | refine c2 ?_ | refine c3 ?_ | refine c4 ?_ | refine c5 ?_ | refine c6 (h := ?_) | refine c7 ?_ | refine d2 ?_ | refine c8 ?_ | refine c9 ?_ | refine d0 ?_ | refine d1 ?_ | refine d4 ?_ | refine a0 (hk := ?_) | refine k0 (he := (by first | exact k_pick' (by first | assumption | exact get_old (by assumption) | exact get_set (by assumption)) hb (by omega))) (hk := ?_) | refine k1 (he := (by first | exact k_pick' (by first | assumption | exact get_old (by assumption) | exact get_set (by assumption)) hb (by omega))) (hk := ?_) | refine b0 (hk := ?_) | refine b1 (hk := ?_) | refine b2 (hk := ?_) | refine b3 (hk := ?_) | refine b4 (hk := ?_) | refine p1 (hk := ?_) | refine g0' (hk := ?_) | refine a1 (hk := ?_) | refine a2 (hk := ?_) | refine u1 (hk := ?_) | refine u2 (hk := ?_) | refine u3 (hk := ?_) | refine u4 (hk := ?_) | refine a3 (ht := ?_) (hf := ?_) | refine a4 (ht := ?_) (hf := ?_) | refine a5 (hk := ?_) | refine b5 (hk := ?_) | refine b6 (hk := ?_) | refine b8 (hk := ?_) | refine b9 (hk := ?_) | refine b7 (hk := ?_) | refine p0 (hk := ?_) | refine g1 (hw := ?_) | refine g2 (hw := ?_) | refine g3 (hw := ?_) | refine g4 (hw := ?_) | (with_reducible intro hc) | refine d6 (ht := ?_) | refine d7 (hf := ?_) | refine u5 (hk := ?_) | refine u6 (hk := ?_) | refine u7 (hk := ?_) | refine u8 (hk := ?_) | refine d8 (ht := ?_) (hf := ?_) | refine d9 (ht := ?_) (hf := ?_))
        refine kD (hd := ih wd) (h0 := ⟨_, hcur⟩) (hl := hb) (hp := by omega) (hk := ?_)
        rintro v p1 hp1 hp1' ⟨l1, rfl, hl1⟩
        repeat' (first | refine c0 ?_ | refine c1 ?_ | refine c2 ?_ | refine c3 ?_ | refine c4 ?_ | refine c5 ?_ | refine c6 (h := ?_) | refine c7 ?_ | refine d2 ?_ | refine c8 ?_ | refine c9 ?_ | refine d0 ?_ | refine d1 ?_ | refine d4 ?_ | refine a0 (hk := ?_) | refine b0 (hk := ?_) | refine b1 (hk := ?_) | refine b2 (hk := ?_) | refine b3 (hk := ?_) | refine b4 (hk := ?_) | refine p1 (hk := ?_) | refine g0' (hk := ?_) | refine a1 (hk := ?_) | refine a2 (hk := ?_) | refine u1 (hk := ?_) | refine u2 (hk := ?_) | refine u3 (hk := ?_) | refine u4 (hk := ?_) | refine a3 (ht := ?_) (hf := ?_) | refine a4 (ht := ?_) (hf := ?_) | refine a5 (hk := ?_) | refine b5 (hk := ?_) | refine b6 (hk := ?_) | refine b8 (hk := ?_) | refine b9 (hk := ?_) | refine b7 (hk := ?_) | refine p0 (hk := ?_) | refine g1 (hw := ?_) | refine g2 (hw := ?_) | refine g3 (hw := ?_) | refine g4 (hw := ?_) | (with_reducible intro hc) | refine d6 (ht := ?_) | refine d7 (hf := ?_) | refine u5 (hk := ?_) | refine u6 (hk := ?_) | refine u7 (hk := ?_) | refine u8 (hk := ?_) | refine d8 (ht := ?_) (hf := ?_) | refine d9 (ht := ?_) (hf := ?_))
        refine kD (hd := ih wd) (h0 := ⟨_, hcur⟩) (hl := hb) (hp := by omega) (hk := ?_)
        rintro v p2 hp2 hp2' ⟨l2, rfl, hl2⟩
        repeat' (first | refine c0 ?_ | refine c1 ?_ | refine c2 ?_ | refine c3 ?_ | refine c4 ?_ | refine c5 ?_ | refine c6 (h := ?_) | refine c7 ?_ | refine d2 ?_ | refine c8 ?_ | refine c9 ?_ | refine d0 ?_ | refine d1 ?_ | refine d4 ?_ | refine a0 (hk := ?_) | refine b0 (hk := ?_) | refine b1 (hk := ?_) | refine b2 (hk := ?_) | refine b3 (hk := ?_) | refine b4 (hk := ?_) | refine p1 (hk := ?_) | refine g0' (hk := ?_) | refine a1 (hk := ?_) | refine a2 (hk := ?_) | refine u1 (hk := ?_) | refine u2 (hk := ?_) | refine u3 (hk := ?_) | refine u4 (hk := ?_) | refine a3 (ht := ?_) (hf := ?_) | refine a4 (ht := ?_) (hf := ?_) | refine a5 (hk := ?_) | refine b5 (hk := ?_) | refine b6 (hk := ?_) | refine b8 (hk := ?_) | refine b9 (hk := ?_) | refine b7 (hk := ?_) | refine p0 (hk := ?_) | refine g1 (hw := ?_) | refine g2 (hw := ?_) | refine g3 (hw := ?_) | refine g4 (hw := ?_) | (with_reducible intro hc) | refine d6 (ht := ?_) | refine d7 (hf := ?_) | refine u5 (hk := ?_) | refine u6 (hk := ?_) | refine u7 (hk := ?_) | refine u8 (hk := ?_) | refine d8 (ht := ?_) (hf := ?_) | refine d9 (ht := ?_) (hf := ?_))
        refine ⟨n, by omega, _, _, l.app (.cons 2 (pickv bs q vars) ⟨0, 0, 0⟩ 0 l1 l2 .nil), p2, by omega, by omega, by omega, ?_, ?_, ?_, at_mk ⟨rfl, rfl, rfl, ?_, dec, trivial⟩, (List.append_nil _).symm⟩
        · simp [Stps.app_sz, Stps.sz]; omega
        · exact xk3 hk hE (Nat.le_add_right _ _)
        · rw [get_set2 h0, Stps.app_rows]; rfl
        · show HV.sl _ _ = _; simp [Stps.app_rows, Stps.rows]
    have w2 : (j = 1 ∨ j = 2) → ¬ (deep : Int) > 1 := fun h hd => w1 ⟨h, by omega⟩
    by_cases w3 : j = 1
    · have q1 : (pickv bs (q + 1) 5 == 1) = true := by simp; omega
      have hd1 := w2 (.inl w3)
      repeat' (first | refine c0 ?_ | refine c1 ?_ | refine c2 ?_ | refine c3 ?_ | refine c4 ?_ | refine c5 ?_ | refine c6 (h := ?_) | refine c7 ?_ | refine d2 ?_ | refine c8 ?_ | refine c9 ?_ | refine d0 ?_ | refine d1 ?_ | refine d4 ?_ | refine a0 (hk := ?_) | refine k0 (he := (by first | exact k_pick' (by first | assumption | exact get_old (by assumption) | exact get_set (by assumption)) hb (by omega))) (hk := ?_) | refine k1 (he := (by first | exact k_pick' (by first | assumption | exact get_old (by assumption) | exact get_set (by assumption)) hb (by omega))) (hk := ?_) | refine b0 (hk := ?_) | refine b1 (hk := ?_) | refine b2 (hk := ?_) | refine b3 (hk := ?_) | refine b4 (hk := ?_) | refine p1 (hk := ?_) | refine g0' (hk := ?_) | refine a1 (hk := ?_) | refine a2 (hk := ?_) | refine u1 (hk := ?_) | refine u2 (hk := ?_) | refine u3 (hk := ?_) | refine u4 (hk := ?_) | refine a3 (ht := ?_) (hf := ?_) | refine a4 (ht := ?_) (hf := ?_) | refine a5 (hk := ?_) | refine b5 (hk := ?_) | refine b6 (hk := ?_) | refine b8 (hk := ?_) | refine b9 (hk := ?_) | refine b7 (hk := ?_) | refine p0 (hk := ?_) | refine g1 (hw := ?_) | refine g2 (hw := ?_) | refine g3 (hw := ?_) | refine g4 (hw := ?_) | (with_reducible intro hc) | refine d6 (ht := ?_) | refine d7 (hf := ?_) | refine u5 (hk := ?_) | refine u6 (hk := ?_) | refine u7 (hk := ?_) | refine u8 (hk := ?_) | refine d8 (ht := ?_) (hf := ?_) | refine d9 (ht := ?_) (hf := ?_))
      refine kD (hd := d_l71Val vars) (h0 := ⟨_, hcur⟩) (hl := hb) (hp := by omega) (hk := ?_)
      rintro v p1 hp1 hp1' ⟨x, rfl⟩
      repeat' (first | refine c0 ?_ | refine c1 ?_ | refine c2 ?_ | refine c3 ?_ | refine c4 ?_ | refine c5 ?_ | refine c6 (h := ?_) | refine c7 ?_ | refine d2 ?_ | refine c8 ?_ | refine c9 ?_ | refine d0 ?_ | refine d1 ?_ | refine d4 ?_ | refine a0 (hk := ?_) | refine b0 (hk := ?_) | refine b1 (hk := ?_) | refine b2 (hk := ?_) | refine b3 (hk := ?_) | refine b4 (hk := ?_) | refine p1 (hk := ?_) | refine g0' (hk := ?_) | refine a1 (hk := ?_) | refine a2 (hk := ?_) | refine u1 (hk := ?_) | refine u2 (hk := ?_) | refine u3 (hk := ?_) | refine u4 (hk := ?_) | refine a3 (ht := ?_) (hf := ?_) | refine a4 (ht := ?_) (hf := ?_) | refine a5 (hk := ?_) | refine b5 (hk := ?_) | refine b6 (hk := ?_) | refine b8 (hk := ?_) | refine b9 (hk := ?_) | refine b7 (hk := ?_) | refine p0 (hk := ?_) | refine g1 (hw := ?_) | refine g2 (hw := ?_) | refine g3 (hw := ?_) | refine g4 (hw := ?_) | (with_reducible intro hc) | refine d6 (ht := ?_) | refine d7 (hf := ?_) | refine u5 (hk := ?_) | refine u6 (hk := ?_) | refine u7 (hk := ?_) | refine u8 (hk := ?_) | refine d8 (ht := ?_) (hf := ?_) | refine d9 (ht := ?_) (hf := ?_))
      refine ⟨n, by omega, _, _, l.app (.cons 1 (pickv bs q vars) x 0 .nil .nil .nil), p1, by omega, by omega, by omega, ?_, ?_, ?_, at_mk ⟨rfl, rfl, rfl, ?_, dec, trivial⟩, (List.append_nil _).symm⟩
      · simp [Stps.app_sz, Stps.sz]; omega
      · exact xk3 hk hE (Nat.le_add_right _ _)
      · rw [get_set2 h0, Stps.app_rows]; rfl
      · show HV.sl _ _ = _; simp [Stps.app_rows, Stps.rows]
    have q1 : (pickv bs (q + 1) 5 == 1) = false := by simp; omega
    by_cases w4 : j = 2
    · have q2 : (pickv bs (q + 1) 5 == 2) = true := by simp; omega
      have hd1 := w2 (.inr w4)
      repeat' (first | refine c0 ?_ | refine c1 ?_ | refine c2 ?_ | refine c3 ?_ | refine c4 ?_ | refine c5 ?_ | refine c6 (h := ?_) | refine c7 ?_ | refine d2 ?_ | refine c8 ?_ | refine c9 ?_ | refine d0 ?_ | refine d1 ?_ | refine d4 ?_ | refine a0 (hk := ?_) | refine k0 (he := (by first | exact k_pick' (by first | assumption | exact get_old (by assumption) | exact get_set (by assumption)) hb (by omega))) (hk := ?_) | refine k1 (he := (by first | exact k_pick' (by first | assumption | exact get_old (by assumption) | exact get_set (by assumption)) hb (by omega))) (hk := ?_) | refine b0 (hk := ?_) | refine b1 (hk := ?_) | refine b2 (hk := ?_) | refine b3 (hk := ?_) | refine b4 (hk := ?_) | refine p1 (hk := ?_) | refine g0' (hk := ?_) | refine a1 (hk := ?_) | refine a2 (hk := ?_) | refine u1 (hk := ?_) | refine u2 (hk := ?_) | refine u3 (hk := ?_) | refine u4 (hk := ?_) | refine a3 (ht := ?_) (hf := ?_) | refine a4 (ht := ?_) (hf := ?_) | refine a5 (hk := ?_) | refine b5 (hk := ?_) | refine b6 (hk := ?_) | refine b8 (hk := ?_) | refine b9 (hk := ?_) | refine b7 (hk := ?_) | refine p0 (hk := ?_) | refine g1 (hw := ?_) | refine g2 (hw := ?_) | refine g3 (hw := ?_) | refine g4 (hw := ?_) | (with_reducible intro hc) | refine d6 (ht := ?_) | refine d7 (hf := ?_) | refine u5 (hk := ?_) | refine u6 (hk := ?_) | refine u7 (hk := ?_) | refine u8 (hk := ?_) | refine d8 (ht := ?_) (hf := ?_) | refine d9 (ht := ?_) (hf := ?_))
      refine kD (hd := d_l71Val vars) (h0 := ⟨_, hcur⟩) (hl := hb) (hp := by omega) (hk := ?_)
      rintro v p1 hp1 hp1' ⟨x, rfl⟩
      repeat' (first | refine c0 ?_ | refine c1 ?_ | refine c2 ?_ | refine c3 ?_ | refine c4 ?_ | refine c5 ?_ | refine c6 (h := ?_) | refine c7 ?_ | refine d2 ?_ | refine c8 ?_ | refine c9 ?_ | refine d0 ?_ | refine d1 ?_ | refine d4 ?_ | refine a0 (hk := ?_) | refine b0 (hk := ?_) | refine b1 (hk := ?_) | refine b2 (hk := ?_) | refine b3 (hk := ?_) | refine b4 (hk := ?_) | refine p1 (hk := ?_) | refine g0' (hk := ?_) | refine a1 (hk := ?_) | refine a2 (hk := ?_) | refine u1 (hk := ?_) | refine u2 (hk := ?_) | refine u3 (hk := ?_) | refine u4 (hk := ?_) | refine a3 (ht := ?_) (hf := ?_) | refine a4 (ht := ?_) (hf := ?_) | refine a5 (hk := ?_) | refine b5 (hk := ?_) | refine b6 (hk := ?_) | refine b8 (hk := ?_) | refine b9 (hk := ?_) | refine b7 (hk := ?_) | refine p0 (hk := ?_) | refine g1 (hw := ?_) | refine g2 (hw := ?_) | refine g3 (hw := ?_) | refine g4 (hw := ?_) | (with_reducible intro hc) | refine d6 (ht := ?_) | refine d7 (hf := ?_) | refine u5 (hk := ?_) | refine u6 (hk := ?_) | refine u7 (hk := ?_) | refine u8 (hk := ?_) | refine d8 (ht := ?_) (hf := ?_) | refine d9 (ht := ?_) (hf := ?_))
      refine ⟨n, by omega, _, _, l.app (.cons 1 (pickv bs q vars) x 0 .nil .nil .nil), p1, by omega, by omega, by omega, ?_, ?_, ?_, at_mk ⟨rfl, rfl, rfl, ?_, dec, trivial⟩, (List.append_nil _).symm⟩
      · simp [Stps.app_sz, Stps.sz]; omega
      · exact xk3 hk hE (Nat.le_add_right _ _)
      · rw [get_set2 h0, Stps.app_rows]; rfl
      · show HV.sl _ _ = _; simp [Stps.app_rows, Stps.rows]
    have q2 : (pickv bs (q + 1) 5 == 2) = false := by simp; omega
    repeat' (first | refine c0 ?_ | refine c1 ?_ | refine c2 ?_ | refine c3 ?_ | refine c4 ?_ | refine c5 ?_ | refine c6 (h := ?_) | refine c7 ?_ | refine d2 ?_ | refine c8 ?_ | refine c9 ?_ | refine d0 ?_ | refine d1 ?_ | refine d4 ?_ | refine a0 (hk := ?_) | refine k0 (he := (by first | exact k_pick' (by first | assumption | exact get_old (by assumption) | exact get_set (by assumption)) hb (by omega))) (hk := ?_) | refine k1 (he := (by first | exact k_pick' (by first | assumption | exact get_old (by assumption) | exact get_set (by assumption)) hb (by omega))) (hk := ?_) | refine b0 (hk := ?_) | refine b1 (hk := ?_) | refine b2 (hk := ?_) | refine b3 (hk := ?_) | refine b4 (hk := ?_) | refine p1 (hk := ?_) | refine g0' (hk := ?_) | refine a1 (hk := ?_) | refine a2 (hk := ?_) | refine u1 (hk := ?_) | refine u2 (hk := ?_) | refine u3 (hk := ?_) | refine u4 (hk := ?_) | refine a3 (ht := ?_) (hf := ?_) | refine a4 (ht := ?_) (hf := ?_) | refine a5 (hk := ?_) | refine b5 (hk := ?_) | refine b6 (hk := ?_) | refine b8 (hk := ?_) | refine b9 (hk := ?_) | refine b7 (hk := ?_) | refine p0 (hk := ?_) | refine g1 (hw := ?_) | refine g2 (hw := ?_) | refine g3 (hw := ?_) | refine g4 (hw := ?_) | (with_reducible intro hc) | refine d6 (ht := ?_) | refine d7 (hf := ?_) | refine u5 (hk := ?_) | refine u6 (hk := ?_) | refine u7 (hk := ?_) | refine u8 (hk := ?_) | refine d8 (ht := ?_) (hf := ?_) | refine d9 (ht := ?_) (hf := ?_))
    refine kD (hd := d_l71Val vars) (h0 := ⟨_, hcur⟩) (hl := hb) (hp := by omega) (hk := ?_)
    rintro v p1 hp1 hp1' ⟨x, rfl⟩
    repeat' (first | refine c0 ?_ | refine c1 ?_ | refine c2 ?_ | refine c3 ?_ | refine c4 ?_ | refine c5 ?_ | refine c6 (h := ?_) | refine c7 ?_ | refine d2 ?_ | refine c8 ?_ | refine c9 ?_ | refine d0 ?_ | refine d1 ?_ | refine d4 ?_ | refine a0 (hk := ?_) | refine b0 (hk := ?_) | refine b1 (hk := ?_) | refine b2 (hk := ?_) | refine b3 (hk := ?_) | refine b4 (hk := ?_) | refine p1 (hk := ?_) | refine g0' (hk := ?_) | refine a1 (hk := ?_) | refine a2 (hk := ?_) | refine u1 (hk := ?_) | refine u2 (hk := ?_) | refine u3 (hk := ?_) | refine u4 (hk := ?_) | refine a3 (ht := ?_) (hf := ?_) | refine a4 (ht := ?_) (hf := ?_) | refine a5 (hk := ?_) | refine b5 (hk := ?_) | refine b6 (hk := ?_) | refine b8 (hk := ?_) | refine b9 (hk := ?_) | refine b7 (hk := ?_) | refine p0 (hk := ?_) | refine g1 (hw := ?_) | refine g2 (hw := ?_) | refine g3 (hw := ?_) | refine g4 (hw := ?_) | (with_reducible intro hc) | refine d6 (ht := ?_) | refine d7 (hf := ?_) | refine u5 (hk := ?_) | refine u6 (hk := ?_) | refine u7 (hk := ?_) | refine u8 (hk := ?_) | refine d8 (ht := ?_) (hf := ?_) | refine d9 (ht := ?_) (hf := ?_))
    refine ⟨n, by omega, _, _, l.app (.cons 1 (pickv bs q vars) x 0 .nil .nil .nil), p1, by omega, by omega, by omega, ?_, ?_, ?_, at_mk ⟨rfl, rfl, rfl, ?_, dec, trivial⟩, (List.append_nil _).symm⟩
    · simp [Stps.app_sz, Stps.sz]; omega
    · exact xk3 hk hE (Nat.le_add_right _ _)
    · rw [get_set2 h0, Stps.app_rows]; rfl
    · show HV.sl _ _ = _; simp [Stps.app_rows, Stps.rows]
end Go.Proofs.X
end
section
namespace Go.Proofs.X
open Go Go.Proofs.XVai Go.Proofs Go.Proofs.XN
set_option linter.unusedVariables false
set_option linter.unusedSimpArgs false
set_option maxHeartbeats 4000000
set_option maxRecDepth 10000
section
variable {fid : Nat} {T : Tm} {S : St} {K : Tm → St → Prop} {ops : Array Oper} {l : List Oper} {dst : Option Tmp} {ty : TypeId} {pos : String} {after : Array Edge} {g0 : Option (Nat × Bool)} {bs ix : Nat} {es : List (Nat × (Nat → Prop))} {ns : List (Nat × Nat)}
theorem kE {f : Operand} {args : Array Operand} {ats : Array TypeId} {g c k p : Nat} {S0 L : St} {args' : List HV} {R : HV → Prop} {by' : List UInt8} (hg : wantG ops g0 T = true := by rfl) (hf : ev T f = .fn g [] := by rfl) (hb : Y.byref g = false := by rfl)
    (ha : mapMS (frzV 0) (args.toList.map (ev T)) (S0 ++ L) = some (.ptr k 1 0 0 :: args', S0 ++ L) := by rfl) (hd : Dr g args' c R) (h0 : S0[k]? = some (RD by' p)) (hl : by'.length ≤ 2000) (hp : p + c ≤ 100000000)
    (hk : ∀ v p', p ≤ p' → p' ≤ p + c → R v → OW Y fid ops none l (put T dst v) (S0.set k (RD by' p') ++ L) K) : OW Y fid ops none (⟨dst, .call ⟨.value f, args, ats⟩, ty, pos, after, g0⟩ :: l) T (S0 ++ L) K := by
  obtain ⟨v, p', h1, h2, h3, h4⟩ := hd by' p k _ hl hp (get_old h0)
  rw [set_old h0] at h4
  exact k0 hg hf hb ha (by rw [List.append_nil]; exact h4) rfl (by rw [fv_eq]; exact hk v p' h1 h2 h3)
theorem kE' {f : Operand} {args : Array Operand} {ats : Array TypeId} {g c k p : Nat} {S0 L : St} {args' : List HV} {R : HV → Prop} {by' : List UInt8} (hg : wantG ops g0 T = true := by rfl) (hf : ev T f = .fn g [] := by rfl) (hb : Y.byref g = false := by rfl)
    (ha : mapMS (frzV 0) (args.toList.map (ev T)) (S0 ++ L) = some (.ptr k 1 0 0 :: args', S0 ++ L) := by rfl) (hd : Dr g args' c R) (h0 : S0[k]? = some (RD by' p)) (hl : by'.length ≤ 2000) (hp : p + c ≤ 100000000) (hn : Nc ops ns ix (fun j => j = k) := by first | exact nc0 | ((repeat' (first | exact nc0 | refine nc1 (by first | assumption | omega) ?_ | refine nc2 (by decide +kernel) ?_)) <;> fail))
    (hk : ∀ v p', p ≤ p' → p' ≤ p + c → R v → DW Y fid ops bs (ix + 1) ((ix, fun j => j = k) :: es) ns l (put T dst v) (S0.set k (RD by' p') ++ L) K) : DW Y fid ops bs ix es ns (⟨dst, .call ⟨.value f, args, ats⟩, ty, pos, after, g0⟩ :: l) T (S0 ++ L) K := by
  obtain ⟨v, p', h1, h2, h3, h4⟩ := hd by' p k _ hl hp (get_old h0)
  exact k2' hg hf hb ha (by rw [List.append_nil]; exact h4) (set_old h0) hn (by rw [fv_eq]; exact hk v p' h1 h2 h3)
end
theorem setN {S : St} {k j : Nat} {o o' : Ob} (hj : j ≠ k) (h : S[j]? = some o') : (S.set k o)[j]? = some o' := by rw [List.getElem?_set_ne (Ne.symm hj)]; exact h
theorem setE {S : St} {k : Nat} {o o' : Ob} (h : S[k]? = some o') : (S.set k o)[k]? = some o := by
  have := get_set (L := []) (o := o) h
  simpa using this
theorem xk4 {S S1 : St} {k j : Nat} {o o2 o0 : Ob} (h0 : S[k]? = some o0) (hE : ExtK S k o S1) (hj : S.length ≤ j) : ExtK S k o (S1.set j o2) := by
  obtain ⟨J, rfl⟩ := hE
  refine ⟨J.set (j - S.length) o2, ?_⟩
  rw [List.set_append_right _ _ (by simpa using hj)]
  simp
theorem xk5 {S S1 : St} {k : Nat} {o o' o0 : Ob} (h0 : S[k]? = some o0) (hE : ExtK S k o S1) : ExtK S k o' (S1.set k o') := by
  have := xk1 (o' := o') (L := []) h0 hE
  simpa using this
theorem frzR_agg {n0 : Nat} {S : St} {cs cs' : List HV} (h : mapMS (frzC n0 6) cs S = some (cs', S)) : frzR n0 (.agg cs) S = some (.agg cs', S) := by
  simp only [frzR, frzV, h]
/-- The same as rKC, with what the state holds. -/
theorem rKC2 {Y : XVai.Sys} {f : Nat} {fn : Func} {T' : Tm} {S0 S1 L : St} {k : Nat} {o o' o0 : Ob} {v v' : HV} (h0 : S0[k]? = some o0) (hE : ExtK S0 k o S1) (hio : idO S0.length o = true) (hkp : Y.keep f = false := by rfl) {a : Tmp} {t : TypeId} (hres : fn.results.toList = [.cell a t] := by rfl) {ti : TI} (h1 : Y.tab t = some ti := by rfl) {q n i of' : Nat} {fr : Bool} {rows : List (List HV)} {row : List HV}
    (h2 : T' a = .ptr q n i of' := by rfl) (h3 : (S1 ++ L)[q]? = some (.cells fr rows)) (h4 : rows.length = n := by rfl) (h5 : rows[i]? = some row := by rfl) (h6 : XVai.part ti.agg ti.size row of' = some v := by rfl) (hz : frzR S0.length v (S1 ++ L) = some (v', S1 ++ L)) (hi : idR S0.length v' = true := by rfl) (ho : o = o' := by rfl) : RT Y f fn S0 v' (S0.set k o') .ret T' (S1 ++ L) := by
  subst ho
  obtain ⟨J, rfl⟩ := hE
  have hr : resVs Y T' (S0.set k o ++ J ++ L) fn.results.toList = some [v] := by
    rw [hres]
    simp only [resVs, resV, cload, h1, getRow, h2, h3, h4, if_true, h5, Option.map_some, h6]
  rw [List.append_assoc] at hr hz ⊢
  exact rS hkp hr hz hi rfl (by simp) (rS1 (o := o) h0 hio)
theorem d_steps1 (vars : Int) : Dr spec_l71Steps [I 2, I 1, I vars] 13 (fun v => ∃ l : Stps, v = .lst l.rows ∧ l.sz ≤ 2) :=
  d_l71Steps 1 0 0 vars (fun h => absurd h (by omega)) 2 (by omega) (by omega) (by omega) (by omega)
theorem d_steps2 (vars : Int) : Dr spec_l71Steps [I 2, I 2, I vars] 65 (fun v => ∃ l : Stps, v = .lst l.rows ∧ l.sz ≤ 10) :=
  d_l71Steps 2 13 2 vars (fun _ => d_steps1 vars) 2 (by omega) (by omega) (by omega) (by omega)
theorem d_steps3 (vars : Int) : Dr spec_l71Steps [I 4, I 3, I vars] 545 (fun v => ∃ l : Stps, v = .lst l.rows ∧ l.sz ≤ 84) :=
  d_l71Steps 3 65 10 vars (fun _ => d_steps2 vars) 4 (by omega) (by omega) (by omega) (by omega)
set_option maxHeartbeats 2000000 in
theorem d_l71Prog : Dr spec_l71Prog [] 12000 (fun v => ∃ ls ss, v = PR ls ss ∧ progOk ls ss = true ∧ 1 ≤ ls.length) := by
  refine Dr_of fun bs p k S hb hp hk => ?_
  have hkl : k < S.length := (List.getElem?_eq_some_iff.1 hk).1
  refine E_startR (h := ?_)
  repeat' (first | refine c0 ?_ | refine c1 ?_ | refine c2 ?_ | refine c3 ?_ | refine c4 ?_ | refine c5 ?_ | refine c6 (h := ?_) | refine c7 ?_ | refine d2 ?_ | refine c8 ?_ | refine c9 ?_ | refine d0 ?_ | refine d1 ?_ | refine d4 ?_ | refine a0 (hk := ?_) | refine b0 (hk := ?_) | refine b1 (hk := ?_) | refine b2 (hk := ?_) | refine b3 (hk := ?_) | refine b4 (hk := ?_) | refine p1 (hk := ?_) | refine g0' (hk := ?_) | refine a1 (hk := ?_) | refine a2 (hk := ?_) | refine u1 (hk := ?_) | refine u2 (hk := ?_) | refine u3 (hk := ?_) | refine u4 (hk := ?_) | refine a3 (ht := ?_) (hf := ?_) | refine a4 (ht := ?_) (hf := ?_) | refine a5 (hk := ?_) | refine b5 (hk := ?_) | refine b6 (hk := ?_) | refine b8 (hk := ?_) | refine b9 (hk := ?_) | refine b7 (hk := ?_) | refine p0 (hk := ?_) | refine g1 (hw := ?_) | refine g2 (hw := ?_) | refine g3 (hw := ?_) | refine g4 (hw := ?_) | (with_reducible intro hc) | refine d6 (ht := ?_) | refine d7 (hf := ?_) | refine u5 (hk := ?_) | refine u6 (hk := ?_) | refine u7 (hk := ?_) | refine u8 (hk := ?_) | refine d8 (ht := ?_) (hf := ?_) | refine d9 (ht := ?_) (hf := ?_))
  refine C_loop (fun m T' S' => ∃ (T0 : Tm) (S1 : St) (i q : Nat), i + m = 20 ∧ p ≤ q ∧ q + m * 600 ≤ p + 12000 ∧ ExtK S k (RD bs q) S1 ∧ (∃ z y, S1[S.length + 0]? = some (.cells false [[z, y]])) ∧
      T' = putL T0 [(0, .ptr k 1 0 0), (2, .ptr (S.length + 0) 1 0 0), (3, I i)] ∧ S' = S1 ++ []) 20
    ⟨_, _, 0, p, by omega, by omega, by omega, xk0 hk, ⟨_, _, get_own rfl⟩, at_mk ⟨rfl, rfl, rfl, trivial⟩, (List.append_nil _).symm⟩ ?_
  rintro m T' S' ⟨T0, S1, i, q, hi, hpq, hq, hE, ⟨z, y, h0⟩, rfl, rfl⟩
  have hcur := xk_get hk hE
  have hkl1 : k < S1.length := (List.getElem?_eq_some_iff.1 hcur).1
  have hS1 : S.length ≤ S1.length := by obtain ⟨J, rfl⟩ := hE; simp
  have hS0 : S.length + 0 < S1.length := (List.getElem?_eq_some_iff.1 h0).1
  cases m with
  | zero =>
    have hc0 : ¬ ((i : Int) < 20) := by omega
    repeat' (first | refine c0 ?_ | refine c1 ?_ | refine c2 ?_ | refine c3 ?_ | refine c4 ?_ | refine c5 ?_ | refine c6 (h := ?_) | refine c7 ?_ | refine d2 ?_ | refine c8 ?_ | refine c9 ?_ | refine d0 ?_ | refine d1 ?_ | refine d4 ?_ | refine a0 (hk := ?_) | refine b0 (hk := ?_) | refine b1 (hk := ?_) | refine b2 (hk := ?_) | refine b3 (hk := ?_) | refine b4 (hk := ?_) | refine p1 (hk := ?_) | refine g0' (hk := ?_) | refine a1 (hk := ?_) | refine a2 (hk := ?_) | refine u1 (hk := ?_) | refine u2 (hk := ?_) | refine u3 (hk := ?_) | refine u4 (hk := ?_) | refine a3 (ht := ?_) (hf := ?_) | refine a4 (ht := ?_) (hf := ?_) | refine a5 (hk := ?_) | refine b5 (hk := ?_) | refine b6 (hk := ?_) | refine b8 (hk := ?_) | refine b9 (hk := ?_) | refine b7 (hk := ?_) | refine p0 (hk := ?_) | refine g1 (hw := ?_) | refine g2 (hw := ?_) | refine g3 (hw := ?_) | refine g4 (hw := ?_) | (with_reducible intro hc) | refine d6 (ht := ?_) | refine d7 (hf := ?_) | refine u5 (hk := ?_) | refine u6 (hk := ?_) | refine u7 (hk := ?_) | refine u8 (hk := ?_) | refine d8 (ht := ?_) (hf := ?_) | refine d9 (ht := ?_) (hf := ?_))
    exact ⟨_, _, rKC hk (xk4 hk hE (Nat.le_add_right _ _)) (RD_ok _ _) (h3 := get_set h0), q, hpq, by omega, ⟨[⟨7, 0⟩], .nil, rfl, by decide, by simp⟩, rfl⟩
  | succ m =>
    have hc0 : (i : Int) < 20 := by omega
    rw [Nat.succ_mul] at hq
    repeat' (first | refine c0 ?_ | refine c1 ?_ | refine c2 ?_ | refine c3 ?_ | refine c4 ?_ | refine c5 ?_ | refine c6 (h := ?_) | refine c7 ?_ | refine d2 ?_ | refine c8 ?_ | refine c9 ?_ | refine d0 ?_ | refine d1 ?_ | refine d4 ?_ | refine a0 (hk := ?_) | refine k0 (he := (by first | exact k_pick' (by first | assumption | exact get_old (by assumption) | exact get_set (by assumption)) hb (by omega))) (hk := ?_) | refine k1 (he := (by first | exact k_pick' (by first | assumption | exact get_old (by assumption) | exact get_set (by assumption)) hb (by omega))) (hk := ?_) | refine b0 (hk := ?_) | refine b1 (hk := ?_) | refine b2 (hk := ?_) | refine b3 (hk := ?_) | refine b4 (hk := ?_) | refine p1 (hk := ?_) | refine g0' (hk := ?_) | refine a1 (hk := ?_) | refine a2 (hk := ?_) | refine u1 (hk := ?_) | refine u2 (hk := ?_) | refine u3 (hk := ?_) | refine u4 (hk := ?_) | refine a3 (ht := ?_) (hf := ?_) | refine a4 (ht := ?_) (hf := ?_) | refine a5 (hk := ?_) | refine b5 (hk := ?_) | refine b6 (hk := ?_) | refine b8 (hk := ?_) | refine b9 (hk := ?_) | refine b7 (hk := ?_) | refine p0 (hk := ?_) | refine g1 (hw := ?_) | refine g2 (hw := ?_) | refine g3 (hw := ?_) | refine g4 (hw := ?_) | (with_reducible intro hc) | refine d6 (ht := ?_) | refine d7 (hf := ?_) | refine u5 (hk := ?_) | refine u6 (hk := ?_) | refine u7 (hk := ?_) | refine u8 (hk := ?_) | refine d8 (ht := ?_) (hf := ?_) | refine d9 (ht := ?_) (hf := ?_))
    obtain ⟨n0, hn0, hn1⟩ := pick_nat bs q (n := 4) (by omega)
    have hn0 : pickv bs q 4 = n0 := hn0
    rw [hn0, show IntKind.i64.wrap (1 + (n0 : Int)) = ((n0 + 1 : Nat) : Int) by rw [i64_id (by omega) (by omega)]; omega]
    have hbk : S1.length + 1 ≠ k := by omega
    have hak : S1.length + 0 ≠ k := by omega
    have hab : S1.length + 0 ≠ S1.length + 1 := by omega
    have hba : S1.length + 1 ≠ S1.length + 0 := by omega
    have h0k : S.length + 0 ≠ k := by omega
    have h0a : S.length + 0 ≠ S1.length + 0 := by omega
    have h0b : S.length + 0 ≠ S1.length + 1 := by omega
    refine C_loop (fun n T' S' => ∃ (T0 : Tm) (S2 : St) (ls : List Lab) (q2 : Nat), q ≤ q2 ∧ q2 + n * 2 ≤ q + 9 ∧ ls.length + n = n0 + 1 ∧ ExtK S k (RD bs q2) S2 ∧ (∃ z y, S2[S.length + 0]? = some (.cells false [[z, y]])) ∧
        S2[S1.length + 0]? = some (.cells true (ls.map lrow)) ∧ S2[S1.length + 1]? = some (.cells false [[.sl (S1.length + 0) ls.length, .nils]]) ∧
        T' = putL T0 [(0, .ptr k 1 0 0), (2, .ptr (S.length + 0) 1 0 0), (3, I i), (4, .ptr (S1.length + 1) 1 0 0), (5, I n)] ∧ S' = S2 ++ []) (n0 + 1)
      ⟨_, _, [], q + 1, by omega, by omega, by simp, xk1 hk hE, ⟨z, y, get_setN h0k h0⟩, get_setO rfl, get_setO rfl, at_mk ⟨rfl, rfl, rfl, rfl, rfl, trivial⟩, (List.append_nil _).symm⟩ ?_
    rintro n T' S' ⟨T0, S2, ls, q2, hq2, hq2', hls, hE2, ⟨z', y', f0⟩, fa, fb, rfl, rfl⟩
    have hcur2 := xk_get hk hE2
    have ha2 := lrow2 ls
    have han : (ls.map lrow).length = ls.length := by simp
    cases n with
    | zero =>
      have h00 : ¬ ((0 : Nat) : Int) > 0 := by omega
      repeat' (first | refine c0 ?_ | refine c1 ?_ | refine c2 ?_ | refine c3 ?_ | refine c4 ?_ | refine c5 ?_ | refine c6 (h := ?_) | refine c7 ?_ | refine d2 ?_ | refine c8 ?_ | refine c9 ?_ | refine d0 ?_ | refine d1 ?_ | refine d4 ?_ | refine a0 (hk := ?_) | refine b0 (hk := ?_) | refine b1 (hk := ?_) | refine b2 (hk := ?_) | refine b3 (hk := ?_) | refine b4 (hk := ?_) | refine p1 (hk := ?_) | refine g0' (hk := ?_) | refine a1 (hk := ?_) | refine a2 (hk := ?_) | refine u1 (hk := ?_) | refine u2 (hk := ?_) | refine u3 (hk := ?_) | refine u4 (hk := ?_) | refine a3 (ht := ?_) (hf := ?_) | refine a4 (ht := ?_) (hf := ?_) | refine a5 (hk := ?_) | refine b5 (hk := ?_) | refine b6 (hk := ?_) | refine b8 (hk := ?_) | refine b9 (hk := ?_) | refine b7 (hk := ?_) | refine p0 (hk := ?_) | refine g1 (hw := ?_) | refine g2 (hw := ?_) | refine g3 (hw := ?_) | refine g4 (hw := ?_) | (with_reducible intro hc) | refine d6 (ht := ?_) | refine d7 (hf := ?_) | refine u5 (hk := ?_) | refine u6 (hk := ?_) | refine u7 (hk := ?_) | refine u8 (hk := ?_) | refine d8 (ht := ?_) (hf := ?_) | refine d9 (ht := ?_) (hf := ?_))
      refine kE (hd := d_steps3 _) (h0 := hcur2) (hl := hb) (hp := by omega) (hk := ?_)
      rintro v p' hp1 hp2 ⟨ss, rfl, hss⟩
      have f0' := setN (o := RD bs p') h0k f0
      have fa' := setN (o := RD bs p') hak fa
      have fb' := setN (o := RD bs p') hbk fb
      have hpu := lrow_pure ls
      repeat' (first | refine c0 ?_ | refine c1 ?_ | refine c2 ?_ | refine c3 ?_ | refine c4 ?_ | refine c5 ?_ | refine c6 (h := ?_) | refine c7 ?_ | refine d2 ?_ | refine c8 ?_ | refine c9 ?_ | refine d0 ?_ | refine d1 ?_ | refine d4 ?_ | refine a0 (hk := ?_) | refine b0 (hk := ?_) | refine b1 (hk := ?_) | refine b2 (hk := ?_) | refine b3 (hk := ?_) | refine b4 (hk := ?_) | refine p1 (hk := ?_) | refine g0' (hk := ?_) | refine a1 (hk := ?_) | refine a2 (hk := ?_) | refine u1 (hk := ?_) | refine u2 (hk := ?_) | refine u3 (hk := ?_) | refine u4 (hk := ?_) | refine a3 (ht := ?_) (hf := ?_) | refine a4 (ht := ?_) (hf := ?_) | refine a5 (hk := ?_) | refine b5 (hk := ?_) | refine b6 (hk := ?_) | refine b8 (hk := ?_) | refine b9 (hk := ?_) | refine b7 (hk := ?_) | refine p0 (hk := ?_) | refine g1 (hw := ?_) | refine g2 (hw := ?_) | refine g3 (hw := ?_) | refine g4 (hw := ?_) | (with_reducible intro hc) | refine d6 (ht := ?_) | refine d7 (hf := ?_) | refine u5 (hk := ?_) | refine u6 (hk := ?_) | refine u7 (hk := ?_) | refine u8 (hk := ?_) | refine d8 (ht := ?_) (hf := ?_) | refine d9 (ht := ?_) (hf := ?_))
      refine k0 (ha := fm1 (fzV_agg rfl (fm1 (fz_sl rfl (Nat.zero_le _) (get_setN hab fa') han hpu) (fm1 rfl fm0))) fm0) (he := k_spec_ProgOk ls ss _ (by omega) (by omega)) (hk := ?_)
      repeat' (first | refine c0 ?_ | refine c1 ?_ | refine c2 ?_ | refine c3 ?_ | refine c4 ?_ | refine c5 ?_ | refine c6 (h := ?_) | refine c7 ?_ | refine d2 ?_ | refine c8 ?_ | refine c9 ?_ | refine d0 ?_ | refine d1 ?_ | refine d4 ?_ | refine a0 (hk := ?_) | refine b0 (hk := ?_) | refine b1 (hk := ?_) | refine b2 (hk := ?_) | refine b3 (hk := ?_) | refine b4 (hk := ?_) | refine p1 (hk := ?_) | refine g0' (hk := ?_) | refine a1 (hk := ?_) | refine a2 (hk := ?_) | refine u1 (hk := ?_) | refine u2 (hk := ?_) | refine u3 (hk := ?_) | refine u4 (hk := ?_) | refine a3 (ht := ?_) (hf := ?_) | refine a4 (ht := ?_) (hf := ?_) | refine a5 (hk := ?_) | refine b5 (hk := ?_) | refine b6 (hk := ?_) | refine b8 (hk := ?_) | refine b9 (hk := ?_) | refine b7 (hk := ?_) | refine p0 (hk := ?_) | refine g1 (hw := ?_) | refine g2 (hw := ?_) | refine g3 (hw := ?_) | refine g4 (hw := ?_) | (with_reducible intro hc) | refine d6 (ht := ?_) | refine d7 (hf := ?_) | refine u5 (hk := ?_) | refine u6 (hk := ?_) | refine u7 (hk := ?_) | refine u8 (hk := ?_) | refine d8 (ht := ?_) (hf := ?_) | refine d9 (ht := ?_) (hf := ?_))
      · refine ⟨_, _, rKC2 hk (xk4 hk (xk4 hk (xk5 hk hE2) (by omega)) (Nat.le_add_right _ _)) (RD_ok _ _) (h3 := get_set (setN h0b f0')) (hz := frzR_agg (fm1 (fz_sl rfl (by omega) (get_setN (Ne.symm h0a) (setN hab fa')) han hpu) (fm1 rfl fm0))) (hi := rfl), p', by omega, by omega, ⟨ls, ss, rfl, hc, by omega⟩, rfl⟩
      · refine ⟨m, by omega, _, _, i + 1, p', by omega, by omega, by omega, xk2 (xk4 hk (xk5 hk hE2) (by omega)), ⟨z', y', get_setN h0b f0'⟩, at_mk ⟨rfl, rfl, ?_, trivial⟩, (List.append_nil _).symm⟩
        show HV.int _ _ = _
        rw [i64_id (by omega) (by omega)]; simp
    | succ n =>
      have h00 : ((n + 1 : Nat) : Int) > 0 := by omega
      have dec : HV.int .i64 (IntKind.i64.wrap (((n + 1 : Nat) : Int) - 1)) = I n := by rw [i64_id (by omega) (by omega)]; simp
      repeat' (first | refine c0 ?_ | refine c1 ?_ | refine c2 ?_ | refine c3 ?_ | refine c4 ?_ | refine c5 ?_ | refine c6 (h := ?_) | refine c7 ?_ | refine d2 ?_ | refine c8 ?_ | refine c9 ?_ | refine d0 ?_ | refine d1 ?_ | refine d4 ?_ | refine d3' (h := ?_) | refine d4' ?_ | refine a0 (hk := ?_) | refine b0 (hk := ?_) | refine b1 (hk := ?_) | refine b2 (hk := ?_) | refine b3 (hk := ?_) | refine b4 (hk := ?_) | refine p1 (hk := ?_) | refine g0' (hk := ?_) | refine a1 (hk := ?_) | refine a2 (hk := ?_) | refine u1 (hk := ?_) | refine u2 (hk := ?_) | refine u3 (hk := ?_) | refine u4 (hk := ?_) | refine a3 (ht := ?_) (hf := ?_) | refine a4 (ht := ?_) (hf := ?_) | refine a5 (hk := ?_) | refine b5 (hk := ?_) | refine b6 (hk := ?_) | refine b8 (hk := ?_) | refine b9 (hk := ?_) | refine b7 (hk := ?_) | refine p0 (hk := ?_) | refine g1 (hw := ?_) | refine g2 (hw := ?_) | refine g3 (hw := ?_) | refine g4 (hw := ?_) | refine e0' (hk := ?_) | refine b0' (hk := ?_) | refine b1' (hk := ?_) | refine p1' (hk := ?_) | refine e1' (hk := ?_) | refine e2' (hk := ?_) | refine u1' (hk := ?_) | refine u2' (hk := ?_) | refine u3' (hk := ?_) | refine u4' (hk := ?_) | refine e3' (ht := ?_) (hf := ?_) | refine e4' (ht := ?_) (hf := ?_) | refine b4' (hk := ?_) | refine b7b (hk := ?_) | refine e5' (hk := ?_) | refine f5' (hk := ?_) | refine f6' (hk := ?_) | refine f8' (hk := ?_) | refine f9' (hk := ?_) | refine b7' (hk := ?_) | refine p0' (hk := ?_) | refine h1'' (hw := ?_) | refine h2'' (hw := ?_) | refine h3'' (hw := ?_) | refine h4'' (hw := ?_) | (with_reducible intro hc) | refine d6 (ht := ?_) | refine d7 (hf := ?_) | refine u5 (hk := ?_) | refine u6 (hk := ?_) | refine u7 (hk := ?_) | refine u8 (hk := ?_) | refine d8 (ht := ?_) (hf := ?_) | refine d9 (ht := ?_) (hf := ?_))
      refine kE' (hd := d_l71Label) (h0 := hcur2) (hl := hb) (hp := by omega) (hk := ?_)
      rintro v p' hp1 hp2 ⟨lab, rfl, hlab⟩
      have f0' := setN (o := RD bs p') h0k f0
      have fa' := setN (o := RD bs p') hak fa
      have fb' := setN (o := RD bs p') hbk fb
      repeat' (first | refine c0 ?_ | refine c1 ?_ | refine c2 ?_ | refine c3 ?_ | refine c4 ?_ | refine c5 ?_ | refine c6 (h := ?_) | refine c7 ?_ | refine d2 ?_ | refine c8 ?_ | refine c9 ?_ | refine d0 ?_ | refine d1 ?_ | refine d4 ?_ | refine d3' (h := ?_) | refine d4' ?_ | refine a0 (hk := ?_) | refine b0 (hk := ?_) | refine b1 (hk := ?_) | refine b2 (hk := ?_) | refine b3 (hk := ?_) | refine b4 (hk := ?_) | refine p1 (hk := ?_) | refine g0' (hk := ?_) | refine a1 (hk := ?_) | refine a2 (hk := ?_) | refine u1 (hk := ?_) | refine u2 (hk := ?_) | refine u3 (hk := ?_) | refine u4 (hk := ?_) | refine a3 (ht := ?_) (hf := ?_) | refine a4 (ht := ?_) (hf := ?_) | refine a5 (hk := ?_) | refine b5 (hk := ?_) | refine b6 (hk := ?_) | refine b8 (hk := ?_) | refine b9 (hk := ?_) | refine b7 (hk := ?_) | refine p0 (hk := ?_) | refine g1 (hw := ?_) | refine g2 (hw := ?_) | refine g3 (hw := ?_) | refine g4 (hw := ?_) | refine e0' (hk := ?_) | refine b0' (hk := ?_) | refine b1' (hk := ?_) | refine p1' (hk := ?_) | refine e1' (hk := ?_) | refine e2' (hk := ?_) | refine u1' (hk := ?_) | refine u2' (hk := ?_) | refine u3' (hk := ?_) | refine u4' (hk := ?_) | refine e3' (ht := ?_) (hf := ?_) | refine e4' (ht := ?_) (hf := ?_) | refine b4' (hk := ?_) | refine b7b (hk := ?_) | refine e5' (hk := ?_) | refine f5' (hk := ?_) | refine f6' (hk := ?_) | refine f8' (hk := ?_) | refine f9' (hk := ?_) | refine b7' (hk := ?_) | refine p0' (hk := ?_) | refine h1'' (hw := ?_) | refine h2'' (hw := ?_) | refine h3'' (hw := ?_) | refine h4'' (hw := ?_) | (with_reducible intro hc) | refine d6 (ht := ?_) | refine d7 (hf := ?_) | refine u5 (hk := ?_) | refine u6 (hk := ?_) | refine u7 (hk := ?_) | refine u8 (hk := ?_) | refine d8 (ht := ?_) (hf := ?_) | refine d9 (ht := ?_) (hf := ?_))
      refine ⟨n, by omega, _, _, ls ++ [lab], p', by omega, by omega, by simp; omega, xk2 (xk4 hk (xk4 hk (xk5 hk hE2) (by omega)) (by omega)), ⟨z', y', get_setN h0b (setN h0a f0')⟩, ?_, ?_, at_mk ⟨rfl, rfl, rfl, rfl, dec, trivial⟩, (List.append_nil _).symm⟩
      · rw [get_setN hab (setE fa'), List.map_append]; rfl
      · rw [get_set (setN hba fb')]; simp; rfl
end Go.Proofs.X
end
section
namespace Go.Proofs.X
open Go Go.Proofs.XVai Go.Proofs Go.Proofs.XN
set_option linter.unusedVariables false
set_option linter.unusedSimpArgs false
set_option maxHeartbeats 4000000
def without : Stps → Int → Stps
  | .nil, _ => .nil
  | .cons k v x h t e r, n => if n = 0 then without r (-1) else
      if 0 < n ∧ n < 1 + t.sz + e.sz then (if n - 1 < t.sz then .cons k v x h (without t (n - 1)) e (without r (-1)) else .cons k v x h t (without e (n - 1 - t.sz)) (without r (-1)))
      else if n ≥ 1 + t.sz + e.sz then .cons k v x h t e (without r (n - (1 + t.sz + e.sz))) else .cons k v x h t e (without r n)
theorem without_sz : ∀ (l : Stps) (n : Int), (without l n).sz ≤ l.sz
  | .nil, _ => Nat.le_refl _
  | .cons k v x h t e r, n => by
    have := without_sz t (n - 1)
    have := without_sz e (n - 1 - t.sz)
    have := without_sz r (-1)
    have := without_sz r n
    have := without_sz r (n - (1 + t.sz + e.sz))
    simp only [without]
    repeat' split
    all_goals simp only [Stps.sz]; omega
theorem k_spec_l71Without (N : Nat) : ∀ (l : Stps) (n : Int) (S : St), l.sz ≤ N → l.sz ≤ 1048576 → -1 ≤ n → n ≤ 1048576 → Ev Y spec_l71Without [.lst l.rows, I n] S (.lst (without l n).rows) S := by
  induction N with
  | zero =>
    intro l n S h _ _ _
    cases l with
    | cons => simp [Stps.sz] at h
    | nil =>
      refine E_start (h := ?_)
      repeat' (first | refine c0 ?_ | refine c1 ?_ | refine c2 ?_ | refine c3 ?_ | refine c4 ?_ | refine c5 ?_ | refine c6 (h := ?_) | refine c7 ?_ | refine d2 ?_ | refine c8 ?_ | refine c9 ?_ | refine d0 ?_ | refine d1 ?_ | refine d4 ?_ | refine d3' (h := ?_) | refine d4' ?_ | refine a0 (hk := ?_) | refine b0 (hk := ?_) | refine b1 (hk := ?_) | refine b2 (hk := ?_) | refine b3 (hk := ?_) | refine b4 (hk := ?_) | refine p1 (hk := ?_) | refine g0' (hk := ?_) | refine a1 (hk := ?_) | refine a2 (hk := ?_) | refine u1 (hk := ?_) | refine u2 (hk := ?_) | refine u3 (hk := ?_) | refine u4 (hk := ?_) | refine a3 (ht := ?_) (hf := ?_) | refine a4 (ht := ?_) (hf := ?_) | refine a5 (hk := ?_) | refine b5 (hk := ?_) | refine b6 (hk := ?_) | refine b8 (hk := ?_) | refine b9 (hk := ?_) | refine b7 (hk := ?_) | refine p0 (hk := ?_) | refine g1 (hw := ?_) | refine g2 (hw := ?_) | refine g3 (hw := ?_) | refine g4 (hw := ?_) | refine e0' (hk := ?_) | refine b0' (hk := ?_) | refine b1' (hk := ?_) | refine p1' (hk := ?_) | refine e1' (hk := ?_) | refine e2' (hk := ?_) | refine u1' (hk := ?_) | refine u2' (hk := ?_) | refine u3' (hk := ?_) | refine u4' (hk := ?_) | refine e3' (ht := ?_) (hf := ?_) | refine e4' (ht := ?_) (hf := ?_) | refine b4' (hk := ?_) | refine b7b (hk := ?_) | refine e5' (hk := ?_) | refine f5' (hk := ?_) | refine f6' (hk := ?_) | refine f8' (hk := ?_) | refine f9' (hk := ?_) | refine b7' (hk := ?_) | refine p0' (hk := ?_) | refine h1'' (hw := ?_) | refine h2'' (hw := ?_) | refine h3'' (hw := ?_) | refine h4'' (hw := ?_) | (with_reducible intro hc) | refine d6 (ht := ?_) | refine d7 (hf := ?_) | refine u5 (hk := ?_) | refine u6 (hk := ?_) | refine u7 (hk := ?_) | refine u8 (hk := ?_) | refine d8 (ht := ?_) (hf := ?_) | refine d9 (ht := ?_) (hf := ?_))
      refine d5 ?_
      repeat' (first | refine c0 ?_ | refine c1 ?_ | refine c2 ?_ | refine c3 ?_ | refine c4 ?_ | refine c5 ?_ | refine c6 (h := ?_) | refine c7 ?_ | refine d2 ?_ | refine c8 ?_ | refine c9 ?_ | refine d0 ?_ | refine d1 ?_ | refine d4 ?_ | refine d3' (h := ?_) | refine d4' ?_ | refine a0 (hk := ?_) | refine b0 (hk := ?_) | refine b1 (hk := ?_) | refine b2 (hk := ?_) | refine b3 (hk := ?_) | refine b4 (hk := ?_) | refine p1 (hk := ?_) | refine g0' (hk := ?_) | refine a1 (hk := ?_) | refine a2 (hk := ?_) | refine u1 (hk := ?_) | refine u2 (hk := ?_) | refine u3 (hk := ?_) | refine u4 (hk := ?_) | refine a3 (ht := ?_) (hf := ?_) | refine a4 (ht := ?_) (hf := ?_) | refine a5 (hk := ?_) | refine b5 (hk := ?_) | refine b6 (hk := ?_) | refine b8 (hk := ?_) | refine b9 (hk := ?_) | refine b7 (hk := ?_) | refine p0 (hk := ?_) | refine g1 (hw := ?_) | refine g2 (hw := ?_) | refine g3 (hw := ?_) | refine g4 (hw := ?_) | refine e0' (hk := ?_) | refine b0' (hk := ?_) | refine b1' (hk := ?_) | refine p1' (hk := ?_) | refine e1' (hk := ?_) | refine e2' (hk := ?_) | refine u1' (hk := ?_) | refine u2' (hk := ?_) | refine u3' (hk := ?_) | refine u4' (hk := ?_) | refine e3' (ht := ?_) (hf := ?_) | refine e4' (ht := ?_) (hf := ?_) | refine b4' (hk := ?_) | refine b7b (hk := ?_) | refine e5' (hk := ?_) | refine f5' (hk := ?_) | refine f6' (hk := ?_) | refine f8' (hk := ?_) | refine f9' (hk := ?_) | refine b7' (hk := ?_) | refine p0' (hk := ?_) | refine h1'' (hw := ?_) | refine h2'' (hw := ?_) | refine h3'' (hw := ?_) | refine h4'' (hw := ?_) | (with_reducible intro hc) | refine d6 (ht := ?_) | refine d7 (hf := ?_) | refine u5 (hk := ?_) | refine u6 (hk := ?_) | refine u7 (hk := ?_) | refine u8 (hk := ?_) | refine d8 (ht := ?_) (hf := ?_) | refine d9 (ht := ?_) (hf := ?_))
      exact rL (hp := rfl) (hv := rfl)
  | succ N ih =>
    intro l n S h hb hn0 hn1
    refine E_start (h := ?_)
    repeat' (first | refine c0 ?_ | refine c1 ?_ | refine c2 ?_ | refine c3 ?_ | refine c4 ?_ | refine c5 ?_ | refine c6 (h := ?_) | refine c7 ?_ | refine d2 ?_ | refine c8 ?_ | refine c9 ?_ | refine d0 ?_ | refine d1 ?_ | refine d4 ?_ | refine d3' (h := ?_) | refine d4' ?_ | refine a0 (hk := ?_) | refine b0 (hk := ?_) | refine b1 (hk := ?_) | refine b2 (hk := ?_) | refine b3 (hk := ?_) | refine b4 (hk := ?_) | refine p1 (hk := ?_) | refine g0' (hk := ?_) | refine a1 (hk := ?_) | refine a2 (hk := ?_) | refine u1 (hk := ?_) | refine u2 (hk := ?_) | refine u3 (hk := ?_) | refine u4 (hk := ?_) | refine a3 (ht := ?_) (hf := ?_) | refine a4 (ht := ?_) (hf := ?_) | refine a5 (hk := ?_) | refine b5 (hk := ?_) | refine b6 (hk := ?_) | refine b8 (hk := ?_) | refine b9 (hk := ?_) | refine b7 (hk := ?_) | refine p0 (hk := ?_) | refine g1 (hw := ?_) | refine g2 (hw := ?_) | refine g3 (hw := ?_) | refine g4 (hw := ?_) | refine e0' (hk := ?_) | refine b0' (hk := ?_) | refine b1' (hk := ?_) | refine p1' (hk := ?_) | refine e1' (hk := ?_) | refine e2' (hk := ?_) | refine u1' (hk := ?_) | refine u2' (hk := ?_) | refine u3' (hk := ?_) | refine u4' (hk := ?_) | refine e3' (ht := ?_) (hf := ?_) | refine e4' (ht := ?_) (hf := ?_) | refine b4' (hk := ?_) | refine b7b (hk := ?_) | refine e5' (hk := ?_) | refine f5' (hk := ?_) | refine f6' (hk := ?_) | refine f8' (hk := ?_) | refine f9' (hk := ?_) | refine b7' (hk := ?_) | refine p0' (hk := ?_) | refine h1'' (hw := ?_) | refine h2'' (hw := ?_) | refine h3'' (hw := ?_) | refine h4'' (hw := ?_) | (with_reducible intro hc) | refine d6 (ht := ?_) | refine d7 (hf := ?_) | refine u5 (hk := ?_) | refine u6 (hk := ?_) | refine u7 (hk := ?_) | refine u8 (hk := ?_) | refine d8 (ht := ?_) (hf := ?_) | refine d9 (ht := ?_) (hf := ?_))
    refine C_stps l (fun pre r T' S' => ∃ (T0 : Tm) (S1 : St) (d : Stps) (n' : Int), without l n = d.app (without r n') ∧ -1 ≤ n' ∧ n' ≤ 1048576 ∧ d.len ≤ pre.length ∧ Ext S S1 ∧ S1[S.length + 1]? = some (.cells true d.rows) ∧
        T' = putL T0 [(0, .lst l.rows), (1, I n'), (5, .sl (S.length + 1) d.rows.length), (6, I pre.length)] ∧ S' = S1 ++ [])
      ⟨_, _, .nil, n, rfl, hn0, hn1, by simp [Stps.len], ex0, get_own rfl, at_mk ⟨rfl, rfl, rfl, rfl, trivial⟩, (List.append_nil _).symm⟩ ?_ ?_
    · rintro pre k v x hh t e r T' S' hl hz ⟨T0, S1, d, n', hq, hn0, hn1, hdl, hE, h0, rfl, rfl⟩
      have hg := mid hl
      have hp := mid_lt hl
      have hll := l.rows_len
      have hls := l.len_sz
      have h8 := d.rows_eight
      have hdr := d.rows_len
      simp only [without] at hq
      by_cases w0 : n' = 0
      · subst w0
        rw [if_pos rfl] at hq
        have hlt : (pre.length : Int) < (l.rows.length : Int) := by omega
        repeat' (first | refine c0 ?_ | refine c1 ?_ | refine c2 ?_ | refine c3 ?_ | refine c4 ?_ | refine c5 ?_ | refine c6 (h := ?_) | refine c7 ?_ | refine d2 ?_ | refine c8 ?_ | refine c9 ?_ | refine d0 ?_ | refine d1 ?_ | refine d4 ?_ | refine d3' (h := ?_) | refine d4' ?_ | refine a0 (hk := ?_) | refine b0 (hk := ?_) | refine b1 (hk := ?_) | refine b2 (hk := ?_) | refine b3 (hk := ?_) | refine b4 (hk := ?_) | refine p1 (hk := ?_) | refine g0' (hk := ?_) | refine a1 (hk := ?_) | refine a2 (hk := ?_) | refine u1 (hk := ?_) | refine u2 (hk := ?_) | refine u3 (hk := ?_) | refine u4 (hk := ?_) | refine a3 (ht := ?_) (hf := ?_) | refine a4 (ht := ?_) (hf := ?_) | refine a5 (hk := ?_) | refine b5 (hk := ?_) | refine b6 (hk := ?_) | refine b8 (hk := ?_) | refine b9 (hk := ?_) | refine b7 (hk := ?_) | refine p0 (hk := ?_) | refine g1 (hw := ?_) | refine g2 (hw := ?_) | refine g3 (hw := ?_) | refine g4 (hw := ?_) | refine e0' (hk := ?_) | refine b0' (hk := ?_) | refine b1' (hk := ?_) | refine p1' (hk := ?_) | refine e1' (hk := ?_) | refine e2' (hk := ?_) | refine u1' (hk := ?_) | refine u2' (hk := ?_) | refine u3' (hk := ?_) | refine u4' (hk := ?_) | refine e3' (ht := ?_) (hf := ?_) | refine e4' (ht := ?_) (hf := ?_) | refine b4' (hk := ?_) | refine b7b (hk := ?_) | refine e5' (hk := ?_) | refine f5' (hk := ?_) | refine f6' (hk := ?_) | refine f8' (hk := ?_) | refine f9' (hk := ?_) | refine b7' (hk := ?_) | refine p0' (hk := ?_) | refine h1'' (hw := ?_) | refine h2'' (hw := ?_) | refine h3'' (hw := ?_) | refine h4'' (hw := ?_) | (with_reducible intro hc) | refine d6 (ht := ?_) | refine d7 (hf := ?_) | refine u5 (hk := ?_) | refine u6 (hk := ?_) | refine u7 (hk := ?_) | refine u8 (hk := ?_) | refine d8 (ht := ?_) (hf := ?_) | refine d9 (ht := ?_) (hf := ?_))
        exact ⟨_, _, d, -1, hq, by omega, by omega, by simp; omega, ex1 hE, get_old h0, at_mk ⟨rfl, rfl, rfl, inc (by omega), trivial⟩, (List.append_nil _).symm⟩
      rw [if_neg w0] at hq
      have q0 : (n' == 0) = false := by simpa using w0
      have hlt : (pre.length : Int) < (l.rows.length : Int) := by omega
      have s1 : IntKind.i64.wrap (1 + (t.sz : Int)) = 1 + t.sz := i64_id (by omega) (by omega)
      have s2 : IntKind.i64.wrap (1 + (t.sz : Int) + e.sz) = 1 + t.sz + e.sz := i64_id (by omega) (by omega)
      have s3 : IntKind.i64.wrap (n' - 1) = n' - 1 := i64_id (by omega) (by omega)
      by_cases wA : 0 < n' ∧ n' < 1 + t.sz + e.sz
      · rw [if_pos wA] at hq
        have hA1 : n' > 0 := wA.1
        have hA2 : n' < IntKind.i64.wrap (IntKind.i64.wrap (1 + (t.sz : Int)) + e.sz) := by rw [s1, s2]; exact wA.2
        by_cases wB : n' - 1 < t.sz
        · rw [if_pos wB] at hq
          have hA3 : IntKind.i64.wrap (n' - 1) < (t.sz : Int) := by rw [s3]; exact wB
          have ihT : ∀ S, Ev Y spec_l71Without [.lst t.rows, .int .i64 (IntKind.i64.wrap (n' - 1))] S (.lst (without t (n' - 1)).rows) S := fun S => by rw [s3]; exact ih t _ S (by omega) (by omega) (by omega) (by omega)
          repeat' (first | refine c0 ?_ | refine c1 ?_ | refine c2 ?_ | refine c3 ?_ | refine c4 ?_ | refine c5 ?_ | refine c6 (h := ?_) | refine c7 ?_ | refine d2 ?_ | refine c8 ?_ | refine c9 ?_ | refine d0 ?_ | refine d1 ?_ | refine d4 ?_ | refine d3' (h := ?_) | refine d4' ?_ | refine a0 (hk := ?_) | refine k0 (he := (by first | exact k_spec_l2Count' _ _ (by omega) | exact ihT _)) (hk := ?_) | refine k1 (he := (by first | exact k_spec_l2Count' _ _ (by omega) | exact ihT _)) (hk := ?_) | refine k0' (he := (by first | exact k_spec_l2Count' _ _ (by omega) | exact ihT _)) (hk := ?_) | refine k2' (he := (by first | exact k_spec_l2Count' _ _ (by omega) | exact ihT _)) (hk := ?_) | refine k3' (he := (by first | exact k_spec_l2Count' _ _ (by omega) | exact ihT _)) (hk := ?_) | refine k1' (he := (by first | exact k_spec_l2Count' _ _ (by omega) | exact ihT _)) (hk := ?_) | refine b0 (hk := ?_) | refine b1 (hk := ?_) | refine b2 (hk := ?_) | refine b3 (hk := ?_) | refine b4 (hk := ?_) | refine p1 (hk := ?_) | refine g0' (hk := ?_) | refine a1 (hk := ?_) | refine a2 (hk := ?_) | refine u1 (hk := ?_) | refine u2 (hk := ?_) | refine u3 (hk := ?_) | refine u4 (hk := ?_) | refine a3 (ht := ?_) (hf := ?_) | refine a4 (ht := ?_) (hf := ?_) | refine a5 (hk := ?_) | refine b5 (hk := ?_) | refine b6 (hk := ?_) | refine b8 (hk := ?_) | refine b9 (hk := ?_) | refine b7 (hk := ?_) | refine p0 (hk := ?_) | refine g1 (hw := ?_) | refine g2 (hw := ?_) | refine g3 (hw := ?_) | refine g4 (hw := ?_) | refine e0' (hk := ?_) | refine b0' (hk := ?_) | refine b1' (hk := ?_) | refine p1' (hk := ?_) | refine e1' (hk := ?_) | refine e2' (hk := ?_) | refine u1' (hk := ?_) | refine u2' (hk := ?_) | refine u3' (hk := ?_) | refine u4' (hk := ?_) | refine e3' (ht := ?_) (hf := ?_) | refine e4' (ht := ?_) (hf := ?_) | refine b4' (hk := ?_) | refine b7b (hk := ?_) | refine e5' (hk := ?_) | refine f5' (hk := ?_) | refine f6' (hk := ?_) | refine f8' (hk := ?_) | refine f9' (hk := ?_) | refine b7' (hk := ?_) | refine p0' (hk := ?_) | refine h1'' (hw := ?_) | refine h2'' (hw := ?_) | refine h3'' (hw := ?_) | refine h4'' (hw := ?_) | (with_reducible intro hc) | refine d6 (ht := ?_) | refine d7 (hf := ?_) | refine u5 (hk := ?_) | refine u6 (hk := ?_) | refine u7 (hk := ?_) | refine u8 (hk := ?_) | refine d8 (ht := ?_) (hf := ?_) | refine d9 (ht := ?_) (hf := ?_))
          refine ⟨_, _, d.app (.cons k v x hh (without t (n' - 1)) e .nil), -1, by rw [hq, Stps.app_assoc]; rfl, by omega, by omega, by simp [Stps.app_len, Stps.len]; omega, ex1 (ex2 hE (Nat.le_add_right _ _)), ?_, at_mk ⟨rfl, rfl, ?_, inc (by omega), trivial⟩, (List.append_nil _).symm⟩
          · rw [get_set h0, Stps.app_rows]; rfl
          · show HV.sl _ _ = _; simp [Stps.app_rows, Stps.rows]
        · rw [if_neg wB] at hq
          have hA3 : ¬ IntKind.i64.wrap (n' - 1) < (t.sz : Int) := by rw [s3]; exact wB
          have ihE : ∀ S, Ev Y spec_l71Without [.lst e.rows, .int .i64 (IntKind.i64.wrap (IntKind.i64.wrap (n' - 1) - t.sz))] S (.lst (without e (n' - 1 - t.sz)).rows) S := fun S => by
            rw [s3, i64_id (n := n' - 1 - t.sz) (by omega) (by omega)]; exact ih e _ S (by omega) (by omega) (by omega) (by omega)
          repeat' (first | refine c0 ?_ | refine c1 ?_ | refine c2 ?_ | refine c3 ?_ | refine c4 ?_ | refine c5 ?_ | refine c6 (h := ?_) | refine c7 ?_ | refine d2 ?_ | refine c8 ?_ | refine c9 ?_ | refine d0 ?_ | refine d1 ?_ | refine d4 ?_ | refine d3' (h := ?_) | refine d4' ?_ | refine a0 (hk := ?_) | refine k0 (he := (by first | exact k_spec_l2Count' _ _ (by omega) | exact ihE _)) (hk := ?_) | refine k1 (he := (by first | exact k_spec_l2Count' _ _ (by omega) | exact ihE _)) (hk := ?_) | refine k0' (he := (by first | exact k_spec_l2Count' _ _ (by omega) | exact ihE _)) (hk := ?_) | refine k2' (he := (by first | exact k_spec_l2Count' _ _ (by omega) | exact ihE _)) (hk := ?_) | refine k3' (he := (by first | exact k_spec_l2Count' _ _ (by omega) | exact ihE _)) (hk := ?_) | refine k1' (he := (by first | exact k_spec_l2Count' _ _ (by omega) | exact ihE _)) (hk := ?_) | refine b0 (hk := ?_) | refine b1 (hk := ?_) | refine b2 (hk := ?_) | refine b3 (hk := ?_) | refine b4 (hk := ?_) | refine p1 (hk := ?_) | refine g0' (hk := ?_) | refine a1 (hk := ?_) | refine a2 (hk := ?_) | refine u1 (hk := ?_) | refine u2 (hk := ?_) | refine u3 (hk := ?_) | refine u4 (hk := ?_) | refine a3 (ht := ?_) (hf := ?_) | refine a4 (ht := ?_) (hf := ?_) | refine a5 (hk := ?_) | refine b5 (hk := ?_) | refine b6 (hk := ?_) | refine b8 (hk := ?_) | refine b9 (hk := ?_) | refine b7 (hk := ?_) | refine p0 (hk := ?_) | refine g1 (hw := ?_) | refine g2 (hw := ?_) | refine g3 (hw := ?_) | refine g4 (hw := ?_) | refine e0' (hk := ?_) | refine b0' (hk := ?_) | refine b1' (hk := ?_) | refine p1' (hk := ?_) | refine e1' (hk := ?_) | refine e2' (hk := ?_) | refine u1' (hk := ?_) | refine u2' (hk := ?_) | refine u3' (hk := ?_) | refine u4' (hk := ?_) | refine e3' (ht := ?_) (hf := ?_) | refine e4' (ht := ?_) (hf := ?_) | refine b4' (hk := ?_) | refine b7b (hk := ?_) | refine e5' (hk := ?_) | refine f5' (hk := ?_) | refine f6' (hk := ?_) | refine f8' (hk := ?_) | refine f9' (hk := ?_) | refine b7' (hk := ?_) | refine p0' (hk := ?_) | refine h1'' (hw := ?_) | refine h2'' (hw := ?_) | refine h3'' (hw := ?_) | refine h4'' (hw := ?_) | (with_reducible intro hc) | refine d6 (ht := ?_) | refine d7 (hf := ?_) | refine u5 (hk := ?_) | refine u6 (hk := ?_) | refine u7 (hk := ?_) | refine u8 (hk := ?_) | refine d8 (ht := ?_) (hf := ?_) | refine d9 (ht := ?_) (hf := ?_))
          refine ⟨_, _, d.app (.cons k v x hh t (without e (n' - 1 - t.sz)) .nil), -1, by rw [hq, Stps.app_assoc]; rfl, by omega, by omega, by simp [Stps.app_len, Stps.len]; omega, ex1 (ex2 hE (Nat.le_add_right _ _)), ?_, at_mk ⟨rfl, rfl, ?_, inc (by omega), trivial⟩, (List.append_nil _).symm⟩
          · rw [get_set h0, Stps.app_rows]; rfl
          · show HV.sl _ _ = _; simp [Stps.app_rows, Stps.rows]
      · rw [if_neg wA] at hq
        by_cases wB : n' ≥ 1 + t.sz + e.sz
        · rw [if_pos wB] at hq
          have hA1 : n' > 0 := by omega
          have hA2 : ¬ n' < IntKind.i64.wrap (IntKind.i64.wrap (1 + (t.sz : Int)) + e.sz) := by rw [s1, s2]; omega
          have hA3 : n' ≥ IntKind.i64.wrap (IntKind.i64.wrap (1 + (t.sz : Int)) + e.sz) := by rw [s1, s2]; omega
          have s4 : IntKind.i64.wrap (n' - IntKind.i64.wrap (IntKind.i64.wrap (1 + (t.sz : Int)) + e.sz)) = n' - (1 + t.sz + e.sz) := by rw [s1, s2]; exact i64_id (by omega) (by omega)
          repeat' (first | refine c0 ?_ | refine c1 ?_ | refine c2 ?_ | refine c3 ?_ | refine c4 ?_ | refine c5 ?_ | refine c6 (h := ?_) | refine c7 ?_ | refine d2 ?_ | refine c8 ?_ | refine c9 ?_ | refine d0 ?_ | refine d1 ?_ | refine d4 ?_ | refine d3' (h := ?_) | refine d4' ?_ | refine a0 (hk := ?_) | refine k0 (he := (by first | exact k_spec_l2Count' _ _ (by omega))) (hk := ?_) | refine k1 (he := (by first | exact k_spec_l2Count' _ _ (by omega))) (hk := ?_) | refine k0' (he := (by first | exact k_spec_l2Count' _ _ (by omega))) (hk := ?_) | refine k2' (he := (by first | exact k_spec_l2Count' _ _ (by omega))) (hk := ?_) | refine k3' (he := (by first | exact k_spec_l2Count' _ _ (by omega))) (hk := ?_) | refine k1' (he := (by first | exact k_spec_l2Count' _ _ (by omega))) (hk := ?_) | refine b0 (hk := ?_) | refine b1 (hk := ?_) | refine b2 (hk := ?_) | refine b3 (hk := ?_) | refine b4 (hk := ?_) | refine p1 (hk := ?_) | refine g0' (hk := ?_) | refine a1 (hk := ?_) | refine a2 (hk := ?_) | refine u1 (hk := ?_) | refine u2 (hk := ?_) | refine u3 (hk := ?_) | refine u4 (hk := ?_) | refine a3 (ht := ?_) (hf := ?_) | refine a4 (ht := ?_) (hf := ?_) | refine a5 (hk := ?_) | refine b5 (hk := ?_) | refine b6 (hk := ?_) | refine b8 (hk := ?_) | refine b9 (hk := ?_) | refine b7 (hk := ?_) | refine p0 (hk := ?_) | refine g1 (hw := ?_) | refine g2 (hw := ?_) | refine g3 (hw := ?_) | refine g4 (hw := ?_) | refine e0' (hk := ?_) | refine b0' (hk := ?_) | refine b1' (hk := ?_) | refine p1' (hk := ?_) | refine e1' (hk := ?_) | refine e2' (hk := ?_) | refine u1' (hk := ?_) | refine u2' (hk := ?_) | refine u3' (hk := ?_) | refine u4' (hk := ?_) | refine e3' (ht := ?_) (hf := ?_) | refine e4' (ht := ?_) (hf := ?_) | refine b4' (hk := ?_) | refine b7b (hk := ?_) | refine e5' (hk := ?_) | refine f5' (hk := ?_) | refine f6' (hk := ?_) | refine f8' (hk := ?_) | refine f9' (hk := ?_) | refine b7' (hk := ?_) | refine p0' (hk := ?_) | refine h1'' (hw := ?_) | refine h2'' (hw := ?_) | refine h3'' (hw := ?_) | refine h4'' (hw := ?_) | (with_reducible intro hc) | refine d6 (ht := ?_) | refine d7 (hf := ?_) | refine u5 (hk := ?_) | refine u6 (hk := ?_) | refine u7 (hk := ?_) | refine u8 (hk := ?_) | refine d8 (ht := ?_) (hf := ?_) | refine d9 (ht := ?_) (hf := ?_))
          refine ⟨_, _, d.app (.cons k v x hh t e .nil), n' - (1 + t.sz + e.sz), by rw [hq, Stps.app_assoc]; rfl, by omega, by omega, by simp [Stps.app_len, Stps.len]; omega, ex1 (ex2 hE (Nat.le_add_right _ _)), ?_, at_mk ⟨rfl, ?_, ?_, inc (by omega), trivial⟩, (List.append_nil _).symm⟩
          · rw [get_set h0, Stps.app_rows]; rfl
          · rw [← s4]; rfl
          · show HV.sl _ _ = _; simp [Stps.app_rows, Stps.rows]
        · rw [if_neg wB] at hq
          have hA1 : ¬ n' > 0 := by omega
          have hA3 : ¬ n' ≥ IntKind.i64.wrap (IntKind.i64.wrap (1 + (t.sz : Int)) + e.sz) := by rw [s1, s2]; omega
          repeat' (first | refine c0 ?_ | refine c1 ?_ | refine c2 ?_ | refine c3 ?_ | refine c4 ?_ | refine c5 ?_ | refine c6 (h := ?_) | refine c7 ?_ | refine d2 ?_ | refine c8 ?_ | refine c9 ?_ | refine d0 ?_ | refine d1 ?_ | refine d4 ?_ | refine d3' (h := ?_) | refine d4' ?_ | refine a0 (hk := ?_) | refine k0 (he := (by first | exact k_spec_l2Count' _ _ (by omega))) (hk := ?_) | refine k1 (he := (by first | exact k_spec_l2Count' _ _ (by omega))) (hk := ?_) | refine k0' (he := (by first | exact k_spec_l2Count' _ _ (by omega))) (hk := ?_) | refine k2' (he := (by first | exact k_spec_l2Count' _ _ (by omega))) (hk := ?_) | refine k3' (he := (by first | exact k_spec_l2Count' _ _ (by omega))) (hk := ?_) | refine k1' (he := (by first | exact k_spec_l2Count' _ _ (by omega))) (hk := ?_) | refine b0 (hk := ?_) | refine b1 (hk := ?_) | refine b2 (hk := ?_) | refine b3 (hk := ?_) | refine b4 (hk := ?_) | refine p1 (hk := ?_) | refine g0' (hk := ?_) | refine a1 (hk := ?_) | refine a2 (hk := ?_) | refine u1 (hk := ?_) | refine u2 (hk := ?_) | refine u3 (hk := ?_) | refine u4 (hk := ?_) | refine a3 (ht := ?_) (hf := ?_) | refine a4 (ht := ?_) (hf := ?_) | refine a5 (hk := ?_) | refine b5 (hk := ?_) | refine b6 (hk := ?_) | refine b8 (hk := ?_) | refine b9 (hk := ?_) | refine b7 (hk := ?_) | refine p0 (hk := ?_) | refine g1 (hw := ?_) | refine g2 (hw := ?_) | refine g3 (hw := ?_) | refine g4 (hw := ?_) | refine e0' (hk := ?_) | refine b0' (hk := ?_) | refine b1' (hk := ?_) | refine p1' (hk := ?_) | refine e1' (hk := ?_) | refine e2' (hk := ?_) | refine u1' (hk := ?_) | refine u2' (hk := ?_) | refine u3' (hk := ?_) | refine u4' (hk := ?_) | refine e3' (ht := ?_) (hf := ?_) | refine e4' (ht := ?_) (hf := ?_) | refine b4' (hk := ?_) | refine b7b (hk := ?_) | refine e5' (hk := ?_) | refine f5' (hk := ?_) | refine f6' (hk := ?_) | refine f8' (hk := ?_) | refine f9' (hk := ?_) | refine b7' (hk := ?_) | refine p0' (hk := ?_) | refine h1'' (hw := ?_) | refine h2'' (hw := ?_) | refine h3'' (hw := ?_) | refine h4'' (hw := ?_) | (with_reducible intro hc) | refine d6 (ht := ?_) | refine d7 (hf := ?_) | refine u5 (hk := ?_) | refine u6 (hk := ?_) | refine u7 (hk := ?_) | refine u8 (hk := ?_) | refine d8 (ht := ?_) (hf := ?_) | refine d9 (ht := ?_) (hf := ?_))
          refine ⟨_, _, d.app (.cons k v x hh t e .nil), n', by rw [hq, Stps.app_assoc]; rfl, by omega, by omega, by simp [Stps.app_len, Stps.len]; omega, ex1 (ex2 hE (Nat.le_add_right _ _)), ?_, at_mk ⟨rfl, rfl, ?_, inc (by omega), trivial⟩, (List.append_nil _).symm⟩
          · rw [get_set h0, Stps.app_rows]; rfl
          · show HV.sl _ _ = _; simp [Stps.app_rows, Stps.rows]
    · rintro pre T' S' hl ⟨T0, S1, d, n', hq, hn0, hn1, hdl, hE, h0, rfl, rfl⟩
      repeat' (first | refine c0 ?_ | refine c1 ?_ | refine c2 ?_ | refine c3 ?_ | refine c4 ?_ | refine c5 ?_ | refine c6 (h := ?_) | refine c7 ?_ | refine d2 ?_ | refine c8 ?_ | refine c9 ?_ | refine d0 ?_ | refine d1 ?_ | refine d4 ?_ | refine d3' (h := ?_) | refine d4' ?_ | refine a0 (hk := ?_) | refine b0 (hk := ?_) | refine b1 (hk := ?_) | refine b2 (hk := ?_) | refine b3 (hk := ?_) | refine b4 (hk := ?_) | refine p1 (hk := ?_) | refine g0' (hk := ?_) | refine a1 (hk := ?_) | refine a2 (hk := ?_) | refine u1 (hk := ?_) | refine u2 (hk := ?_) | refine u3 (hk := ?_) | refine u4 (hk := ?_) | refine a3 (ht := ?_) (hf := ?_) | refine a4 (ht := ?_) (hf := ?_) | refine a5 (hk := ?_) | refine b5 (hk := ?_) | refine b6 (hk := ?_) | refine b8 (hk := ?_) | refine b9 (hk := ?_) | refine b7 (hk := ?_) | refine p0 (hk := ?_) | refine g1 (hw := ?_) | refine g2 (hw := ?_) | refine g3 (hw := ?_) | refine g4 (hw := ?_) | refine e0' (hk := ?_) | refine b0' (hk := ?_) | refine b1' (hk := ?_) | refine p1' (hk := ?_) | refine e1' (hk := ?_) | refine e2' (hk := ?_) | refine u1' (hk := ?_) | refine u2' (hk := ?_) | refine u3' (hk := ?_) | refine u4' (hk := ?_) | refine e3' (ht := ?_) (hf := ?_) | refine e4' (ht := ?_) (hf := ?_) | refine b4' (hk := ?_) | refine b7b (hk := ?_) | refine e5' (hk := ?_) | refine f5' (hk := ?_) | refine f6' (hk := ?_) | refine f8' (hk := ?_) | refine f9' (hk := ?_) | refine b7' (hk := ?_) | refine p0' (hk := ?_) | refine h1'' (hw := ?_) | refine h2'' (hw := ?_) | refine h3'' (hw := ?_) | refine h4'' (hw := ?_) | (with_reducible intro hc) | refine d6 (ht := ?_) | refine d7 (hf := ?_) | refine u5 (hk := ?_) | refine u6 (hk := ?_) | refine u7 (hk := ?_) | refine u8 (hk := ?_) | refine d8 (ht := ?_) (hf := ?_) | refine d9 (ht := ?_) (hf := ?_))
      · simp [hl] at hc
      · exact rLx hE (hp := d.rows_pure) (hv := by rw [hq]; simp [without, Stps.app_nil])

theorem whyL_le (ls : List Lab) : ∀ (l : Stps) (hs : List Lab) (i j : Nat), whyL ls l hs i = some j → j < i + l.len
  | .nil, _, _, _, h => by simp [whyL] at h
  | .cons k v x h t e r, [], _, _, hh => by simp [whyL] at hh
  | .cons k v x h t e r, here :: hs, i, j, hh => by
    simp only [whyL] at hh
    split at hh
    · have := whyL_le ls r hs (i + 1) j hh
      simp [Stps.len]; omega
    · simp only [Option.some.injEq] at hh
      subst hh; simp [Stps.len]
theorem whyP_le {ls : List Lab} {ss : Stps} {j : Nat} (h : whyP ls ss = some j) : j < ss.sz := by
  simp only [whyP] at h
  split at h
  · have := whyL_le _ _ _ _ _ h
    rw [Stps.all_len] at this; omega
  · cases h
theorem d_l71Fine : Dr spec_l71Fine [] 12000 (fun v => ∃ ls ss, v = PR ls ss ∧ ss.sz ≤ 8 ∧ ls.length ≤ 4 ∧ 1 ≤ ls.length) := by
  refine Dr_of fun bs p k S hb hp hk => ?_
  have hkl : k < S.length := (List.getElem?_eq_some_iff.1 hk).1
  refine E_startR (h := ?_)
  repeat' (first | refine c0 ?_ | refine c1 ?_ | refine c2 ?_ | refine c3 ?_ | refine c4 ?_ | refine c5 ?_ | refine c6 (h := ?_) | refine c7 ?_ | refine d2 ?_ | refine c8 ?_ | refine c9 ?_ | refine d0 ?_ | refine d1 ?_ | refine d4 ?_ | refine a0 (hk := ?_) | refine b0 (hk := ?_) | refine b1 (hk := ?_) | refine b2 (hk := ?_) | refine b3 (hk := ?_) | refine b4 (hk := ?_) | refine p1 (hk := ?_) | refine g0' (hk := ?_) | refine a1 (hk := ?_) | refine a2 (hk := ?_) | refine u1 (hk := ?_) | refine u2 (hk := ?_) | refine u3 (hk := ?_) | refine u4 (hk := ?_) | refine a3 (ht := ?_) (hf := ?_) | refine a4 (ht := ?_) (hf := ?_) | refine a5 (hk := ?_) | refine b5 (hk := ?_) | refine b6 (hk := ?_) | refine b8 (hk := ?_) | refine b9 (hk := ?_) | refine b7 (hk := ?_) | refine p0 (hk := ?_) | refine g1 (hw := ?_) | refine g2 (hw := ?_) | refine g3 (hw := ?_) | refine g4 (hw := ?_) | (with_reducible intro hc) | refine d6 (ht := ?_) | refine d7 (hf := ?_) | refine u5 (hk := ?_) | refine u6 (hk := ?_) | refine u7 (hk := ?_) | refine u8 (hk := ?_) | refine d8 (ht := ?_) (hf := ?_) | refine d9 (ht := ?_) (hf := ?_))
  refine kE (hd := d_l71Prog) (h0 := hk) (hl := hb) (hp := hp) (hk := ?_)
  rintro v q hq1 hq2 ⟨ls, ss0, rfl, hok, hl1⟩
  obtain ⟨h1, h2, h3, h4⟩ := progOk_in hok
  repeat' (first | refine c0 ?_ | refine c1 ?_ | refine c2 ?_ | refine c3 ?_ | refine c4 ?_ | refine c5 ?_ | refine c6 (h := ?_) | refine c7 ?_ | refine d2 ?_ | refine c8 ?_ | refine c9 ?_ | refine d0 ?_ | refine d1 ?_ | refine d4 ?_ | refine a0 (hk := ?_) | refine b0 (hk := ?_) | refine b1 (hk := ?_) | refine b2 (hk := ?_) | refine b3 (hk := ?_) | refine b4 (hk := ?_) | refine p1 (hk := ?_) | refine g0' (hk := ?_) | refine a1 (hk := ?_) | refine a2 (hk := ?_) | refine u1 (hk := ?_) | refine u2 (hk := ?_) | refine u3 (hk := ?_) | refine u4 (hk := ?_) | refine a3 (ht := ?_) (hf := ?_) | refine a4 (ht := ?_) (hf := ?_) | refine a5 (hk := ?_) | refine b5 (hk := ?_) | refine b6 (hk := ?_) | refine b8 (hk := ?_) | refine b9 (hk := ?_) | refine b7 (hk := ?_) | refine p0 (hk := ?_) | refine g1 (hw := ?_) | refine g2 (hw := ?_) | refine g3 (hw := ?_) | refine g4 (hw := ?_) | (with_reducible intro hc) | refine d6 (ht := ?_) | refine d7 (hf := ?_) | refine u5 (hk := ?_) | refine u6 (hk := ?_) | refine u7 (hk := ?_) | refine u8 (hk := ?_) | refine d8 (ht := ?_) (hf := ?_) | refine d9 (ht := ?_) (hf := ?_))
  refine C_loop (fun m T' S' => ∃ (T0 : Tm) (S1 : St) (i : Nat) (ss : Stps), i + m = 6 ∧ ss.sz ≤ 8 ∧ ExtK S k (RD bs q) S1 ∧ (∃ z y, S1[S.length + 0]? = some (.cells false [[z, y]])) ∧ S1[S.length + 1]? = some (.cells false [[LS ls, .lst ss.rows]]) ∧
      T' = putL T0 [(2, .ptr (S.length + 0) 1 0 0), (3, .ptr (S.length + 1) 1 0 0), (4, I i)] ∧ S' = S1 ++ []) 6
    ⟨_, _, 0, ss0, by omega, h4, xkS, ⟨_, _, get_setO rfl⟩, get_setO rfl, at_mk ⟨rfl, by simp [put, upd]; rfl, rfl, trivial⟩, (List.append_nil _).symm⟩ ?_
  rintro m T' S' ⟨T0, S1, i, ss, hi, hss, hE, ⟨z, y, f0⟩, f1, rfl, rfl⟩
  have hab : S.length + 0 ≠ S.length + 1 := by omega
  have hba : S.length + 1 ≠ S.length + 0 := by omega
  cases m with
  | zero =>
    have hc0 : ¬ ((i : Int) < 6) := by omega
    repeat' (first | refine c0 ?_ | refine c1 ?_ | refine c2 ?_ | refine c3 ?_ | refine c4 ?_ | refine c5 ?_ | refine c6 (h := ?_) | refine c7 ?_ | refine d2 ?_ | refine c8 ?_ | refine c9 ?_ | refine d0 ?_ | refine d1 ?_ | refine d4 ?_ | refine a0 (hk := ?_) | refine b0 (hk := ?_) | refine b1 (hk := ?_) | refine b2 (hk := ?_) | refine b3 (hk := ?_) | refine b4 (hk := ?_) | refine p1 (hk := ?_) | refine g0' (hk := ?_) | refine a1 (hk := ?_) | refine a2 (hk := ?_) | refine u1 (hk := ?_) | refine u2 (hk := ?_) | refine u3 (hk := ?_) | refine u4 (hk := ?_) | refine a3 (ht := ?_) (hf := ?_) | refine a4 (ht := ?_) (hf := ?_) | refine a5 (hk := ?_) | refine b5 (hk := ?_) | refine b6 (hk := ?_) | refine b8 (hk := ?_) | refine b9 (hk := ?_) | refine b7 (hk := ?_) | refine p0 (hk := ?_) | refine g1 (hw := ?_) | refine g2 (hw := ?_) | refine g3 (hw := ?_) | refine g4 (hw := ?_) | (with_reducible intro hc) | refine d6 (ht := ?_) | refine d7 (hf := ?_) | refine u5 (hk := ?_) | refine u6 (hk := ?_) | refine u7 (hk := ?_) | refine u8 (hk := ?_) | refine d8 (ht := ?_) (hf := ?_) | refine d9 (ht := ?_) (hf := ?_))
    exact ⟨_, _, rKC hk (xk4 hk hE (Nat.le_add_right _ _)) (RD_ok _ _) (h3 := get_set f0), q, hq1, hq2, ⟨ls, ss, rfl, hss, h1, hl1⟩, rfl⟩
  | succ m =>
    have hc0 : (i : Int) < 6 := by omega
    have hstep : HV.int .i64 (IntKind.i64.wrap ((i : Int) + 1)) = I ((i + 1 : Nat)) := by rw [i64_id (by omega) (by omega)]; simp
    cases hw : whyP ls ss with
    | none =>
      have hT : ∀ S, Ev Y spec_TypeWhy [PR ls ss] S (.tup [I 0, .bool false]) S := fun S => by
        have := k_spec_TypeWhy ls ss S (by omega) (by omega)
        rw [hw] at this; exact this
      repeat' (first | refine c0 ?_ | refine c1 ?_ | refine c2 ?_ | refine c3 ?_ | refine c4 ?_ | refine c5 ?_ | refine c6 (h := ?_) | refine c7 ?_ | refine d2 ?_ | refine c8 ?_ | refine c9 ?_ | refine d0 ?_ | refine d1 ?_ | refine d4 ?_ | refine a0 (hk := ?_) | refine k0 (he := (by first | exact hT _)) (hk := ?_) | refine k1 (he := (by first | exact hT _)) (hk := ?_) | refine b0 (hk := ?_) | refine b1 (hk := ?_) | refine b2 (hk := ?_) | refine b3 (hk := ?_) | refine b4 (hk := ?_) | refine p1 (hk := ?_) | refine g0' (hk := ?_) | refine a1 (hk := ?_) | refine a2 (hk := ?_) | refine u1 (hk := ?_) | refine u2 (hk := ?_) | refine u3 (hk := ?_) | refine u4 (hk := ?_) | refine a3 (ht := ?_) (hf := ?_) | refine a4 (ht := ?_) (hf := ?_) | refine a5 (hk := ?_) | refine b5 (hk := ?_) | refine b6 (hk := ?_) | refine b8 (hk := ?_) | refine b9 (hk := ?_) | refine b7 (hk := ?_) | refine p0 (hk := ?_) | refine g1 (hw := ?_) | refine g2 (hw := ?_) | refine g3 (hw := ?_) | refine g4 (hw := ?_) | (with_reducible intro hc) | refine d6 (ht := ?_) | refine d7 (hf := ?_) | refine u5 (hk := ?_) | refine u6 (hk := ?_) | refine u7 (hk := ?_) | refine u8 (hk := ?_) | refine d8 (ht := ?_) (hf := ?_) | refine d9 (ht := ?_) (hf := ?_))
      exact ⟨_, _, rKC hk (xk4 hk hE (Nat.le_add_right _ _)) (RD_ok _ _) (h3 := get_set f0), q, hq1, hq2, ⟨ls, ss, rfl, hss, h1, hl1⟩, rfl⟩
    | some j =>
      have hj := whyP_le hw
      have hT : ∀ S, Ev Y spec_TypeWhy [PR ls ss] S (.tup [I j, .bool true]) S := fun S => by
        have := k_spec_TypeWhy ls ss S (by omega) (by omega)
        rw [hw] at this; exact this
      have hsz := without_sz ss j
      repeat' (first | refine c0 ?_ | refine c1 ?_ | refine c2 ?_ | refine c3 ?_ | refine c4 ?_ | refine c5 ?_ | refine c6 (h := ?_) | refine c7 ?_ | refine d2 ?_ | refine c8 ?_ | refine c9 ?_ | refine d0 ?_ | refine d1 ?_ | refine d4 ?_ | refine a0 (hk := ?_) | refine k0 (he := (by first | exact hT _ | exact k_spec_l71Without _ _ _ _ (Nat.le_refl _) (by omega) (by omega) (by omega))) (hk := ?_) | refine k1 (he := (by first | exact hT _ | exact k_spec_l71Without _ _ _ _ (Nat.le_refl _) (by omega) (by omega) (by omega))) (hk := ?_) | refine b0 (hk := ?_) | refine b1 (hk := ?_) | refine b2 (hk := ?_) | refine b3 (hk := ?_) | refine b4 (hk := ?_) | refine p1 (hk := ?_) | refine g0' (hk := ?_) | refine a1 (hk := ?_) | refine a2 (hk := ?_) | refine u1 (hk := ?_) | refine u2 (hk := ?_) | refine u3 (hk := ?_) | refine u4 (hk := ?_) | refine a3 (ht := ?_) (hf := ?_) | refine a4 (ht := ?_) (hf := ?_) | refine a5 (hk := ?_) | refine b5 (hk := ?_) | refine b6 (hk := ?_) | refine b8 (hk := ?_) | refine b9 (hk := ?_) | refine b7 (hk := ?_) | refine p0 (hk := ?_) | refine g1 (hw := ?_) | refine g2 (hw := ?_) | refine g3 (hw := ?_) | refine g4 (hw := ?_) | (with_reducible intro hc) | refine d6 (ht := ?_) | refine d7 (hf := ?_) | refine u5 (hk := ?_) | refine u6 (hk := ?_) | refine u7 (hk := ?_) | refine u8 (hk := ?_) | refine d8 (ht := ?_) (hf := ?_) | refine d9 (ht := ?_) (hf := ?_))
      exact ⟨m, by omega, _, _, i + 1, without ss j, by omega, by omega, xk2 (xk4 hk hE (Nat.le_add_right _ _)), ⟨z, y, get_setN hab f0⟩, get_set f1, at_mk ⟨rfl, rfl, hstep, trivial⟩, (List.append_nil _).symm⟩
end Go.Proofs.X
end
