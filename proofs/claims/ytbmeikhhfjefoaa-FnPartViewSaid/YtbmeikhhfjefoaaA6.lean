/- The canonical machine on which the functions are run, and contracts of functions, part 6 of 6. Conditions: none. -/
import Derived.Test.YtbmeikhhfjefoaaA5
set_option linter.all false
section
namespace Go.Proofs.X
open Go Go.Proofs.XVai Go.Proofs Go.Proofs.XN
set_option linter.unusedVariables false
set_option linter.unusedSimpArgs false
set_option maxHeartbeats 40000000
set_option maxRecDepth 100000

section
variable {fid : Nat} {T : Tm} {S : St} {K : Tm → St → Prop} {ops : Array Oper} {l : List Oper} {dst : Option Tmp} {ty : TypeId} {pos : String} {after : Array Edge} {g0 : Option (Nat × Bool)} {bs ix : Nat} {es : List (Nat × (Nat → Prop))} {ns : List (Nat × Nat)}
/-- A part of a row of one's own, in a region that draws its order. -/
theorem slS {t e z i j q n : Nat} {ti : TI} {x : Operand} {lo hi : Option Operand} {rows : List (List HV)} (hg : wantG ops g0 T = true := by rfl) (h1 : Y.tab t = some ti := by rfl) (h2 : ti.sh = .slice e := by rfl) (h3 : tsize Y e = some z := by rfl) (hx : ev T x = .sl q n := by rfl)
    (hS : S[q]? = some (.cells true rows)) (hn : rows.length = n) (hp : rows.all (fun r => r.all pureC) = true) (hlo : bound 0 (lo.map (ev T)) = some i) (hhi : bound rows.length (hi.map (ev T)) = some j) (hij : i ≤ j) (hj : j ≤ rows.length) (hz : rows.all (fun r => r.length == z) = true) (hc : Ne' ops es ix q)
    (hk : DW Y fid ops bs (ix + 1) es ((ix, q) :: ns) l (put T dst (.lst ((rows.take j).drop i))) S K) : DW Y fid ops bs ix es ns (⟨dst, .slice t x lo hi none, ty, pos, after, g0⟩ :: l) T S K := by
  have hf : frzC 0 6 (.sl q n) S = some (.lst rows, S) := fz_sl rfl (Nat.zero_le _) hS hn hp
  have hcc : cop Y fid noCall (some (bs + ix)) ⟨dst, .slice t x lo hi none, ty, pos, after, g0⟩ T S = some (.lst ((rows.take j).drop i), S) := by
    simp only [cop, cslice, h1, h2, h3, hx, hf, hlo, hhi]
    rw [if_pos ⟨hij, hj, hz⟩]
  have hE : isEO (.slice t x lo hi none) = false := rfl
  have hr : rdl (.slice t x lo hi none) T = [q] := by simp only [rdl, reads, hx]
  refine DW_put hg ⟨0, cop_mono (noCall_le _) hcc⟩ (fun _ => ⟨rfl, fun _ _ => rfl, fun k n fr rs h hs r hr c hc => ?_⟩) (fun x hx hxr hxe => ?_) (.inl rfl) (fun h => by rw [hE] at h; cases h) (.inr ⟨q, rfl⟩) (fun _ => .inr ⟨q, hr, rfl⟩) hk
  · rw [hx] at h
    cases h
    rw [hS] at hs
    cases hs
    exact List.all_eq_true.1 (List.all_eq_true.1 hp r hr) c hc
  · simp only [hE, Bool.false_eq_true, if_false]
    by_cases hm : anc ops x.idx ix = true
    · exact .inl hm
    refine .inr ⟨fun A B hAB k hk => ?_, fun A B hAB => by cases hAB⟩
    simp only at hk
    rw [hr, List.mem_singleton] at hk
    subst hk
    rcases hxe A B hAB with rfl | ⟨q', h1, h2⟩
    · rfl
    · rcases hc _ h1 with h3 | h3
      · exact absurd h3 hm
      · exact h2 k h3
end
theorem po_pure (ps : List Po) : (ps.map porow).all (fun r => r.all pureC) = true := by simp [pureC]
theorem k_spec_take (C : Cx) (k N : Nat) (m : Sm) (c : Cs) (i : Nat) (S : St) (P : Pk C) (hI : Iv C m N) (hN : N ≤ 500000) (hi : i < m.posts.length) (hS : Sim C S k m c) :
    EvR Y spec_l22Sim_take [.ptr k 1 0 0, I i] S (Sd C S k m c (takeS C m i)) := by
  have fB := hS.box
  have hkl : k < S.length := (List.getElem?_eq_some_iff.1 fB).1
  have hzp := hI.zp
  have hx := List.getElem?_eq_getElem hi
  obtain ⟨y1, y2⟩ := hI.ps _ (List.getElem_mem hi)
  generalize hxe : m.posts[i] = x at *
  clear hxe
  have hgx := map_get (f := porow) hx
  have hcol := col_of (Own.col hS 8 rfl)
  obtain ⟨cn, cw, cS, cq, x0, x1, x2, cp, cy⟩ := c
  simp only at hcol fB
  rcases hcol with ⟨rfl, hn⟩ | ⟨q, rfl, fP⟩
  · rw [hn] at hi; simp at hi
  have lp : (m.posts.map porow).length = m.posts.length := by simp
  have p8 := po8 m.posts
  have n1 : k ≠ q := Own.ne hS 0 8 rfl rfl
  have n1' := Ne.symm n1
  have hql : q < S.length := (List.getElem?_eq_some_iff.1 fP).1
  obtain ⟨xt, xk, xf, xn, xl, xm, xa, xx⟩ := x
  refine E_startR (h := ?_)
  repeat' (first | refine c0 ?_ | refine c7 ?_ | refine d2 ?_ | refine d4 ?_ | refine d3' (h := ?_) | refine b0 (hk := ?_) | refine a5 (hk := ?_) | refine b5 (hk := ?_) | refine b9 (hk := ?_) | refine b7 (hk := ?_) | refine b4' (hk := ?_) | refine e5' (hk := ?_) | refine f5' (hk := ?_))
  have w1 : IntKind.i64.wrap ((i : Int) + 1) = ((i + 1 : Nat) : Int) := by rw [i64_id (by omega) (by omega)]; simp
  refine slS (i := 0) (j := i) (hS := get_old fP) (hn := lp) (hp := po_pure _) (hlo := rfl) (hhi := by simp [bound]; rfl) (hij := by omega) (hj := by omega) (hz := p8) (hc := ne0) (hk := ?_)
  have hE : m.posts.eraseIdx i = m.posts.take i ++ m.posts.drop (i + 1) := List.eraseIdx_eq_take_drop_succ ..
  have l1 : (m.posts.take i).length ≤ N := by simp; omega
  have l2 : (m.posts.drop (i + 1)).length ≤ N := by simp; omega
  rw [show ((m.posts.map porow).take i).drop 0 = (m.posts.take i).map porow by simp [List.map_take]]
  have hD : ((m.posts.map porow).take m.posts.length).drop (i + 1) = (m.posts.drop (i + 1)).map porow := by
    rw [List.take_of_length_le (by simp), List.map_drop]
  generalize m.posts.take i = A at *
  generalize m.posts.drop (i + 1) = B at *
  have hT : takeS C m i = (if 0 ≤ xt ∧ hasG C.bad xt = true then seesS { m with posts := A ++ B } xt ⟨xk, xf, xn, xl, xm, xa, xx⟩ else getsS C (seesS { m with posts := A ++ B } xt ⟨xk, xf, xn, xl, xm, xa, xx⟩) xt ⟨xk, xf, xn, xl, xm, xa, xx⟩) := by
    unfold takeS
    rw [hx]
    simp only [hE]
  rw [hT]
  have hI0 : Iv C { m with posts := A ++ B } N := by
    have := taken_iv hI i
    rwa [hE] at this
  clear hT
  cases A with
  | nil =>
    skip
    refine pN' (hk := ?_)
    repeat' (first | refine e5' (hk := ?_) | refine f5' (hk := ?_))
    refine slS (i := i + 1) (j := m.posts.length) (hS := get_old fP) (hn := lp) (hp := po_pure _) (hlo := by simp only [Option.map]; show bound 0 (some (.int .i64 (IntKind.i64.wrap ((i : Int) + 1)))) = _; rw [w1]; simp [bound]; omega) (hhi := by rw [lp]; rfl) (hij := by omega) (hj := by omega) (hz := p8) (hc := ne0) (hk := ?_)
    rw [hD]
    cases B with
    | nil =>
      skip
      refine pN' (hk := ?_)
      repeat' (first | refine c0 ?_ | refine c7 ?_ | refine d2 ?_ | refine d4' ?_ | refine a5 (hk := ?_) | refine b5 (hk := ?_) | refine e5' (hk := ?_) | refine b7' (hk := ?_))
      refine kG (hG := (((Gd.start hS).nil 8 (fr := true)).updE 0 (rows' := [smrow C { m with posts := [] ++ [] } ⟨cn, cw, cS, cq, x0, x1, x2, .nils, cy⟩]) (n' := 1) rfl rfl rfl |>.app : Gd S _ _ (comps C k { m with posts := [] ++ [] } ⟨cn, cw, cS, cq, x0, x1, x2, .nils, cy⟩))) (he := fun hO => k_spec_sees C k { m with posts := [] ++ [] } ⟨cn, cw, cS, cq, x0, x1, x2, .nils, cy⟩ xt ⟨xk, xf, xn, xl, xm, xa, xx⟩ _ y1 hO (by have := hI0.z0; omega) (by have := hI0.z1; omega) (by have := hI0.z2; omega)) (hk := ?_)
      intro S2 c2 h2 hG2
      have hI2 := sees_iv hI0 xt ⟨xk, xf, xn, xl, xm, xa, xx⟩ y1
      have f0 := (Gd.old h2 (j := S.length + 0) (by simp) (own_nb (i := 8) hS (Nat.le_add_right _ _) (x := .nils) fun n e => by cases e)).1.trans (get_ownL (by simp) rfl)
      clear h2
      generalize seesS { m with posts := [] ++ [] } xt ⟨xk, xf, xn, xl, xm, xa, xx⟩ = m2 at *
      have fB2 : S2[k]? = some (.cells false [smrow C m2 c2]) := Own.get hG2.own 0 rfl
      by_cases hx0 : xt ≥ 0
      · have eh := fun S => k_spec_l1Has C.bad xt S
        cases q1 : hasG C.bad xt with
        | true =>
          rw [q1] at eh
          rw [if_pos ⟨hx0, rfl⟩]
          repeat' (first | refine c0 ?_ | refine c1 ?_ | refine c7 ?_ | refine c9 ?_ | refine d4 ?_ | refine d3' (h := ?_) | refine d4' ?_ | refine k0' (he := (by first | exact eh _)) (hk := ?_) | refine u3' (hk := ?_) | refine e5' (hk := ?_) | refine f5' (hk := ?_) | refine d6 (ht := ?_))
          exact ⟨_, _, rKeep, rfl, c2, hG2.app⟩
        | false =>
          rw [q1] at eh
          rw [if_neg (by simp)]
          repeat' (first | refine c0 ?_ | refine c7 ?_ | refine d2 ?_ | refine d0 ?_ | refine d4 ?_ | refine d3' (h := ?_) | refine d4' ?_ | refine k0' (he := (by first | exact eh _)) (hk := ?_) | refine a5 (hk := ?_) | refine b5 (hk := ?_) | refine u3' (hk := ?_) | refine e5' (hk := ?_) | refine f5' (hk := ?_) | refine d7 (hf := ?_))
          refine kG (hG := hG2.app) (he := fun hO => k_spec_gets C k (N + 1) m2 c2 xt ⟨xk, xf, xn, xl, xm, xa, xx⟩ _ P hI2 (by omega) y1 y2 hO) (hk := ?_)
          intro S3 c3 h3 hG3
          repeat' (first | refine d4 ?_)
          exact ⟨_, _, rKeepN, rfl, c3, hG3.app⟩
      · rw [if_neg (by omega)]
        repeat' (first | refine c0 ?_ | refine c7 ?_ | refine d2 ?_ | refine d0 ?_ | refine d4 ?_ | refine d3' (h := ?_) | refine d4' ?_ | refine a5 (hk := ?_) | refine b5 (hk := ?_) | refine e0' (hk := ?_) | refine u4' (hk := ?_) | refine e5' (hk := ?_) | refine f5' (hk := ?_) | refine d7 (hf := ?_))
        refine kG (hG := hG2.app) (he := fun hO => k_spec_gets C k (N + 1) m2 c2 xt ⟨xk, xf, xn, xl, xm, xa, xx⟩ _ P hI2 (by omega) y1 y2 hO) (hk := ?_)
        intro S3 c3 h3 hG3
        repeat' (first | refine d4 ?_)
        exact ⟨_, _, rKeepN, rfl, c3, hG3.app⟩
    | cons b B =>
      skip
      refine p1' (hz := by simp [isCell]) (he := rfl) (hl := by simp only [lim]; simp at l2 ⊢; omega) (hk := ?_)
      repeat' (first | refine c0 ?_ | refine c7 ?_ | refine d2 ?_ | refine d4' ?_ | refine a5 (hk := ?_) | refine b5 (hk := ?_) | refine e5' (hk := ?_) | refine b7' (hk := ?_))
      refine kG (hG := (((Gd.start hS).updE 0 (rows' := [smrow C { m with posts := [] ++ b :: B } ⟨cn, cw, cS, cq, x0, x1, x2, .sl (S.length + 17) ((b :: B).length), cy⟩]) (n' := 1) rfl (show [smrow C m ⟨cn, cw, cS, cq, x0, x1, x2, .sl (S.length + 17) ((b :: B).map porow).length, cy⟩] = _ by simp) rfl).newE 8 (j := 17) (q := S.length + 17) (n := (b :: B).length) (rows := ([] ++ b :: B).map porow) rfl (by simp) rfl (by simp) : Gd S _ _ (comps C k { m with posts := [] ++ b :: B } ⟨cn, cw, cS, cq, x0, x1, x2, .sl (S.length + 17) ((b :: B).length), cy⟩))) (he := fun hO => k_spec_sees C k { m with posts := [] ++ b :: B } ⟨cn, cw, cS, cq, x0, x1, x2, .sl (S.length + 17) ((b :: B).length), cy⟩ xt ⟨xk, xf, xn, xl, xm, xa, xx⟩ _ y1 hO (by have := hI0.z0; omega) (by have := hI0.z1; omega) (by have := hI0.z2; omega)) (hk := ?_)
      intro S2 c2 h2 hG2
      have hI2 := sees_iv hI0 xt ⟨xk, xf, xn, xl, xm, xa, xx⟩ y1
      have f0 := (Gd.old h2 (j := S.length + 0) (by simp) (own_nb (i := 8) hS (Nat.le_add_right _ _) (x := .sl (S.length + 17) _) fun n e => by injection e; omega)).1.trans (get_ownL (by simp) rfl)
      clear h2
      generalize seesS { m with posts := [] ++ b :: B } xt ⟨xk, xf, xn, xl, xm, xa, xx⟩ = m2 at *
      have fB2 : S2[k]? = some (.cells false [smrow C m2 c2]) := Own.get hG2.own 0 rfl
      by_cases hx0 : xt ≥ 0
      · have eh := fun S => k_spec_l1Has C.bad xt S
        cases q1 : hasG C.bad xt with
        | true =>
          rw [q1] at eh
          rw [if_pos ⟨hx0, rfl⟩]
          repeat' (first | refine c0 ?_ | refine c1 ?_ | refine c7 ?_ | refine c9 ?_ | refine d4 ?_ | refine d3' (h := ?_) | refine d4' ?_ | refine k0' (he := (by first | exact eh _)) (hk := ?_) | refine u3' (hk := ?_) | refine e5' (hk := ?_) | refine f5' (hk := ?_) | refine d6 (ht := ?_))
          exact ⟨_, _, rKeep, rfl, c2, hG2.app⟩
        | false =>
          rw [q1] at eh
          rw [if_neg (by simp)]
          repeat' (first | refine c0 ?_ | refine c7 ?_ | refine d2 ?_ | refine d0 ?_ | refine d4 ?_ | refine d3' (h := ?_) | refine d4' ?_ | refine k0' (he := (by first | exact eh _)) (hk := ?_) | refine a5 (hk := ?_) | refine b5 (hk := ?_) | refine u3' (hk := ?_) | refine e5' (hk := ?_) | refine f5' (hk := ?_) | refine d7 (hf := ?_))
          refine kG (hG := hG2.app) (he := fun hO => k_spec_gets C k (N + 1) m2 c2 xt ⟨xk, xf, xn, xl, xm, xa, xx⟩ _ P hI2 (by omega) y1 y2 hO) (hk := ?_)
          intro S3 c3 h3 hG3
          repeat' (first | refine d4 ?_)
          exact ⟨_, _, rKeepN, rfl, c3, hG3.app⟩
      · rw [if_neg (by omega)]
        repeat' (first | refine c0 ?_ | refine c7 ?_ | refine d2 ?_ | refine d0 ?_ | refine d4 ?_ | refine d3' (h := ?_) | refine d4' ?_ | refine a5 (hk := ?_) | refine b5 (hk := ?_) | refine e0' (hk := ?_) | refine u4' (hk := ?_) | refine e5' (hk := ?_) | refine f5' (hk := ?_) | refine d7 (hf := ?_))
        refine kG (hG := hG2.app) (he := fun hO => k_spec_gets C k (N + 1) m2 c2 xt ⟨xk, xf, xn, xl, xm, xa, xx⟩ _ P hI2 (by omega) y1 y2 hO) (hk := ?_)
        intro S3 c3 h3 hG3
        repeat' (first | refine d4 ?_)
        exact ⟨_, _, rKeepN, rfl, c3, hG3.app⟩
  | cons a A =>
    skip
    refine p1' (hz := by simp [isCell]) (he := rfl) (hl := by simp only [lim]; simp at l1 ⊢; omega) (hk := ?_)
    repeat' (first | refine e5' (hk := ?_) | refine f5' (hk := ?_))
    refine slS (i := i + 1) (j := m.posts.length) (hS := get_old fP) (hn := lp) (hp := po_pure _) (hlo := by simp only [Option.map]; show bound 0 (some (.int .i64 (IntKind.i64.wrap ((i : Int) + 1)))) = _; rw [w1]; simp [bound]; omega) (hhi := by rw [lp]; rfl) (hij := by omega) (hj := by omega) (hz := p8) (hc := by repeat' (first | exact ne0 | refine ne1 (by omega) ?_)) (hk := ?_)
    rw [hD]
    skip
    refine p0' (hz := by simp [isCell]) (hz' := by simp) (hl := by simp only [lim]; simp at l1 l2 ⊢; omega) (hk := ?_)
    repeat' (first | refine c0 ?_ | refine c7 ?_ | refine d2 ?_ | refine d4' ?_ | refine a5 (hk := ?_) | refine b5 (hk := ?_) | refine e5' (hk := ?_) | refine b7' (hk := ?_))
    refine kG (hG := (((Gd.start hS).updE 0 (rows' := [smrow C { m with posts := a :: A ++ B } ⟨cn, cw, cS, cq, x0, x1, x2, .sl (S.length + 9) ((a :: A ++ B).length), cy⟩]) (n' := 1) rfl (show [smrow C m ⟨cn, cw, cS, cq, x0, x1, x2, .sl (S.length + 9) (((a :: A).map porow).length + (B.map porow).length), cy⟩] = _ by simp; omega) rfl).newE 8 (j := 9) (q := S.length + 9) (n := (a :: A ++ B).length) (rows := (a :: A ++ B).map porow) rfl (by simp) (show (a :: A).map porow ++ B.map porow = _ by simp) (by simp) : Gd S _ _ (comps C k { m with posts := a :: A ++ B } ⟨cn, cw, cS, cq, x0, x1, x2, .sl (S.length + 9) ((a :: A ++ B).length), cy⟩))) (he := fun hO => k_spec_sees C k { m with posts := a :: A ++ B } ⟨cn, cw, cS, cq, x0, x1, x2, .sl (S.length + 9) ((a :: A ++ B).length), cy⟩ xt ⟨xk, xf, xn, xl, xm, xa, xx⟩ _ y1 hO (by have := hI0.z0; omega) (by have := hI0.z1; omega) (by have := hI0.z2; omega)) (hk := ?_)
    intro S2 c2 h2 hG2
    have hI2 := sees_iv hI0 xt ⟨xk, xf, xn, xl, xm, xa, xx⟩ y1
    have f0 := (Gd.old h2 (j := S.length + 0) (by simp) (own_nb (i := 8) hS (Nat.le_add_right _ _) (x := .sl (S.length + 9) _) fun n e => by injection e; omega)).1.trans (get_ownL (by simp) rfl)
    clear h2
    generalize seesS { m with posts := a :: A ++ B } xt ⟨xk, xf, xn, xl, xm, xa, xx⟩ = m2 at *
    have fB2 : S2[k]? = some (.cells false [smrow C m2 c2]) := Own.get hG2.own 0 rfl
    by_cases hx0 : xt ≥ 0
    · have eh := fun S => k_spec_l1Has C.bad xt S
      cases q1 : hasG C.bad xt with
      | true =>
        rw [q1] at eh
        rw [if_pos ⟨hx0, rfl⟩]
        repeat' (first | refine c0 ?_ | refine c1 ?_ | refine c7 ?_ | refine c9 ?_ | refine d4 ?_ | refine d3' (h := ?_) | refine d4' ?_ | refine k0' (he := (by first | exact eh _)) (hk := ?_) | refine u3' (hk := ?_) | refine e5' (hk := ?_) | refine f5' (hk := ?_) | refine d6 (ht := ?_))
        exact ⟨_, _, rKeep, rfl, c2, hG2.app⟩
      | false =>
        rw [q1] at eh
        rw [if_neg (by simp)]
        repeat' (first | refine c0 ?_ | refine c7 ?_ | refine d2 ?_ | refine d0 ?_ | refine d4 ?_ | refine d3' (h := ?_) | refine d4' ?_ | refine k0' (he := (by first | exact eh _)) (hk := ?_) | refine a5 (hk := ?_) | refine b5 (hk := ?_) | refine u3' (hk := ?_) | refine e5' (hk := ?_) | refine f5' (hk := ?_) | refine d7 (hf := ?_))
        refine kG (hG := hG2.app) (he := fun hO => k_spec_gets C k (N + 1) m2 c2 xt ⟨xk, xf, xn, xl, xm, xa, xx⟩ _ P hI2 (by omega) y1 y2 hO) (hk := ?_)
        intro S3 c3 h3 hG3
        repeat' (first | refine d4 ?_)
        exact ⟨_, _, rKeepN, rfl, c3, hG3.app⟩
    · rw [if_neg (by omega)]
      repeat' (first | refine c0 ?_ | refine c7 ?_ | refine d2 ?_ | refine d0 ?_ | refine d4 ?_ | refine d3' (h := ?_) | refine d4' ?_ | refine a5 (hk := ?_) | refine b5 (hk := ?_) | refine e0' (hk := ?_) | refine u4' (hk := ?_) | refine e5' (hk := ?_) | refine f5' (hk := ?_) | refine d7 (hf := ?_))
      refine kG (hG := hG2.app) (he := fun hO => k_spec_gets C k (N + 1) m2 c2 xt ⟨xk, xf, xn, xl, xm, xa, xx⟩ _ P hI2 (by omega) y1 y2 hO) (hk := ?_)
      intro S3 c3 h3 hG3
      repeat' (first | refine d4 ?_)
      exact ⟨_, _, rKeepN, rfl, c3, hG3.app⟩
end Go.Proofs.X
end
section
namespace Go.Proofs.X
open Go Go.Proofs.XVai Go.Proofs Go.Proofs.XN
set_option linter.unusedVariables false
set_option linter.unusedSimpArgs false
set_option maxHeartbeats 40000000
set_option maxRecDepth 100000

theorem k_spec_rest (C : Cx) (k N : Nat) (m : Sm) (c : Cs) (S : St) (P : Pk C) (hI : Iv C m N) (hN : N ≤ 400000) (hS : Sim C S k m c) :
    EvR Y spec_l22Sim_rest [.ptr k 1 0 0] S (Sd C S k m c (restS C m 200)) := by
  have fB := hS.box
  have hkl : k < S.length := (List.getElem?_eq_some_iff.1 fB).1
  refine E_startR (h := ?_)
  repeat' (first | refine c0 ?_ | refine c7 ?_ | refine d2 ?_ | refine c8 ?_ | refine d4 ?_ | refine a5 (hk := ?_))
  refine C_loop (fun f T' S' => ∃ (T0 : Tm) (S1 : St) (n : Nat) (m1 : Sm) (c1 : Cs), n + f = 200 ∧ restS C m 200 = restS C m1 f ∧ Iv C m1 (N + 9 * n) ∧ Gd S ((comps C k m c).map Comp.c) S1 (comps C k m1 c1) ∧
      T' = putL T0 [(0, .ptr k 1 0 0), (2, I n)] ∧ S' = S1 ++ []) 200
    ⟨_, _, 0, m, c, by omega, rfl, hI, Gd.start hS, at_mk ⟨rfl, rfl, trivial⟩, rfl⟩ ?_
  rintro f T' S' ⟨T0, S1, n, m1, c1, hf, hq, hI1, hG, rfl, rfl⟩
  have fB1 : S1[k]? = some (.cells false [smrow C m1 c1]) := Own.get hG.own 0 rfl
  have hzp := hI1.zp
  cases f with
  | zero =>
    have hc0 : ¬ ((n : Int) < 200) := by omega
    repeat' (first | refine c0 ?_ | refine c2 ?_ | refine c5 ?_ | refine c7 ?_ | refine d2 ?_ | refine d1 ?_ | refine d4 ?_ | refine a0 (hk := ?_) | refine u4 (hk := ?_) | refine a5 (hk := ?_) | refine d7 (hf := ?_))
    exact ⟨_, _, rKeepN, rfl, c1, by rw [hq]; exact hG.app⟩
  | succ f =>
    have hc0 : (n : Int) < 200 := by omega
    have hin := incN (i := n) (by omega)
    have hcol := col_of (Own.col hG.own 8 rfl)
    obtain ⟨cn, cw, cS, cq, x0, x1, x2, cp, cy⟩ := c1
    simp only at hcol fB1
    rcases hcol with ⟨rfl, hn⟩ | ⟨q, rfl, fP⟩
    · repeat' (first | refine c0 ?_ | refine c2 ?_ | refine c5 ?_ | refine c7 ?_ | refine d2 ?_ | refine d1 ?_ | refine d4 ?_ | refine u3 (hk := ?_) | refine a5 (hk := ?_) | refine b5 (hk := ?_) | refine d7 (hf := ?_))
      refine ⟨_, _, rKeepN, rfl, ⟨cn, cw, cS, cq, x0, x1, x2, .nils, cy⟩, ?_⟩
      rw [hq, restS, if_pos hn]
      exact hG.app
    · by_cases hn : m1.posts = []
      · have hl0 : ¬ ((m1.posts.length : Int) > 0) := by rw [hn]; simp
        repeat' (first | refine c0 ?_ | refine c2 ?_ | refine c5 ?_ | refine c7 ?_ | refine d2 ?_ | refine d1 ?_ | refine d4 ?_ | refine u3 (hk := ?_) | refine a5 (hk := ?_) | refine b5 (hk := ?_) | refine u8 (hk := ?_))
        refine ⟨_, _, rKeepN, rfl, ⟨cn, cw, cS, cq, x0, x1, x2, .sl q m1.posts.length, cy⟩, ?_⟩
        rw [hq, restS, if_pos hn]
        exact hG.app
      · have hl0 : (m1.posts.length : Int) > 0 := by
          have := List.length_pos_iff.2 hn
          omega
        repeat' (first | refine c0 ?_ | refine c7 ?_ | refine d2 ?_ | refine c8 ?_ | refine d0 ?_ | refine d4 ?_ | refine u3 (hk := ?_) | refine a5 (hk := ?_) | refine b5 (hk := ?_) | refine u7 (hk := ?_))
        refine kG (hG := hG.app) (he := fun hO => k_spec_take C k (N + 9 * n) m1 ⟨cn, cw, cS, cq, x0, x1, x2, .sl q m1.posts.length, cy⟩ 0 _ P hI1 (by omega) (List.length_pos_iff.2 hn) hO) (hk := ?_)
        intro S2 c2 h2 hG2
        repeat' (first | refine c0 ?_ | refine c3 ?_ | refine d2 ?_ | refine d4 ?_ | refine a5 (hk := ?_))
        exact ⟨f, by omega, _, S2, n + 1, takeS C m1 0, c2, by omega, by rw [hq, restS, if_neg hn], (take_iv P hI1 0).mono (by omega), hG2, at_mk ⟨rfl, hin, trivial⟩, rfl⟩
/-- Nil becomes a row. -/
def frc : HV → HV
  | .nils => .lst []
  | v => v
theorem fz_old {n0 d k n : Nat} {S : St} (h : k < n0) : frzC n0 d (.sl k n) S = some (.sl k n, S) := by
  cases d <;> simp [frzC, h]
theorem fz_col {n0 d : Nat} {S S1 : St} {fr : Bool} {c : HV} {rows : List (List HV)} (h : Col fr S c rows) (hl : S.length ≤ n0) : frzC n0 d c S1 = some (frc c, S1) := by
  rcases h with ⟨rfl, _⟩ | ⟨q, rfl, h⟩
  · cases d <;> rfl
  · exact fz_old (by have := (List.getElem?_eq_some_iff.1 h).1; omega)
theorem id_col {n0 : Nat} {S : St} {fr : Bool} {c : HV} {rows : List (List HV)} (h : Col fr S c rows) (hl : S.length ≤ n0) : idC n0 (frc c) = true := by
  rcases h with ⟨rfl, _⟩ | ⟨q, rfl, h⟩
  · rfl
  · have := (List.getElem?_eq_some_iff.1 h).1
    simp only [frc, idC]
    exact decide_eq_true (by omega)
theorem res1 {fn : Func} {T' : Tm} {S : St} {a : Tmp} {t : TypeId} {v : HV} {ti : TI} {q : Nat} {fr : Bool} {row : List HV} (hres : fn.results.toList = [.cell a t] := by rfl) (h1 : Y.tab t = some ti := by rfl) (h2 : T' a = .ptr q 1 0 0 := by rfl) (h3 : S[q]? = some (.cells fr [row])) (h6 : XVai.part ti.agg ti.size row 0 = some v := by rfl) : resVs Y T' S fn.results.toList = some [v] := by
  rw [hres]
  have e1 : [row][0]? = some row := rfl
  simp only [resVs, resV, cload, h1, getRow, h2, h3, List.length_cons, List.length_nil, Nat.zero_add, if_true, e1, Option.map_some, h6]
theorem k_spec_part (C : Cx) (k : Nat) (m : Sm) (c : Cs) (S : St) (hS : Sim C S k m c) : Ev Y spec_l22Sim_part [.ptr k 1 0 0] S (.agg [.sl c.n m.nums.length, frc c.w, frc c.s, .sl c.q 3, .bool m.ended]) S := by
  have fB := hS.box
  have hkl : k < S.length := (List.getElem?_eq_some_iff.1 fB).1
  have hn := (List.getElem?_eq_some_iff.1 (Own.get hS 2 rfl)).1
  have hq := (List.getElem?_eq_some_iff.1 (Own.get hS 1 rfl)).1
  have hw := Own.col hS 3 rfl
  have hs := Own.col hS 4 rfl
  have i1 := hw.cell
  have i2 := hs.cell
  have hi1 := id_col hw (Nat.le_refl _)
  have hi2 := id_col hs (Nat.le_refl _)
  obtain ⟨cn, cw, cS, cq, x0, x1, x2, cp, cy⟩ := c
  simp only at hn hq hw hs i1 i2 hi1 hi2 fB ⊢
  refine E_start (h := ?_)
  repeat' (first | refine c0 ?_ | refine c7 ?_ | refine d2 ?_ | refine d4 ?_ | refine d3' (h := ?_) | refine b0 (hk := ?_) | refine b7b (hk := ?_) | refine e5' (hk := ?_) | refine f5' (hk := ?_))
  refine b7' (h9 := by show [HV.sl cn m.nums.length, cw, cS, HV.sl cq 3, HV.bool m.ended].all isCell = true; simp [isCell] at i1 i2 ⊢; simp [isCell, i1, i2]) (hk := ?_)
  repeat' (first | refine c0 ?_ | refine c9 ?_ | refine d4' ?_)
  refine rV (hr := res1 (h3 := get_own rfl)) (v := .agg [.sl cn m.nums.length, frc cw, frc cS, .sl cq 3, .bool m.ended]) (hz := ?_) (hi := by show [HV.sl cn m.nums.length, frc cw, frc cS, HV.sl cq 3, HV.bool m.ended].all (idC S.length) = true; simp only [List.all_cons, List.all_nil, hi1, hi2, Bool.and_true, Bool.true_and]; simp [idC, hn, hq])
  exact fzV_agg rfl (fm1 (fz_old hn) (fm1 (fz_col hw (Nat.le_refl _)) (fm1 (fz_col hs (Nat.le_refl _)) (fm1 (fz_old hq) (fm1 rfl fm0)))))
end Go.Proofs.X
end
section
namespace Go.Proofs.X
open Go Go.Proofs.XVai Go.Proofs Go.Proofs.XN
set_option linter.unusedVariables false
set_option linter.unusedSimpArgs false

/-- The new name of a host. -/
def sig (h : Int) : Int := if h = 0 then 1 else if h = 1 then 2 else if h = 2 then 0 else h
theorem sig_inj {a b : Int} : sig a = sig b ↔ a = b := by
  unfold sig
  constructor
  · intro h
    repeat' split at h
    all_goals omega
  · rintro rfl; rfl
theorem sig_in (h : Int) : inB (sig h) 0 2 = inB h 0 2 := by
  unfold sig inB
  rw [decide_eq_decide]
  repeat' split
  all_goals omega
def turnG (s : Int) : Int := (if hasG s 2 then 1 else 0) + (if hasG s 0 then 2 else 0) + (if hasG s 1 then 4 else 0)
theorem turn_has {s h : Int} (hh : inB h 0 2 = true) : hasG (turnG s) (sig h) = hasG s h := by
  obtain ⟨q0, q1, q2, _⟩ := hasG_bits (hasG s 2) (hasG s 0) (hasG s 1)
  have : h = 0 ∨ h = 1 ∨ h = 2 := by simp only [inB, decide_eq_true_eq] at hh; omega
  rcases this with rfl | rfl | rfl
  · exact q1
  · exact q2
  · exact q0
def turnL (l : Lab) : Lab := ⟨turnG l.k, turnG l.t⟩
theorem turnL_ok (l : Lab) : labOk (turnL l) = true := by
  have h1 := (hasG_bits (hasG l.k 2) (hasG l.k 0) (hasG l.k 1)).2.2.2
  have h2 := (hasG_bits (hasG l.t 2) (hasG l.t 0) (hasG l.t 1)).2.2.2
  show (setB (turnG l.k) && setB (turnG l.t)) = true
  rw [turnG, turnG, h1, h2]; rfl
def turnS : Stps → Stps
  | .nil => .nil
  | .cons k v x h t e r => .cons k v x (if k = 3 then sig h else h) (turnS t) (turnS e) (turnS r)
theorem turnS_len : ∀ l : Stps, (turnS l).len = l.len
  | .nil => rfl
  | .cons _ _ _ _ _ _ r => by simp [turnS, Stps.len, turnS_len r]
theorem turnS_sz : ∀ l : Stps, (turnS l).sz = l.sz
  | .nil => rfl
  | .cons _ _ _ _ t e r => by simp [turnS, Stps.sz, turnS_sz t, turnS_sz e, turnS_sz r]
theorem turnS_ok (n : Nat) : ∀ (l : Stps) (d : Int), stepsOk n (turnS l) d = stepsOk n l d
  | .nil, _ => rfl
  | .cons k v x h t e r, d => by
    simp only [turnS, stepsOk, turnS_ok n t, turnS_ok n e, turnS_ok n r, turnS_len]
    by_cases k1 : k = 1
    · subst k1; simp
    · by_cases k3 : k = 3
      · subst k3; simp [sig_in]
      · simp [k1, k3]
def tau (p : Int × Int) : Int × Int := (sig p.1, p.2)
theorem turn_run : ∀ (l : Stps) (r : Rn), run (turnS l) ⟨r.nums, r.ws, r.ss.map tau⟩ = ⟨(run l r).nums, (run l r).ws, (run l r).ss.map tau⟩
  | .nil, _ => rfl
  | .cons k v x h t e rest, r => by
    rw [turnS, run_consQ, run_consQ]
    by_cases k1 : k = 1
    · rw [if_pos k1, if_pos k1, ← turn_run rest]
    · rw [if_neg k1, if_neg k1]
      by_cases k3 : k = 3
      · rw [if_pos k3, if_pos k3, if_pos k3, ← turn_run rest]
        congr 2
        simp [tau]
      · rw [if_neg k3, if_neg k3]
        dsimp only
        by_cases hn : nget r.nums v ≠ 0
        · rw [if_pos hn, if_pos hn, turn_run t, turn_run rest]
        · rw [if_neg hn, if_neg hn, turn_run e, turn_run rest]
theorem turn_prog {ls : List Lab} {ss : Stps} (h : progOk ls ss = true) : progOk (ls.map turnL) (turnS ss) = true := by
  obtain ⟨h1, h2, h3, h4⟩ := progOk_in h
  simp only [progOk, List.length_map, turnS_ok, turnS_sz, Bool.and_eq_true, decide_eq_true_eq]
  refine ⟨⟨⟨h1, ?_⟩, h3⟩, h4⟩
  rw [List.all_map, List.all_eq_true]
  exact fun l _ => turnL_ok l
theorem turn_runOf {ls : List Lab} {ss : Stps} (h : progOk ls ss = true) (a : List Int) : (runOf (ls.map turnL) (turnS ss) a).ss = (runOf ls ss a).ss.map tau := by
  have e : numsOk (ls.map turnL) (turnS ss) a = numsOk ls ss a := by simp only [numsOk, h, turn_prog h, List.length_map]
  unfold runOf
  rw [e]
  split
  · have := turn_run ss ⟨a, [], []⟩
    simp only [List.map_nil] at this
    rw [this]
  · rfl
theorem turn_to (ss : List (Int × Int)) (h : Int) : runTo (ss.map tau) (sig h) = runTo ss h := by
  unfold runTo
  rw [List.filter_map, List.map_map]
  have : ((fun s : Int × Int => s.1 == sig h) ∘ tau) = fun s => s.1 == h := by
    funext s
    rw [Bool.eq_iff_iff]
    simp [tau, sig_inj]
  rw [this]
  rfl
/-- A turned program tells turned hosts too much with the same rows. -/
theorem turn_leak {ls : List Lab} {ss : Stps} {h : Int} (hok : progOk ls ss = true) (hh : inB h 0 2 = true) : leakOf (ls.map turnL) (turnS ss) (sig h) = leakOf ls ss h := by
  have ek : knowsOf (ls.map turnL) (sig h) = knowsOf ls h := by
    simp only [knowsOf, List.map_map]
    exact List.map_congr_left fun l _ => turn_has hh
  have ea : leakAt (ls.map turnL) (turnS ss) (sig h) = leakAt ls ss h := by
    funext p
    simp only [leakAt, ek, List.length_map, turn_runOf hok, turn_to]
  simp only [leakOf, turn_prog hok, hok, sig_in, hh, ea, List.length_map]
theorem sig_next {h : Int} (hh : inB h 0 2 = true) : (IntKind.i64.wrap (h + 1)).tmod 3 = sig h := by
  have : h = 0 ∨ h = 1 ∨ h = 2 := by simp only [inB, decide_eq_true_eq] at hh; omega
  rcases this with rfl | rfl | rfl <;> decide
end Go.Proofs.X
end
section
namespace Go.Proofs.X
open Go Go.Proofs.XVai Go.Proofs Go.Proofs.XN
set_option linter.unusedVariables false
set_option linter.unusedSimpArgs false
set_option maxHeartbeats 4000000
set_option maxRecDepth 100000

theorem wrow22 (ws : List (Int × Int)) : (ws.map wrow).all (fun r => r.length == 2 && r.all isCell) = true := by simp [isCell]
theorem Col.own {S X : St} {j : Nat} {o : Ob} {fr : Bool} {c : HV} {rows : List (List HV)} (h : Col fr (S ++ X) c rows) (hj : ∀ k n, c = .sl k n → k ≠ S.length + j) : Col fr (S ++ X.set j o) c rows := by
  rw [← set_own]; exact h.set hj
theorem Run3.frzR {S S1 : St} {r : Rn} {c1 c2 c3 : HV} (h : Run3 S1 r c1 c2 c3) (h1 : ∀ k n, c1 = .sl k n → S.length ≤ k) (h2 : ∀ k n, c2 = .sl k n → S.length ≤ k) (h3 : ∀ k n, c3 = .sl k n → S.length ≤ k) (hl : S.length ≤ S1.length) (ho : ∀ j, j < S.length → S1[j]? = S[j]?) :
    ∃ S2, XVai.frzR S.length (.agg [c1, c2, c3]) S1 = some (RN r.nums r.ws r.ss, S2) ∧ S.length ≤ S2.length ∧ ∀ j, j < S.length → S2[j]? = S[j]? := by
  obtain ⟨S2, z1, z2, z3⟩ := h.frz h1 h2 h3
  refine ⟨S2, by rw [← z1]; rfl, by omega, fun j hj => ?_⟩
  rw [z3 j (fun n hc => by have := h1 j n hc; omega) (fun n hc => by have := h2 j n hc; omega) (fun n hc => by have := h3 j n hc; omega), ho j hj]
/-- A run out of a cell of one's own. -/
theorem rRn {f : Nat} {fn : Func} {T' : Tm} {S S1 : St} {r : Rn} {c1 c2 c3 : HV} (hkp : Y.keep f = false := by rfl) {a : Tmp} {t : TypeId} (hres : fn.results.toList = [.cell a t] := by rfl) {ti : TI} (h1 : Y.tab t = some ti := by rfl) {q n i of' : Nat} {fr : Bool} {rows : List (List HV)} {row : List HV}
    (h2 : T' a = .ptr q n i of' := by rfl) (h3 : S1[q]? = some (.cells fr rows)) (h4 : rows.length = n := by rfl) (h5 : rows[i]? = some row := by rfl) (h6 : XVai.part ti.agg ti.size row of' = some (.agg [c1, c2, c3]) := by rfl) (hR : Run3 S1 r c1 c2 c3)
    (o1 : ∀ k n, c1 = .sl k n → S.length ≤ k) (o2 : ∀ k n, c2 = .sl k n → S.length ≤ k) (o3 : ∀ k n, c3 = .sl k n → S.length ≤ k) (hl : S.length ≤ S1.length) (ho : ∀ j, j < S.length → S1[j]? = S[j]?) : RT Y f fn S (RN r.nums r.ws r.ss) S .ret T' S1 := by
  obtain ⟨S2, z1, z2, z3⟩ := hR.frzR o1 o2 o3 hl ho
  exact rCG hkp hres h1 h2 h3 h4 h5 h6 z1 rfl z2 z3
theorem apaI {k n k' n' : Nat} (h : k ≠ k') : Apa (.sl k n) (.sl k' n') := fun a b c d h1 h2 e => by cases h1; cases h2; exact h e
theorem apaN {a : HV} : Apa a .nils := fun k n k' n' _ h => by cases h
theorem ownN {m : Nat} : ∀ k n, HV.nils = .sl k n → m ≤ k := fun k n h => by cases h
theorem ownI {m q l : Nat} (h : m ≤ q) : ∀ k n, HV.sl q l = .sl k n → m ≤ k := fun k n h => by cases h; assumption
theorem k_impl_Run_clone (r : Rn) (S : St) (h1 : r.nums.length ≤ 1048576) (h2 : r.ws.length ≤ 1048576) (h3 : r.ss.length ≤ 1048576) : Ev Y impl_Run_clone [RN r.nums r.ws r.ss] S (RN r.nums r.ws r.ss) S := by
  obtain ⟨nums, ws, ss⟩ := r
  simp only at h1 h2 h3 ⊢
  have w2 := wrow22 ws
  have w3 := wrow22 ss
  cases ws with
  | nil =>
    cases ss with
    | nil =>
      refine E_start (h := ?_)
      repeat' (first | refine c0 ?_ | refine c7 ?_ | refine d2 ?_ | refine d4 ?_ | refine d3' (h := ?_) | refine b0 (hk := ?_) | refine b1 (hk := ?_) | refine e5' (hk := ?_) | refine f5' (hk := ?_))
      refine kX' (he := k_impl_cloneInts nums _ h1) (hx := fun v S' ⟨J, h, _⟩ => ⟨J, h⟩) (hk := ?_)
      rintro c1 J ⟨J', -, hC, hle⟩
      rw [List.append_assoc] at hC ⊢
      rcases hC with ⟨rfl, hz⟩ | ⟨q, rfl, hq⟩
      · have hC0 : ∀ S, Col false S .nils (nums.map irow) := fun _ => .inl ⟨rfl, hz⟩
        repeat' (first | refine e5' (hk := ?_) | refine f5' (hk := ?_))
        refine pN' (hk := ?_)
        repeat' (first | refine e5' (hk := ?_) | refine f5' (hk := ?_))
        refine pN' (hk := ?_)
        repeat' (first | refine c0 ?_ | refine c9 ?_ | refine d4' ?_ | refine b7b (hk := ?_) | refine b7' (hk := ?_))
        refine rRn (r := ⟨nums, [], []⟩) (c1 := .nils) (c2 := .nils) (c3 := .nils) (h3 := get_own rfl) (hR := ⟨hC0 _, .inl ⟨rfl, rfl⟩, .inl ⟨rfl, rfl⟩, apa0, apa0, apa0⟩) (o1 := ownN) (o2 := ownN) (o3 := ownN) (hl := by simp) (ho := fun j hj => by rw [List.getElem?_append_left hj])
      have hql := hle _ _ rfl
      simp at hql
      have hC0 : Col false (S ++ _) (.sl q (nums.map irow).length) (nums.map irow) := .inr ⟨q, rfl, hq⟩
      repeat' (first | refine e5' (hk := ?_) | refine f5' (hk := ?_))
      refine pN' (hk := ?_)
      repeat' (first | refine e5' (hk := ?_) | refine f5' (hk := ?_))
      refine pN' (hk := ?_)
      repeat' (first | refine c0 ?_ | refine c9 ?_ | refine d4' ?_ | refine b7b (hk := ?_) | refine b7' (hk := ?_))
      refine rRn (r := ⟨nums, [], []⟩) (c1 := (.sl q (nums.map irow).length)) (c2 := .nils) (c3 := .nils) (h3 := get_own rfl) (hR := ⟨(hC0.own fun k n hc => by cases hc; omega), .inl ⟨rfl, rfl⟩, .inl ⟨rfl, rfl⟩, apaN, apaN, apa0⟩) (o1 := (ownI (by omega))) (o2 := ownN) (o3 := ownN) (hl := by simp) (ho := fun j hj => by rw [List.getElem?_append_left hj])
    | cons s0 st =>
      have h3' : st.length + 1 ≤ 1048576 := by simpa using h3
      refine E_start (h := ?_)
      repeat' (first | refine c0 ?_ | refine c7 ?_ | refine d2 ?_ | refine d4 ?_ | refine d3' (h := ?_) | refine b0 (hk := ?_) | refine b1 (hk := ?_) | refine e5' (hk := ?_) | refine f5' (hk := ?_))
      refine kX' (he := k_impl_cloneInts nums _ h1) (hx := fun v S' ⟨J, h, _⟩ => ⟨J, h⟩) (hk := ?_)
      rintro c1 J ⟨J', -, hC, hle⟩
      rw [List.append_assoc] at hC ⊢
      rcases hC with ⟨rfl, hz⟩ | ⟨q, rfl, hq⟩
      · have hC0 : ∀ S, Col false S .nils (nums.map irow) := fun _ => .inl ⟨rfl, hz⟩
        repeat' (first | refine e5' (hk := ?_) | refine f5' (hk := ?_))
        refine pN' (hk := ?_)
        repeat' (first | refine c0 ?_ | refine c9 ?_ | refine d4' ?_ | refine p1' (hk := ?_) | refine b7b (hk := ?_) | refine e5' (hk := ?_) | refine f5' (hk := ?_) | refine b7' (hk := ?_))
        refine rRn (r := ⟨nums, [], (s0 :: st)⟩) (c1 := .nils) (c2 := .nils) (c3 := (.sl (S.length + 10) ((s0 :: st).map wrow).length)) (h3 := get_own rfl) (hR := ⟨hC0 _, .inl ⟨rfl, rfl⟩, .inr ⟨S.length + 10, rfl, get_own rfl⟩, apa0, apa0, apa0⟩) (o1 := ownN) (o2 := ownN) (o3 := (ownI (by omega))) (hl := by simp) (ho := fun j hj => by rw [List.getElem?_append_left hj])
      have hql := hle _ _ rfl
      simp at hql
      have hC0 : Col false (S ++ _) (.sl q (nums.map irow).length) (nums.map irow) := .inr ⟨q, rfl, hq⟩
      repeat' (first | refine e5' (hk := ?_) | refine f5' (hk := ?_))
      refine pN' (hk := ?_)
      repeat' (first | refine c0 ?_ | refine c9 ?_ | refine d4' ?_ | refine p1' (hk := ?_) | refine b7b (hk := ?_) | refine e5' (hk := ?_) | refine f5' (hk := ?_) | refine b7' (hk := ?_))
      refine rRn (r := ⟨nums, [], (s0 :: st)⟩) (c1 := (.sl q (nums.map irow).length)) (c2 := .nils) (c3 := (.sl (S.length + 10) ((s0 :: st).map wrow).length)) (h3 := get_own rfl) (hR := ⟨((hC0.own fun k n hc => by cases hc; omega).own fun k n hc => by cases hc; omega), .inl ⟨rfl, rfl⟩, .inr ⟨S.length + 10, rfl, get_own rfl⟩, apaN, (apaI (by omega)), apa0⟩) (o1 := (ownI (by omega))) (o2 := ownN) (o3 := (ownI (by omega))) (hl := by simp) (ho := fun j hj => by rw [List.getElem?_append_left hj])
  | cons w0 wt =>
    cases ss with
    | nil =>
      have h2' : wt.length + 1 ≤ 1048576 := by simpa using h2
      refine E_start (h := ?_)
      repeat' (first | refine c0 ?_ | refine c7 ?_ | refine d2 ?_ | refine d4 ?_ | refine d3' (h := ?_) | refine b0 (hk := ?_) | refine b1 (hk := ?_) | refine e5' (hk := ?_) | refine f5' (hk := ?_))
      refine kX' (he := k_impl_cloneInts nums _ h1) (hx := fun v S' ⟨J, h, _⟩ => ⟨J, h⟩) (hk := ?_)
      rintro c1 J ⟨J', -, hC, hle⟩
      rw [List.append_assoc] at hC ⊢
      rcases hC with ⟨rfl, hz⟩ | ⟨q, rfl, hq⟩
      · have hC0 : ∀ S, Col false S .nils (nums.map irow) := fun _ => .inl ⟨rfl, hz⟩
        repeat' (first | refine p1' (hk := ?_) | refine e5' (hk := ?_) | refine f5' (hk := ?_))
        refine pN' (hk := ?_)
        repeat' (first | refine c0 ?_ | refine c9 ?_ | refine d4' ?_ | refine b7b (hk := ?_) | refine b7' (hk := ?_))
        refine rRn (r := ⟨nums, (w0 :: wt), []⟩) (c1 := .nils) (c2 := (.sl (S.length + 7) ((w0 :: wt).map wrow).length)) (c3 := .nils) (h3 := get_own rfl) (hR := ⟨hC0 _, .inr ⟨S.length + 7, rfl, get_own rfl⟩, .inl ⟨rfl, rfl⟩, apa0, apa0, apaN⟩) (o1 := ownN) (o2 := (ownI (by omega))) (o3 := ownN) (hl := by simp) (ho := fun j hj => by rw [List.getElem?_append_left hj])
      have hql := hle _ _ rfl
      simp at hql
      have hC0 : Col false (S ++ _) (.sl q (nums.map irow).length) (nums.map irow) := .inr ⟨q, rfl, hq⟩
      repeat' (first | refine p1' (hk := ?_) | refine e5' (hk := ?_) | refine f5' (hk := ?_))
      refine pN' (hk := ?_)
      repeat' (first | refine c0 ?_ | refine c9 ?_ | refine d4' ?_ | refine b7b (hk := ?_) | refine b7' (hk := ?_))
      refine rRn (r := ⟨nums, (w0 :: wt), []⟩) (c1 := (.sl q (nums.map irow).length)) (c2 := (.sl (S.length + 7) ((w0 :: wt).map wrow).length)) (c3 := .nils) (h3 := get_own rfl) (hR := ⟨((hC0.own fun k n hc => by cases hc; omega).own fun k n hc => by cases hc; omega), .inr ⟨S.length + 7, rfl, get_own rfl⟩, .inl ⟨rfl, rfl⟩, (apaI (by omega)), apaN, apaN⟩) (o1 := (ownI (by omega))) (o2 := (ownI (by omega))) (o3 := ownN) (hl := by simp) (ho := fun j hj => by rw [List.getElem?_append_left hj])
    | cons s0 st =>
      have h2' : wt.length + 1 ≤ 1048576 := by simpa using h2
      have h3' : st.length + 1 ≤ 1048576 := by simpa using h3
      refine E_start (h := ?_)
      repeat' (first | refine c0 ?_ | refine c7 ?_ | refine d2 ?_ | refine d4 ?_ | refine d3' (h := ?_) | refine b0 (hk := ?_) | refine b1 (hk := ?_) | refine e5' (hk := ?_) | refine f5' (hk := ?_))
      refine kX' (he := k_impl_cloneInts nums _ h1) (hx := fun v S' ⟨J, h, _⟩ => ⟨J, h⟩) (hk := ?_)
      rintro c1 J ⟨J', -, hC, hle⟩
      rw [List.append_assoc] at hC ⊢
      rcases hC with ⟨rfl, hz⟩ | ⟨q, rfl, hq⟩
      · have hC0 : ∀ S, Col false S .nils (nums.map irow) := fun _ => .inl ⟨rfl, hz⟩
        repeat' (first | refine c0 ?_ | refine c9 ?_ | refine d4' ?_ | refine p1' (hk := ?_) | refine b7b (hk := ?_) | refine e5' (hk := ?_) | refine f5' (hk := ?_) | refine b7' (hk := ?_))
        refine rRn (r := ⟨nums, (w0 :: wt), (s0 :: st)⟩) (c1 := .nils) (c2 := (.sl (S.length + 7) ((w0 :: wt).map wrow).length)) (c3 := (.sl (S.length + 10) ((s0 :: st).map wrow).length)) (h3 := get_own rfl) (hR := ⟨hC0 _, .inr ⟨S.length + 7, rfl, get_own rfl⟩, .inr ⟨S.length + 10, rfl, get_own rfl⟩, apa0, apa0, (apaI (by omega))⟩) (o1 := ownN) (o2 := (ownI (by omega))) (o3 := (ownI (by omega))) (hl := by simp) (ho := fun j hj => by rw [List.getElem?_append_left hj])
      have hql := hle _ _ rfl
      simp at hql
      have hC0 : Col false (S ++ _) (.sl q (nums.map irow).length) (nums.map irow) := .inr ⟨q, rfl, hq⟩
      repeat' (first | refine c0 ?_ | refine c9 ?_ | refine d4' ?_ | refine p1' (hk := ?_) | refine b7b (hk := ?_) | refine e5' (hk := ?_) | refine f5' (hk := ?_) | refine b7' (hk := ?_))
      refine rRn (r := ⟨nums, (w0 :: wt), (s0 :: st)⟩) (c1 := (.sl q (nums.map irow).length)) (c2 := (.sl (S.length + 7) ((w0 :: wt).map wrow).length)) (c3 := (.sl (S.length + 10) ((s0 :: st).map wrow).length)) (h3 := get_own rfl) (hR := ⟨(((hC0.own fun k n hc => by cases hc; omega).own fun k n hc => by cases hc; omega).own fun k n hc => by cases hc; omega), .inr ⟨S.length + 7, rfl, get_own rfl⟩, .inr ⟨S.length + 10, rfl, get_own rfl⟩, (apaI (by omega)), (apaI (by omega)), (apaI (by omega))⟩) (o1 := (ownI (by omega))) (o2 := (ownI (by omega))) (o3 := (ownI (by omega))) (hl := by simp) (ho := fun j hj => by rw [List.getElem?_append_left hj])
end Go.Proofs.X
end
section
namespace Go.Proofs.X
open Go Go.Proofs.XVai Go.Proofs Go.Proofs.XN
set_option linter.unusedVariables false
set_option linter.unusedSimpArgs false
set_option maxHeartbeats 4000000
set_option maxRecDepth 100000

section
variable {fid : Nat} {T : Tm} {S : St} {K : Tm → St → Prop} {ops : Array Oper} {l : List Oper} {dst : Option Tmp} {ty : TypeId} {pos : String} {after : Array Edge} {g0 : Option (Nat × Bool)}
/-- A call whose arguments become immutable. -/
theorem kZ {f : Operand} {args : Array Operand} {ats : Array TypeId} {g : Nat} {args' : List HV} {S1 S2 : St} {v : HV} (hg : wantG ops g0 T = true := by rfl) (hf : ev T f = .fn g [] := by rfl) (hb : Y.byref g = false := by rfl)
    (ha : mapMS (frzV 0) (args.toList.map (ev T)) S = some (args', S1)) (he : Ev Y g args' S1 v S2) (hk : OW Y fid ops none l (put T dst v) S2 K) : OW Y fid ops none (⟨dst, .call ⟨.value f, args, ats⟩, ty, pos, after, g0⟩ :: l) T S K := by
  rw [← List.append_nil args'] at he
  exact ⟨WX_call hg hf hb ha he hk.of⟩
end
theorem k_impl_RunOf (ls : List Lab) (ss : Stps) (nums : List Int) (S : St) (hs : ss.sz ≤ 1048576) (hl : ls.length ≤ 1048576) (hn : nums.length ≤ 1048576) : Ev Y impl_RunOf [PR ls ss, L nums] S (RUNR ls ss nums) S := by
  cases hok : numsOk ls ss nums with
  | false =>
    have hno : (!numsOk ls ss nums) = true := by rw [hok]; rfl
    rw [RUNR, hok, show runOf ls ss nums = ⟨[], [], []⟩ by simp [runOf, hok]]
    refine E_start (h := ?_)
    repeat' (first | refine c0 ?_ | refine c1 ?_ | refine c7 ?_ | refine d2 ?_ | refine c9 ?_ | refine d4 ?_ | refine k0 (he := (by first | exact k_impl_NumsOk _ _ _ _ hs hl hn)) (hk := ?_) | refine b0 (hk := ?_) | refine b1 (hk := ?_) | refine a5 (hk := ?_) | refine b5 (hk := ?_) | refine b7 (hk := ?_) | refine u5 (hk := ?_))
    exact rRun (h3 := get_own rfl) (hz := rfl) (hl := by simp) (ho := fun j hj => by rw [List.getElem?_append_left hj])
  | true =>
    have hno : (!numsOk ls ss nums) = false := by rw [hok]; rfl
    obtain ⟨h1, h2, h3⟩ := numsOk_in hok
    obtain ⟨p1, p2, p3, p4⟩ := progOk_in h1
    rw [RUNR, hok, show runOf ls ss nums = run ss ⟨nums, [], []⟩ by simp [runOf, hok]]
    rw [← h2] at p1 p3
    have hri := runs_in ss 3 ⟨nums, [], []⟩ p3 h3
    refine E_start (h := ?_)
    repeat' (first | refine c0 ?_ | refine c7 ?_ | refine d2 ?_ | refine d0 ?_ | refine d4 ?_ | refine k0 (he := (by first | exact k_impl_NumsOk _ _ _ _ hs hl hn)) (hk := ?_) | refine b0 (hk := ?_) | refine b1 (hk := ?_) | refine a5 (hk := ?_) | refine b5 (hk := ?_) | refine u6 (hk := ?_))
    refine kX (he := k_impl_cloneInts nums _ hn) (hk := ?_)
    rintro c1 S2 ⟨J, hJ, hC, hle⟩
    have f0 : S2[S.length + 0]? = some (.cells false [[LS ls, .lst ss.rows]]) := by
      rw [hJ]; exact get_old (get_own rfl)
    have f1 : S2[S.length + 1]? = some (.cells false [[.nils, .nils, .nils]]) := by
      rw [hJ]; exact get_old (get_own rfl)
    have hl2 : S.length + 2 ≤ S2.length := by rw [hJ]; simp <;> omega
    have hold : ∀ j, j < S.length → S2[j]? = S[j]? := fun j hj => by rw [hJ, List.getElem?_append_left (by simp; omega), List.getElem?_append_left hj]
    have hle' : ∀ k n, c1 = .sl k n → S.length + 2 ≤ k := fun k n hc => by have := hle k n hc; simpa using this
    clear hle hJ
    rw [← List.append_nil S2]
    rcases hC with ⟨rfl, hz⟩ | ⟨q, rfl, hq⟩
    · repeat' (first | refine c0 ?_ | refine c7 ?_ | refine d2 ?_ | refine d4 ?_ | refine b0 (hk := ?_) | refine a5 (hk := ?_) | refine b5 (hk := ?_) | refine b7 (hk := ?_))
      refine kX (he := k_impl_Run_do _ ss 3 ⟨nums, [], []⟩ .nils .nils .nils (S2.length + 0) _ (Nat.le_refl _) (by omega) p3 h3 (by simp only; omega) (by simp; omega) (by simp; omega) ⟨get_own rfl, ⟨.inl ⟨rfl, hz⟩, .inl ⟨rfl, rfl⟩, .inl ⟨rfl, rfl⟩, apa0, apa0, apa0⟩, by simp, by simp, by simp⟩) (hk := ?_)
      rintro v S3 ⟨rfl, c2, c3, hR, n2, n3, hle3, hF⟩
      have g0 : S3[S.length + 1]? = some (.cells false [[.nils, .nils, .nils]]) := by
        rw [hF _ (by simp; omega) (by omega) (by simp) (by simp) (by simp)]
        exact get_old f1
      have g1 := hR.box
      obtain ⟨S4, z1, z2, z3⟩ := hR.run.frz (n0 := 0) (fun _ _ _ => Nat.zero_le _) (fun _ _ _ => Nat.zero_le _) (fun _ _ _ => Nat.zero_le _)
      have w2 : ∀ k n, c2 = .sl k n → S2.length ≤ k := fun k n hc => by
        rcases n2 k n hc with ⟨m, hm⟩ | hm
        · cases hm
        · simp at hm; omega
      have w3 : ∀ k n, c3 = .sl k n → S2.length ≤ k := fun k n hc => by
        rcases n3 k n hc with ⟨m, hm⟩ | hm
        · cases hm
        · simp at hm; omega
      have g2 : S4[S.length + 1]? = some (.cells false [[.nils, .nils, .nils]]) := by
        rw [z3 _ (by simp) (fun n hc => by have := w2 _ n hc; omega) (fun n hc => by have := w3 _ n hc; omega), g0]
      rw [← List.append_nil S3]
      repeat' (first | refine c0 ?_ | refine c7 ?_ | refine d2 ?_ | refine d4 ?_ | refine b5 (hk := ?_))
      refine kZ (ha := by rw [List.append_nil]; exact fmS z1 fm0) (he := k_impl_Run_clone (run ss ⟨nums, [], []⟩) S4 (by simp at hri; omega) (by simp at hri; omega) (by simp at hri; omega)) (hk := ?_)
      rw [← List.append_nil S4]
      repeat' (first | refine c0 ?_ | refine c9 ?_ | refine d4 ?_ | refine a5 (hk := ?_) | refine b7 (hk := ?_))
      refine rRun (h3 := get_old (setE g2)) (hz := rfl) (hl := by simp at hle3 z2; simp; omega) (ho := fun j hj => ?_)
      rw [List.append_nil, List.getElem?_set_ne (by omega), z3 _ (by simp) (fun n hc => by have := w2 _ n hc; omega) (fun n hc => by have := w3 _ n hc; omega), hF j (by simp; omega) (by omega) (by simp) (by simp) (by simp), List.getElem?_append_left (by omega), hold j hj]
    · have hq2 := hle' _ _ rfl
      have hql : q < S2.length := (List.getElem?_eq_some_iff.1 hq).1
      repeat' (first | refine c0 ?_ | refine c7 ?_ | refine d2 ?_ | refine d4 ?_ | refine b0 (hk := ?_) | refine a5 (hk := ?_) | refine b5 (hk := ?_) | refine b7 (hk := ?_))
      refine kX (he := k_impl_Run_do _ ss 3 ⟨nums, [], []⟩ (.sl q (nums.map irow).length) .nils .nils (S2.length + 0) _ (Nat.le_refl _) (by omega) p3 h3 (by simp only; omega) (by simp; omega) (by simp; omega) ⟨get_own rfl, ⟨.inr ⟨q, rfl, get_old hq⟩, .inl ⟨rfl, rfl⟩, .inl ⟨rfl, rfl⟩, apaN, apaN, apa0⟩, fun a b hc => by cases hc; omega, by simp, by simp⟩) (hk := ?_)
      rintro v S3 ⟨rfl, c2, c3, hR, n2, n3, hle3, hF⟩
      have g0 : S3[S.length + 1]? = some (.cells false [[.nils, .nils, .nils]]) := by
        rw [hF _ (by simp; omega) (by omega) (fun n hc => by cases hc; omega) (by simp) (by simp)]
        exact get_old f1
      have g1 := hR.box
      obtain ⟨S4, z1, z2, z3⟩ := hR.run.frz (n0 := 0) (fun _ _ _ => Nat.zero_le _) (fun _ _ _ => Nat.zero_le _) (fun _ _ _ => Nat.zero_le _)
      have w2 : ∀ k n, c2 = .sl k n → S2.length ≤ k := fun k n hc => by
        rcases n2 k n hc with ⟨m, hm⟩ | hm
        · cases hm
        · simp at hm; omega
      have w3 : ∀ k n, c3 = .sl k n → S2.length ≤ k := fun k n hc => by
        rcases n3 k n hc with ⟨m, hm⟩ | hm
        · cases hm
        · simp at hm; omega
      have g2 : S4[S.length + 1]? = some (.cells false [[.nils, .nils, .nils]]) := by
        rw [z3 _ (fun n hc => by cases hc; omega) (fun n hc => by have := w2 _ n hc; omega) (fun n hc => by have := w3 _ n hc; omega), g0]
      rw [← List.append_nil S3]
      repeat' (first | refine c0 ?_ | refine c7 ?_ | refine d2 ?_ | refine d4 ?_ | refine b5 (hk := ?_))
      refine kZ (ha := by rw [List.append_nil]; exact fmS z1 fm0) (he := k_impl_Run_clone (run ss ⟨nums, [], []⟩) S4 (by simp at hri; omega) (by simp at hri; omega) (by simp at hri; omega)) (hk := ?_)
      rw [← List.append_nil S4]
      repeat' (first | refine c0 ?_ | refine c9 ?_ | refine d4 ?_ | refine a5 (hk := ?_) | refine b7 (hk := ?_))
      refine rRun (h3 := get_old (setE g2)) (hz := rfl) (hl := by simp at hle3 z2; simp; omega) (ho := fun j hj => ?_)
      rw [List.append_nil, List.getElem?_set_ne (by omega), z3 _ (fun n hc => by cases hc; omega) (fun n hc => by have := w2 _ n hc; omega) (fun n hc => by have := w3 _ n hc; omega), hF j (by simp; omega) (by omega) (fun n hc => by cases hc; omega) (by simp) (by simp), List.getElem?_append_left (by omega), hold j hj]
end Go.Proofs.X
end
section
namespace Go.Proofs.X
open Go Go.Proofs.XVai Go.Proofs Go.Proofs.XN
set_option linter.unusedVariables false
set_option linter.unusedSimpArgs false
set_option maxHeartbeats 40000000
set_option maxRecDepth 100000

theorem k_Index0 (v : Int) (S : St) : Ev Y slices_Index_int [L [], I v] S (I (-1)) S := by
  refine E_start (h := ?_)
  repeat' (first | refine c0 ?_ | refine c2 ?_ | refine c5 ?_ | refine c7 ?_ | refine d2 ?_ | refine c8 ?_ | refine c9 ?_ | refine d1 ?_ | refine d4 ?_ | refine d5 ?_ | refine a5 (hk := ?_) | refine d7 (hf := ?_))
  exact rI (hv := rfl)
theorem k_Index1 (S : St) : Ev Y slices_Index_int [L [1], I 2] S (I (-1)) S := by
  refine E_start (h := ?_)
  repeat' (first | refine c0 ?_ | refine c2 ?_ | refine c3 ?_ | refine c5 ?_ | refine c7 ?_ | refine d2 ?_ | refine c8 ?_ | refine c9 ?_ | refine d0 ?_ | refine d1 ?_ | refine d4 ?_ | refine d5 ?_ | refine a5 (hk := ?_) | refine d6 (ht := ?_) | refine d7 (hf := ?_))
  exact rI (hv := rfl)
theorem k_Index2 (S : St) : Ev Y slices_Index_int [L [1, 2], I 0] S (I (-1)) S := by
  refine E_start (h := ?_)
  repeat' (first | refine c0 ?_ | refine c2 ?_ | refine c3 ?_ | refine c5 ?_ | refine c7 ?_ | refine d2 ?_ | refine c8 ?_ | refine c9 ?_ | refine d0 ?_ | refine d1 ?_ | refine d4 ?_ | refine d5 ?_ | refine a5 (hk := ?_) | refine d6 (ht := ?_) | refine d7 (hf := ?_))
  exact rI (hv := rfl)
theorem k_Contains0 (S : St) : Ev Y slices_Contains_int [L [], I 1] S (.bool false) S := by
  refine E_start (h := ?_)
  repeat' (first | refine c0 ?_ | refine c7 ?_ | refine d2 ?_ | refine c9 ?_ | refine d4 ?_ | refine k0 (he := (by first | exact k_Index0 _ _)) (hk := ?_) | refine a5 (hk := ?_))
  exact rB (hv := rfl)
theorem k_Contains1 (S : St) : Ev Y slices_Contains_int [L [1], I 2] S (.bool false) S := by
  refine E_start (h := ?_)
  repeat' (first | refine c0 ?_ | refine c7 ?_ | refine d2 ?_ | refine c9 ?_ | refine d4 ?_ | refine k0 (he := (by first | exact k_Index1 _)) (hk := ?_) | refine a5 (hk := ?_))
  exact rB (hv := rfl)
theorem k_Contains2 (S : St) : Ev Y slices_Contains_int [L [1, 2], I 0] S (.bool false) S := by
  refine E_start (h := ?_)
  repeat' (first | refine c0 ?_ | refine c7 ?_ | refine d2 ?_ | refine c9 ?_ | refine d4 ?_ | refine k0 (he := (by first | exact k_Index2 _)) (hk := ?_) | refine a5 (hk := ?_))
  exact rB (hv := rfl)
theorem in3 (a : Int) (h : 0 ≤ a ∧ a ≤ 2) (S : St) : Ev Y impl_in [I a, I 0, I 2] S (.bool true) S := by
  have := k_impl_in a 0 2 S
  rwa [show inB a 0 2 = true by simpa [inB] using h] at this
theorem k_impl_isRow (S : St) : Ev Y impl_isRow [L [1, 2, 0], I 3] S (.bool true) S := by
  refine E_start (h := ?_)
  repeat' (first | refine c0 ?_ | refine c2 ?_ | refine c3 ?_ | refine c5 ?_ | refine c7 ?_ | refine d2 ?_ | refine c8 ?_ | refine c9 ?_ | refine d0 ?_ | refine d1 ?_ | refine d4 ?_ | refine d5 ?_ | refine k0 (he := (by first | exact in3 _ (by decide) _ | exact k_Contains0 _ | exact k_Contains1 _ | exact k_Contains2 _)) (hk := ?_) | refine a2 (hk := ?_) | refine a5 (hk := ?_) | refine d6 (ht := ?_) | refine d7 (hf := ?_))
  exact rB (hv := rfl)
theorem k_impl_turned (s : Int) (S : St) (hs : setB s = true) : Ev Y impl_turned [I s, L [1, 2, 0]] S (I (turnG s)) S := by
  have hh : ∀ i S, Ev Y impl_has [I s, I i] S (.bool (hasG s i)) S := fun i S => by
    rw [← has_eq hs i]
    exact k_impl_has s i S
  have e : turnG s = (if hasG s 2 then 1 else 0) + (if hasG s 0 then 2 else 0) + (if hasG s 1 then 4 else 0) := rfl
  rw [e]
  have q0 := hh 0
  have q1 := hh 1
  have q2 := hh 2
  clear hh e
  generalize hasG s 0 = x0 at *
  generalize hasG s 1 = x1 at *
  generalize hasG s 2 = x2 at *
  cases x0 <;> cases x1 <;> cases x2
  all_goals refine E_start (h := ?_)
  · repeat' (first | refine c0 ?_ | refine c2 ?_ | refine c3 ?_ | refine c5 ?_ | refine c7 ?_ | refine d2 ?_ | refine c8 ?_ | refine c9 ?_ | refine d0 ?_ | refine d1 ?_ | refine d4 ?_ | refine d5 ?_ | refine k0 (he := (by first | exact q0 _ | exact q1 _ | exact q2 _)) (hk := ?_) | refine a5 (hk := ?_) | refine d6 (ht := ?_) | refine d7 (hf := ?_))
    exact rI (hv := rfl)
  · repeat' (first | refine c0 ?_ | refine c2 ?_ | refine c3 ?_ | refine c5 ?_ | refine c7 ?_ | refine d2 ?_ | refine c8 ?_ | refine c9 ?_ | refine d0 ?_ | refine d1 ?_ | refine d4 ?_ | refine d5 ?_ | refine k0 (he := (by first | exact q0 _ | exact q1 _ | exact q2 _)) (hk := ?_) | refine a5 (hk := ?_) | refine d6 (ht := ?_) | refine d7 (hf := ?_))
    exact rI (hv := rfl)
  · repeat' (first | refine c0 ?_ | refine c2 ?_ | refine c3 ?_ | refine c5 ?_ | refine c7 ?_ | refine d2 ?_ | refine c8 ?_ | refine c9 ?_ | refine d0 ?_ | refine d1 ?_ | refine d4 ?_ | refine d5 ?_ | refine k0 (he := (by first | exact q0 _ | exact q1 _ | exact q2 _)) (hk := ?_) | refine a5 (hk := ?_) | refine d6 (ht := ?_) | refine d7 (hf := ?_))
    exact rI (hv := rfl)
  · repeat' (first | refine c0 ?_ | refine c2 ?_ | refine c3 ?_ | refine c5 ?_ | refine c7 ?_ | refine d2 ?_ | refine c8 ?_ | refine c9 ?_ | refine d0 ?_ | refine d1 ?_ | refine d4 ?_ | refine d5 ?_ | refine k0 (he := (by first | exact q0 _ | exact q1 _ | exact q2 _)) (hk := ?_) | refine a5 (hk := ?_) | refine d6 (ht := ?_) | refine d7 (hf := ?_))
    exact rI (hv := rfl)
  · repeat' (first | refine c0 ?_ | refine c2 ?_ | refine c3 ?_ | refine c5 ?_ | refine c7 ?_ | refine d2 ?_ | refine c8 ?_ | refine c9 ?_ | refine d0 ?_ | refine d1 ?_ | refine d4 ?_ | refine d5 ?_ | refine k0 (he := (by first | exact q0 _ | exact q1 _ | exact q2 _)) (hk := ?_) | refine a5 (hk := ?_) | refine d6 (ht := ?_) | refine d7 (hf := ?_))
    exact rI (hv := rfl)
  · repeat' (first | refine c0 ?_ | refine c2 ?_ | refine c3 ?_ | refine c5 ?_ | refine c7 ?_ | refine d2 ?_ | refine c8 ?_ | refine c9 ?_ | refine d0 ?_ | refine d1 ?_ | refine d4 ?_ | refine d5 ?_ | refine k0 (he := (by first | exact q0 _ | exact q1 _ | exact q2 _)) (hk := ?_) | refine a5 (hk := ?_) | refine d6 (ht := ?_) | refine d7 (hf := ?_))
    exact rI (hv := rfl)
  · repeat' (first | refine c0 ?_ | refine c2 ?_ | refine c3 ?_ | refine c5 ?_ | refine c7 ?_ | refine d2 ?_ | refine c8 ?_ | refine c9 ?_ | refine d0 ?_ | refine d1 ?_ | refine d4 ?_ | refine d5 ?_ | refine k0 (he := (by first | exact q0 _ | exact q1 _ | exact q2 _)) (hk := ?_) | refine a5 (hk := ?_) | refine d6 (ht := ?_) | refine d7 (hf := ?_))
    exact rI (hv := rfl)
  · repeat' (first | refine c0 ?_ | refine c2 ?_ | refine c3 ?_ | refine c5 ?_ | refine c7 ?_ | refine d2 ?_ | refine c8 ?_ | refine c9 ?_ | refine d0 ?_ | refine d1 ?_ | refine d4 ?_ | refine d5 ?_ | refine k0 (he := (by first | exact q0 _ | exact q1 _ | exact q2 _)) (hk := ?_) | refine a5 (hk := ?_) | refine d6 (ht := ?_) | refine d7 (hf := ?_))
    exact rI (hv := rfl)
/-! ### steps in rows of one's own -/
/-- The rows of steps, and below them rows of one's own, all from lo to hi. -/
def Tr (S : St) : Nat → Nat → Stps → List (List HV) → Prop
  | lo, hi, .nil, rows => rows = [] ∧ lo ≤ hi
  | lo, hi, .cons k v x h t e r, rows => ∃ (qt qe m1 m2 : Nat) (rt re rs : List (List HV)), rows = ([I k, I v, I x.kind, I x.a, I x.b, I h, .sl qt t.len, .sl qe e.len] : List HV) :: rs ∧
      (lo ≤ qt ∧ S[qt]? = some (.cells false rt) ∧ Tr S (qt + 1) m1 t rt) ∧ (m1 ≤ qe ∧ S[qe]? = some (.cells false re) ∧ Tr S (qe + 1) m2 e re) ∧ Tr S m2 hi r rs
def Node (S : St) (lo hi : Nat) (c : HV) (l : Stps) : Prop := ∃ q rows, c = .sl q l.len ∧ lo ≤ q ∧ S[q]? = some (.cells false rows) ∧ Tr S (q + 1) hi l rows
theorem Tr.le {S : St} : ∀ {lo hi : Nat} {l : Stps} {rows : List (List HV)}, Tr S lo hi l rows → lo ≤ hi
  | _, _, .nil, _, h => h.2
  | lo, hi, .cons k v x hh t e r, _, h => by
    obtain ⟨qt, qe, m1, m2, rt, re, rs, _, ⟨h1, _, h2⟩, ⟨h3, _, h4⟩, h5⟩ := h
    have := h2.le
    have := h4.le
    have := h5.le
    omega
theorem Tr.keep {S S' : St} : ∀ {lo hi : Nat} {l : Stps} {rows : List (List HV)}, Tr S lo hi l rows → (∀ j, lo ≤ j → j < hi → S'[j]? = S[j]?) → Tr S' lo hi l rows
  | _, _, .nil, _, h, _ => h
  | lo, hi, .cons k v x hh t e r, _, h, hf => by
    obtain ⟨qt, qe, m1, m2, rt, re, rs, h0, ⟨h1, g1, h2⟩, ⟨h3, g2, h4⟩, h5⟩ := h
    have l2 := h2.le
    have l4 := h4.le
    have l5 := h5.le
    exact ⟨qt, qe, m1, m2, rt, re, rs, h0, ⟨h1, by rw [hf _ (by omega) (by omega), g1], h2.keep fun j _ _ => hf j (by omega) (by omega)⟩, ⟨h3, by rw [hf _ (by omega) (by omega), g2], h4.keep fun j _ _ => hf j (by omega) (by omega)⟩, h5.keep fun j _ _ => hf j (by omega) (by omega)⟩
theorem Tr.wide {S : St} : ∀ {lo hi lo' hi' : Nat} {l : Stps} {rows : List (List HV)}, Tr S lo hi l rows → lo' ≤ lo → hi ≤ hi' → Tr S lo' hi' l rows
  | _, _, _, _, .nil, _, h, h1, h2 => ⟨h.1, by have := h.2; omega⟩
  | lo, hi, _, _, .cons k v x hh t e r, _, h, w1, w2 => by
    obtain ⟨qt, qe, m1, m2, rt, re, rs, h0, ⟨h1, g1, h2⟩, ⟨h3, g2, h4⟩, h5⟩ := h
    exact ⟨qt, qe, m1, m2, rt, re, rs, h0, ⟨by omega, g1, h2⟩, ⟨h3, g2, h4⟩, h5.wide (Nat.le_refl _) w2⟩
theorem Tr.len {S : St} : ∀ {lo hi : Nat} {l : Stps} {rows : List (List HV)}, Tr S lo hi l rows → rows.length = l.len
  | _, _, .nil, _, h => by rw [h.1]; rfl
  | lo, hi, .cons k v x hh t e r, _, h => by
    obtain ⟨qt, qe, m1, m2, rt, re, rs, rfl, _, _, h5⟩ := h
    simp [Stps.len, h5.len]
theorem Tr.eight {S : St} : ∀ {lo hi : Nat} {l : Stps} {rows : List (List HV)}, Tr S lo hi l rows → rows.all (fun r => r.length == 8) = true
  | _, _, .nil, _, h => by rw [h.1]; rfl
  | lo, hi, .cons k v x hh t e r, _, h => by
    obtain ⟨qt, qe, m1, m2, rt, re, rs, rfl, _, _, h5⟩ := h
    simp [h5.eight]
theorem Tr.app {S : St} : ∀ {lo m hi : Nat} {a b : Stps} {ra rb : List (List HV)}, Tr S lo m a ra → Tr S m hi b rb → Tr S lo hi (a.app b) (ra ++ rb)
  | lo, m, hi, .nil, b, _, _, ha, hb => by
    rw [ha.1]
    exact hb.wide ha.2 (Nat.le_refl _)
  | lo, m, hi, .cons k v x hh t e r, b, _, _, ha, hb => by
    obtain ⟨qt, qe, m1, m2, rt, re, rs, rfl, h1, h2, h5⟩ := ha
    exact ⟨qt, qe, m1, m2, rt, re, rs ++ _, rfl, h1, h2, h5.app hb⟩
section
variable {fid : Nat} {T : Tm} {S : St} {K : Tm → St → Prop} {ops : Array Oper} {l : List Oper} {dst : Option Tmp} {ty : TypeId} {pos : String} {after : Array Edge} {g0 : Option (Nat × Bool)}
/-- A slice of one value becomes a row of one's own. -/
theorem bs2 {t el : Nat} {x : Operand} {ti te : TI} {cs : List HV} (hg : wantG ops g0 T = true := by rfl) (h1 : Y.tab t = some ti := by rfl) (h2 : ti.sh = .slice el := by rfl) (h3 : Y.tab el = some te := by rfl) (hm : Y.muta fid 1002 = true := by rfl) (hx : ev T x = .agg cs := by rfl) (hl : cs.length = te.size := by rfl) (hz : 1 * te.size ≤ 16777216 := by decide)
    (hc : cs.all isCell = true := by rfl) (hk : OW Y fid ops none l (put T dst (.sl S.length 1)) (S ++ [.cells (!Y.muta fid 1000) [cs]]) K) : OW Y fid ops none (⟨dst, .buildSlice t 1 #[(0, x)], ty, pos, after, g0⟩ :: l) T S K := by
  refine ⟨A_op hg (v := .sl S.length 1) ?_ hk.of⟩
  have hz' : te.size ≤ 16777216 := by omega
  simp [cop, h1, h2, h3, fillS, hx, HV.cells, hl, hz', hm, hc]
end
theorem rowsOf_sl {S : St} {k n : Nat} {fr : Bool} {rows : List (List HV)} {x : HV} (hx : x = .sl k n) (h : S[k]? = some (.cells fr rows)) (hn : rows.length = n) : rowsOf S x = some rows := by
  subst hx
  simp [rowsOf, h, hn]
/-- A copy of steps in rows of one's own. -/
def Cloned (l : Stps) (S : St) (v : HV) (S' : St) : Prop := ∃ J, S' = S ++ J ∧ Node S' S.length S'.length v l
end Go.Proofs.X
end
section
namespace Go.Proofs.X
open Go Go.Proofs.XVai Go.Proofs Go.Proofs.XN
set_option linter.unusedVariables false
set_option linter.unusedSimpArgs false
set_option maxHeartbeats 4000000
set_option maxRecDepth 100000

theorem len_app (S L : St) : (S ++ L).length = S.length + L.length := List.length_append
def newS (nums : List Int) : Sm := ⟨nums, [], [], [], [], [], [], [], false⟩
abbrev nrow (C : Cx) (n : Nat) (nn : Nat) (vc : HV) : List HV := [LS C.ls, .lst C.ss.rows, L [C.a, C.b, C.c], L C.hs, L C.ds, .lst C.ss.all.rows, L (nx C.ss 0), .sl nn n, .nils, .nils, vc, .nils, .nils, I C.bad, .bool false]
abbrev noC : Comp := ⟨.nils, false, []⟩
abbrev noT : Comp := ⟨.nils, true, []⟩
abbrev ncs (C : Cx) (nums : List Int) (k nn : Nat) (vc : HV) (rows : List (List HV)) (x y z : Comp) : List Comp := [⟨.sl k 1, false, [nrow C nums.length nn vc]⟩, ⟨vc, false, rows⟩, ⟨.sl nn nums.length, false, nums.map irow⟩, noT, noT, x, y, z, noT, noC]
theorem own_nil {S : St} : Own S [noC, noC, noC, noT, noT, noC, noC, noC, noT, noC] := by
  constructor
  · intro x hx
    simp only [List.mem_cons, List.not_mem_nil, or_false] at hx
    rcases hx with rfl | rfl | rfl | rfl | rfl | rfl | rfl | rfl | rfl | rfl <;> exact .inl ⟨rfl, rfl⟩
  · rw [List.pairwise_iff_getElem]
    intro i j hi hj hij k n k' n' h1 h2
    have : ∀ x ∈ [noC, noC, noC, noT, noT, noC, noC, noC, noT, noC], x.c = .nils := by
      intro x hx
      simp only [List.mem_cons, List.not_mem_nil, or_false] at hx
      rcases hx with rfl | rfl | rfl | rfl | rfl | rfl | rfl | rfl | rfl | rfl <;> rfl
    rw [this _ (List.getElem_mem hi)] at h1
    cases h1
theorem Gd.add {S0 S : St} {c0 : List HV} {cs : List Comp} (h : Gd S0 c0 S cs) (i : Nat) {q n : Nat} {fr : Bool} {rows rows2 : List (List HV)} (hq : S0.length ≤ q) (hm : ∀ n, HV.sl q n ∉ cs.map Comp.c) (hS : S[q]? = some (.cells fr rows2)) (hr : rows2 = rows) (hn : n = rows.length) :
    Gd S0 c0 S (cs.set i ⟨.sl q n, fr, rows⟩) := by
  subst hr
  refine ⟨h.own.put i (.inr ⟨q, by rw [hn], hS⟩) ?_ (fun j y _ hy q' n1 e => rfl), h.fo.le, h.fo.fr, fun j n1 hj => ?_⟩
  · rintro q' n1 e j n2 hj y hy e2
    cases e
    exact hm n2 (List.mem_map.2 ⟨y, List.mem_of_getElem? hy, e2⟩)
  · rw [map_set_c] at hj
    rcases List.mem_or_eq_of_mem_set hj with hj | hj
    · exact h.fo.nw j _ hj
    · cases hj
      exact .inl hq
theorem k_spec_l22New (C : Cx) (nums : List Int) (S : St) (P : Pk C) (hn : nums.length = C.ls.length) :
    EvR Y spec_l22New [PR C.ls C.ss, PL [C.a, C.b, C.c] C.hs C.ds, L nums, I C.bad] S (fun v S' => ∃ k c, v = .ptr k 1 0 0 ∧ Gd S [] S' (comps C k (newS nums) c)) := by
  have h8 := P.sz
  have h4 := P.ll
  have hz1 : (nums.map irow).all (fun r => r.length == 1 && r.all isCell) = true := by simp [isCell]
  refine E_startR (h := ?_)
  repeat' (first | refine c0 ?_ | refine c7 ?_ | refine d2 ?_ | refine c8 ?_ | refine d4 ?_ | refine d3' (h := ?_) | refine d4' ?_ | refine k0' (he := (by first | exact k_spec_l2All' _ _ (by omega) | exact k_spec_l22Next0 _ 0 _ (by omega))) (hk := ?_) | refine k3' (he := (by first | exact k_spec_l2All' _ _ (by omega) | exact k_spec_l22Next0 _ 0 _ (by omega))) (hk := ?_) | refine b1 (hk := ?_) | refine b4 (hk := ?_) | refine a5 (hk := ?_) | refine b7 (hk := ?_) | refine p0 (hk := ?_) | refine b1' (hk := ?_) | refine b4' (hk := ?_) | refine b7b (hk := ?_) | refine e5' (hk := ?_) | refine f5' (hk := ?_))
  refine C_loop (fun r T' S' => ∃ (T0 : Tm) (S1 : St) (k nn : Nat) (i : Nat), i + r = 3 ∧
      ((i = 0 ∧ Gd S [] S1 (ncs C nums k nn .nils [] noC noC noC)) ∨ 
       (i = 1 ∧ ∃ q x, Gd S [] S1 (ncs C nums k nn (.sl q 1) [[.sl x 0]] ⟨.sl x 0, false, []⟩ noC noC)) ∨ 
       (i = 2 ∧ ∃ q x y, Gd S [] S1 (ncs C nums k nn (.sl q 2) [[.sl x 0], [.sl y 0]] ⟨.sl x 0, false, []⟩ ⟨.sl y 0, false, []⟩ noC)) ∨ 
       (i = 3 ∧ ∃ q x y z, Gd S [] S1 (ncs C nums k nn (.sl q 3) [[.sl x 0], [.sl y 0], [.sl z 0]] ⟨.sl x 0, false, []⟩ ⟨.sl y 0, false, []⟩ ⟨.sl z 0, false, []⟩))) ∧
      T' = putL T0 [(9, .ptr k 1 0 0), (10, I i)] ∧ S' = S1 ++ []) 3
    ⟨_, _, S.length + 13, S.length + 15, 0, rfl, .inl ⟨rfl, ?_⟩, at_mk ⟨rfl, rfl, trivial⟩, (List.append_nil _).symm⟩ ?_
  · have h0 : Gd S [] S [noC, noC, noC, noT, noT, noC, noC, noC, noT, noC] := ⟨own_nil, Nat.le_refl _, fun _ _ _ => rfl, fun j n hm => by simp at hm⟩
    exact ((h0.app.add 0 (q := S.length + 13) (n := 1) (rows := [nrow C nums.length (S.length + 15) .nils]) (Nat.le_add_right _ _) (fun n hm => by simp at hm) (get_own rfl) (show [nrow C (0 + (nums.map irow).length) (S.length + 15) .nils] = _ by simp) rfl).add 2 (q := S.length + 15) (n := nums.length) (rows := nums.map irow) (Nat.le_add_right _ _) (fun n hm => by simp at hm) (get_own rfl) rfl (by simp))
  · rintro r T' S' ⟨T0, S1, k, nn, i, hi, hJ, rfl, rfl⟩
    rcases hJ with ⟨rfl, hG⟩ | ⟨rfl, q, x, hG⟩ | ⟨rfl, q, x, y, hG⟩ | ⟨rfl, q, x, y, z, hG⟩
    · have fB := Own.get hG.own 0 rfl
      have hkl := (List.getElem?_eq_some_iff.1 fB).1
      repeat' (first | refine c0 ?_ | refine c7 ?_ | refine d2 ?_ | refine c8 ?_ | refine d0 ?_ | refine d4 ?_ | refine b4 (hk := ?_) | refine a5 (hk := ?_) | refine b5 (hk := ?_) | refine d6 (ht := ?_))
      rw [len_app S1, List.append_assoc S1]
      refine p1 (hr := rowsOf_sl rfl (get_own rfl) rfl) (hl := by show 1 ≤ lim; decide) (hk := ?_)
      repeat' (first | refine c0 ?_ | refine c3 ?_ | refine d2 ?_ | refine d4 ?_ | refine a5 (hk := ?_) | refine b7 (hk := ?_))
      have hle := hG.fo.le
      refine ⟨2, by omega, _, _, k, nn, 1, by omega, .inr (.inl ⟨rfl, S1.length + 2, S1.length + 0, ?_⟩), at_mk ⟨rfl, rfl, trivial⟩, (List.append_nil _).symm⟩
      exact ((hG.updE 0 (rows' := [nrow C nums.length nn (.sl (S1.length + 2) 1)]) (n' := 1) rfl rfl rfl).newE 5 (j := 0) (q := S1.length + 0) (n := 0) (rows := []) rfl (by simp) rfl rfl).add 1 (q := S1.length + 2) (n := 1) (rows := [[.sl (S1.length + 0) 0]]) (by omega)
        (own_nb (i := 5) hG.own (x := .sl (S1.length + 0) 0) (Nat.le_add_right _ _) fun n e => by injection e; omega) (get_ownL (by simp) rfl) rfl rfl
    · have fB := Own.get hG.own 0 rfl
      have fQ := Own.get hG.own 1 rfl
      have hkl := (List.getElem?_eq_some_iff.1 fB).1
      have hql := (List.getElem?_eq_some_iff.1 fQ).1
      have n1 : k ≠ q := Own.ne hG.own 0 1 rfl rfl
      have n1' := Ne.symm n1
      repeat' (first | refine c0 ?_ | refine c7 ?_ | refine d2 ?_ | refine c8 ?_ | refine d0 ?_ | refine d4 ?_ | refine b4 (hk := ?_) | refine a5 (hk := ?_) | refine b5 (hk := ?_) | refine d6 (ht := ?_))
      rw [len_app S1, List.append_assoc S1]
      refine p0 (hr := rowsOf_sl rfl (get_own rfl) rfl) (hl := by show 2 ≤ lim; decide) (hk := ?_)
      repeat' (first | refine c0 ?_ | refine c3 ?_ | refine d2 ?_ | refine d4 ?_ | refine a5 (hk := ?_) | refine b7 (hk := ?_))
      refine ⟨1, by omega, _, _, k, nn, 2, by omega, .inr (.inr (.inl ⟨rfl, q, x, S1.length + 0, ?_⟩)), at_mk ⟨rfl, rfl, trivial⟩, (List.append_nil _).symm⟩
      exact ((hG.updE 1 (rows' := [[.sl x 0], [.sl (S1.length + 0) 0]]) (n' := 2) rfl rfl rfl).updE 0 (rows' := [nrow C nums.length nn (.sl q 2)]) (n' := 1) rfl rfl rfl).newE 6 (j := 0) (q := S1.length + 0) (n := 0) (rows := []) rfl (by simp) rfl rfl
    · have fB := Own.get hG.own 0 rfl
      have fQ := Own.get hG.own 1 rfl
      have hkl := (List.getElem?_eq_some_iff.1 fB).1
      have hql := (List.getElem?_eq_some_iff.1 fQ).1
      have n1 : k ≠ q := Own.ne hG.own 0 1 rfl rfl
      have n1' := Ne.symm n1
      repeat' (first | refine c0 ?_ | refine c7 ?_ | refine d2 ?_ | refine c8 ?_ | refine d0 ?_ | refine d4 ?_ | refine b4 (hk := ?_) | refine a5 (hk := ?_) | refine b5 (hk := ?_) | refine d6 (ht := ?_))
      rw [len_app S1, List.append_assoc S1]
      refine p0 (hr := rowsOf_sl rfl (get_own rfl) rfl) (hl := by show 3 ≤ lim; decide) (hk := ?_)
      repeat' (first | refine c0 ?_ | refine c3 ?_ | refine d2 ?_ | refine d4 ?_ | refine a5 (hk := ?_) | refine b7 (hk := ?_))
      refine ⟨0, by omega, _, _, k, nn, 3, by omega, .inr (.inr (.inr ⟨rfl, q, x, y, S1.length + 0, ?_⟩)), at_mk ⟨rfl, rfl, trivial⟩, (List.append_nil _).symm⟩
      exact ((hG.updE 1 (rows' := [[.sl x 0], [.sl y 0], [.sl (S1.length + 0) 0]]) (n' := 3) rfl rfl rfl).updE 0 (rows' := [nrow C nums.length nn (.sl q 3)]) (n' := 1) rfl rfl rfl).newE 7 (j := 0) (q := S1.length + 0) (n := 0) (rows := []) rfl (by simp) rfl rfl
    · have fB := Own.get hG.own 0 rfl
      have hkl := (List.getElem?_eq_some_iff.1 fB).1
      repeat' (first | refine c0 ?_ | refine c2 ?_ | refine c5 ?_ | refine c7 ?_ | refine d2 ?_ | refine c9 ?_ | refine d1 ?_ | refine d4 ?_ | refine a5 (hk := ?_) | refine d7 (hf := ?_))
      exact ⟨_, _, rKeep, k, ⟨nn, .nils, .nils, q, x, y, z, .nils, .nils⟩, rfl, hG.app⟩
end Go.Proofs.X
end
section
namespace Go.Proofs.X
open Go Go.Proofs.XVai Go.Proofs Go.Proofs.XN
set_option linter.unusedVariables false
set_option linter.unusedSimpArgs false
set_option maxHeartbeats 4000000
set_option maxRecDepth 100000

theorem doesAt_in {ls : List Lab} {ss : Stps} {a b c : Int} {homes does : List Int} : ∀ (m n : Nat), doesAt ls ss a b c homes does n m = true → ∀ i, n ≤ i → i < n + m → inB (nget does i) 0 2 = true
  | 0, n, _, i, h1, h2 => by omega
  | m + 1, n, h, i, h1, h2 => by
    simp only [doesAt, Bool.and_eq_true] at h
    by_cases e : i = n
    · subst e; exact h.1.1
    · exact doesAt_in m (n + 1) h.2 i (by omega) (by omega)
theorem pk_of {ls : List Lab} {ss : Stps} {ts hs ds : List Int} (bad : Int) (h : planOk ls ss ts hs ds = true) : ∃ a b c, ts = [a, b, c] ∧ Pk ⟨ls, ss, a, b, c, hs, ds, bad⟩ := by
  simp only [planOk, Bool.and_eq_true, beq_iff_eq] at h
  obtain ⟨⟨⟨⟨y1, y2⟩, y3⟩, y4⟩, y5⟩ := h
  obtain ⟨a, b, c, rfl⟩ := trOk_in y2
  have hok := typeOk_prog y1
  simp only [Bool.and_eq_true] at y5
  refine ⟨a, b, c, rfl, hok, y3, by simp only [progSize, hok, if_true] at y4; simp only; omega, fun n hn => ?_⟩
  have := doesAt_in _ _ y5.2 n (by omega) (by simp only at hn; omega)
  simp only [inB, decide_eq_true_eq] at this
  simp only
  exact ⟨(nget ds n).toNat, by omega, by omega⟩
theorem new_iv {C : Cx} {nums : List Int} (h : numsOk C.ls C.ss nums = true) : Iv C (newS nums) 0 := by
  simp only [numsOk, Bool.and_eq_true, beq_iff_eq, List.all_eq_true, inB, decide_eq_true_eq] at h
  exact ⟨h.1.2, fun n hn => h.2 n hn, fun x hx => by simp [newS] at hx, fun x hx => by simp [newS] at hx, by simp [newS], by simp [newS], by simp [newS], by simp [newS], by simp [newS], by simp [newS], by simp [newS], by simp [newS]⟩
theorem start_iv {C : Cx} (P : Pk C) {m : Sm} {N : Nat} (h : Iv C m N) : Iv C (startS C m) (N + 2) := by
  unfold startS
  split
  · exact (ended_iv h).mono (by omega)
  · next h0 => exact pass_iv P h (n := 0) (by omega) (by omega) (by omega)
/-- What came of it, as it is handed on. -/
abbrev PTm (m : Sm) : HV := PT m.nums (m.ws.map wrow) (m.ss.map wrow) [m.v0, m.v1, m.v2] m.ended
theorem fz_slG {n0 d : Nat} {S : St} {k n : Nat} {rows : List (List HV)} (hk : n0 ≤ k) (h1 : S[k]? = some (.cells false rows)) (hn : rows.length = n) (hp : rows.all (fun r => r.all pureC) = true) : frzC n0 (d + 1) (.sl k n) S = some (.lst rows, S.set k (.cells true rows)) := by
  have hm : mapMS (mapMS (frzC n0 d)) rows S = some (rows, S) := mapMS_same fun r hr => mapMS_same fun c hc => frzC_pure (List.all_eq_true.1 (List.all_eq_true.1 hp r hr) c hc)
  simp only [frzC]
  rw [if_neg (by omega), h1]
  simp only [hn, if_true, hm, hp]
  rfl
theorem fz_three {n0 q a b d la lb ld : Nat} {S : St} {ra rb rd : List (List HV)} (hq : n0 ≤ q) (ha : n0 ≤ a) (hb : n0 ≤ b) (hd : n0 ≤ d) (gq : S[q]? = some (.cells false [[.sl a la], [.sl b lb], [.sl d ld]])) (ga : S[a]? = some (.cells false ra)) (gb : S[b]? = some (.cells false rb)) (gd : S[d]? = some (.cells false rd))
    (la' : ra.length = la) (lb' : rb.length = lb) (ld' : rd.length = ld) (pa : ra.all (fun r => r.all pureC) = true) (pb : rb.all (fun r => r.all pureC) = true) (pd : rd.all (fun r => r.all pureC) = true) (ab : a ≠ b) (ad : a ≠ d) (bd : b ≠ d) :
    ∃ S2, frzC n0 6 (.sl q 3) S = some (.lst [[.lst ra], [.lst rb], [.lst rd]], S2) ∧ S2.length = S.length ∧ ∀ j, j < n0 → S2[j]? = S[j]? := by
  have hm : mapMS (mapMS (frzC n0 5)) [[HV.sl a la], [.sl b lb], [.sl d ld]] S = some ([[.lst ra], [.lst rb], [.lst rd]], ((S.set a (.cells true ra)).set b (.cells true rb)).set d (.cells true rd)) :=
    fm2 (fm2 (fz_slG ha ga la' pa) fm0) (fm2 (fm2 (fz_slG hb (by rw [List.getElem?_set_ne ab]; exact gb) lb' pb) fm0) (fm2 (fm2 (fz_slG hd (by rw [List.getElem?_set_ne bd, List.getElem?_set_ne ad]; exact gd) ld' pd) fm0) fm0))
  refine ⟨(((S.set a (.cells true ra)).set b (.cells true rb)).set d (.cells true rd)).set q (.cells true [[.sl a la], [.sl b lb], [.sl d ld]]), ?_, ?_, ?_⟩
  · simp only [frzC]
    rw [if_neg (by omega), gq]
    simp only [List.length_cons, List.length_nil, hm, if_true]
    rw [if_pos (by simp [pureC])]
    rfl
  · simp
  · intro j hj
    rw [List.getElem?_set_ne (by omega), List.getElem?_set_ne (by omega), List.getElem?_set_ne (by omega), List.getElem?_set_ne (by omega)]
theorem frz_sim {C : Cx} {S : St} {k n0 : Nat} {m : Sm} {c : Cs} (hS : Own S (comps C k m c)) (h0 : ∀ j n, HV.sl j n ∈ (comps C k m c).map Comp.c → n0 ≤ j) :
    ∃ S2, frzV n0 (.agg [.sl c.n m.nums.length, frc c.w, frc c.s, .sl c.q 3, .bool m.ended]) S = some (PTm m, S2) ∧ S2.length = S.length ∧ ∀ j, j < n0 → S2[j]? = S[j]? := by
  have hn : n0 ≤ c.n := h0 _ m.nums.length (by simp)
  have hq : n0 ≤ c.q := h0 _ 3 (by simp)
  have z0 : n0 ≤ c.v0 := h0 _ m.v0.length (by simp)
  have z1 : n0 ≤ c.v1 := h0 _ m.v1.length (by simp)
  have z2 : n0 ≤ c.v2 := h0 _ m.v2.length (by simp)
  have nq := Own.ne hS 2 1 rfl rfl
  have n0' := Own.ne hS 2 5 rfl rfl
  have n1' := Own.ne hS 2 6 rfl rfl
  have n2' := Own.ne hS 2 7 rfl rfl
  have gn := Own.get hS 2 rfl
  have hfr : ∀ (i : Nat) (x : HV) (ps : List (Int × Int)), (comps C k m c)[i]? = some ⟨x, true, ps.map wrow⟩ → i ≠ 2 → frzC n0 6 (frc x) (S.set c.n (.cells true (m.nums.map irow))) = some (.lst (ps.map wrow), S.set c.n (.cells true (m.nums.map irow))) := by
    intro i x ps hi h2
    have hc := Own.col hS i hi
    simp only at hc
    rcases hc with ⟨rfl, h⟩ | ⟨q, rfl, h⟩
    · rw [h]; rfl
    · have hne := Own.ne hS 2 i rfl hi (Ne.symm h2)
      have hge := h0 q (ps.map wrow).length (List.mem_map.2 ⟨_, List.mem_of_getElem? hi, rfl⟩)
      exact fz_sl rfl hge (by rw [List.getElem?_set_ne hne]; exact h) rfl (by simp [pureC])
  obtain ⟨S2, e1, e2, e3⟩ := fz_three (n0 := n0) (S := S.set c.n (.cells true (m.nums.map irow))) (q := c.q) (a := c.v0) (b := c.v1) (d := c.v2) hq z0 z1 z2 (by rw [List.getElem?_set_ne nq]; exact Own.get hS 1 rfl) (by rw [List.getElem?_set_ne n0']; exact Own.get hS 5 rfl) (by rw [List.getElem?_set_ne n1']; exact Own.get hS 6 rfl) (by rw [List.getElem?_set_ne n2']; exact Own.get hS 7 rfl)
    (by simp) (by simp) (by simp) (wd_pure _) (wd_pure _) (wd_pure _) (Own.ne hS 5 6 rfl rfl) (Own.ne hS 5 7 rfl rfl) (Own.ne hS 6 7 rfl rfl)
  refine ⟨S2, ?_, by simpa using e2, fun j hj => ?_⟩
  · exact fzV_agg2 rfl (fm2 (fz_slF rfl hn gn (by simp) (irow_pure _)) (fm2 (hfr 3 _ _ rfl (by decide)) (fm2 (hfr 4 _ _ rfl (by decide)) (fm2 e1 (fm2 rfl fm0)))))
  · rw [e3 j hj, List.getElem?_set_ne (by omega)]
theorem rSim {f : Nat} {fn : Func} {T' : Tm} {S0 S1 : St} {C : Cx} {k : Nat} {m : Sm} {c : Cs} (hO : Own S1 (comps C k m c)) (hkp : Y.keep f = false := by rfl) {a bt : Tmp} {t : TypeId} (hres : fn.results.toList = [.cell a t, .tmp bt] := by rfl) {ti : TI} (ht : Y.tab t = some ti := by rfl) {q : Nat} {fr : Bool} {row : List HV}
    (h2 : T' a = .ptr q 1 0 0 := by rfl) (h3 : S1[q]? = some (.cells fr [row])) (h6 : XVai.part ti.agg ti.size row 0 = some (.agg [.sl c.n m.nums.length, frc c.w, frc c.s, .sl c.q 3, .bool m.ended]) := by rfl) (hb : T' bt = .bool true := by rfl) (h0 : ∀ j n, HV.sl j n ∈ (comps C k m c).map Comp.c → S0.length ≤ j)
    (hl : S0.length ≤ S1.length) (ho : ∀ j, j < S0.length → S1[j]? = S0[j]?) : RT Y f fn S0 (.tup [PTm m, .bool true]) S0 .ret T' S1 := by
  obtain ⟨S2, x1, x2, x3⟩ := frz_sim hO h0
  exact rRun hkp hres ht h2 h3 rfl rfl h6 hb x1 rfl (by omega) fun j hj => by rw [x3 j hj, ho j hj]
/-- What comes of it, if it may begin. -/
def partRun (ls : List Lab) (ss : Stps) (ts hs ds nums : List Int) : Option Sm := if planOk ls ss ts hs ds && numsOk ls ss nums then (match ts with
  | [a, b, c] => some (restS ⟨ls, ss, a, b, c, hs, ds, 0⟩ (startS ⟨ls, ss, a, b, c, hs, ds, 0⟩ (newS nums)) 200)
  | _ => none) else none
abbrev PT0 : HV := PT [] [] [] [] false
def partV : Option Sm → HV
  | none => .tup [PT0, .bool false]
  | some m => .tup [PTm m, .bool true]
theorem k_spec_PartRun (ls : List Lab) (ss : Stps) (ts hs ds nums : List Int) (S : St) (h1 : ss.sz ≤ 1048576) (h2 : ls.length ≤ 1048576) (h3 : ts.length ≤ 1048576) (h4 : hs.length ≤ 1048576) (h5 : ds.length ≤ 1048576) (h6 : nums.length ≤ 1048576) :
    Ev Y spec_PartRun [PR ls ss, PL ts hs ds, L nums] S (partV (partRun ls ss ts hs ds nums)) S := by
  have ep := fun S => k_spec_PlanOk ls ss ts hs ds S h1 h2 h3 h4 h5
  have en := fun S => k_spec_NumsOk ls ss nums S h1 h2 h6
  unfold partRun
  cases q1 : planOk ls ss ts hs ds with
  | false =>
    simp only [q1] at ep
    simp only [Bool.false_and, Bool.false_eq_true, if_false]
    refine E_start (h := ?_)
    repeat' (first | refine c0 ?_ | refine c1 ?_ | refine c7 ?_ | refine d2 ?_ | refine c9 ?_ | refine d4 ?_ | refine a0 (hk := ?_) | refine k0 (he := (by first | exact ep _)) (hk := ?_) | refine b0 (hk := ?_) | refine b1 (hk := ?_) | refine a1 (hk := ?_) | refine a5 (hk := ?_) | refine b5 (hk := ?_) | refine b7 (hk := ?_) | refine d6 (ht := ?_))
    exact rRun (h3 := get_own rfl) (hz := rfl) (hl := by simp) (ho := fun j hj => List.getElem?_append_left hj)
  | true =>
    simp only [q1] at ep
    cases q2 : numsOk ls ss nums with
    | false =>
      simp only [q2] at en
      simp only [Bool.and_false, Bool.false_eq_true, if_false]
      refine E_start (h := ?_)
      repeat' (first | refine c0 ?_ | refine c1 ?_ | refine c7 ?_ | refine d2 ?_ | refine c9 ?_ | refine d4 ?_ | refine k0 (he := (by first | exact ep _ | exact en _)) (hk := ?_) | refine b0 (hk := ?_) | refine b1 (hk := ?_) | refine a2 (hk := ?_) | refine a5 (hk := ?_) | refine b5 (hk := ?_) | refine b7 (hk := ?_) | refine d6 (ht := ?_))
      exact rRun (h3 := get_own rfl) (hz := rfl) (hl := by simp) (ho := fun j hj => List.getElem?_append_left hj)
    | true =>
      simp only [q2] at en
      obtain ⟨a, b, c, rfl, P⟩ := pk_of 0 q1
      simp only [Bool.and_true, if_true]
      generalize hC : (⟨ls, ss, a, b, c, hs, ds, 0⟩ : Cx) = C at *
      have hI : Iv C (newS nums) 0 := new_iv (by subst hC; exact q2)
      have eN : ∀ S, EvR Y spec_l22New [PR ls ss, PL [a, b, c] hs ds, L nums, I 0] S (fun v S' => ∃ k c, v = .ptr k 1 0 0 ∧ Gd S [] S' (comps C k (newS nums) c)) := fun S => by
        subst hC
        exact k_spec_l22New ⟨ls, ss, a, b, c, hs, ds, 0⟩ nums S P hI.nl
      refine E_start (h := ?_)
      repeat' (first | refine c0 ?_ | refine c7 ?_ | refine d2 ?_ | refine d0 ?_ | refine d4 ?_ | refine k0 (he := (by first | exact ep _ | exact en _)) (hk := ?_) | refine b0 (hk := ?_) | refine b1 (hk := ?_) | refine a2 (hk := ?_) | refine a5 (hk := ?_) | refine b5 (hk := ?_) | refine d7 (hf := ?_))
      refine kX (he := eN _) (hk := ?_)
      rintro v S1 ⟨k, cc, rfl, hG⟩
      rw [← List.append_nil S1]
      repeat' (first | refine c0 ?_ | refine c7 ?_ | refine d2 ?_ | refine d4 ?_ | refine a5 (hk := ?_))
      refine kG (hG := hG.app) (he := fun hO => k_spec_start C k 0 (newS nums) cc _ P hI (by omega) hO) (hk := ?_)
      intro S2 cc2 _ hG2
      have hI2 := start_iv P hI
      repeat' (first | refine c0 ?_ | refine c7 ?_ | refine d2 ?_ | refine d4 ?_ | refine a5 (hk := ?_))
      refine kG (hG := hG2.app) (he := fun hO => k_spec_rest C k 2 (startS C (newS nums)) cc2 _ P hI2 (by omega) hO) (hk := ?_)
      intro S3 cc3 _ hG3
      have hI3 := rest_iv P 200 _ _ hI2
      have f6 := (hG3.fo.fr (S.length + 2) (by simp) (fun n => by simp)).trans (get_own rfl)
      have hS3 : ∀ j, j < S.length → S3[j]? = S[j]? := fun j hj => (hG3.fo.fr j (by simp; omega) (fun n => by simp)).trans (List.getElem?_append_left hj)
      have hle := hG3.fo.le
      simp only [List.length_append, List.length_cons, List.length_nil] at hle
      have h0 : ∀ j n, HV.sl j n ∈ (comps C k (restS C (startS C (newS nums)) 200) cc3).map Comp.c → S.length + 3 ≤ j := fun j n hm => by
        rcases hG3.fo.nw j n hm with h | ⟨_, h⟩
        · simpa using h
        · simp at h
      have hw := Own.col hG3.own 3 rfl
      have hs := Own.col hG3.own 4 rfl
      have hO := hG3.own
      clear hG hG2 hG3
      generalize restS C (startS C (newS nums)) 200 = m3 at *
      have i1 : isCell (frc cc3.w) = true := by rcases hw with ⟨h, _⟩ | ⟨q, h, _⟩ <;> simp only at h <;> rw [h] <;> rfl
      have i2 : isCell (frc cc3.s) = true := by rcases hs with ⟨h, _⟩ | ⟨q, h, _⟩ <;> simp only at h <;> rw [h] <;> rfl
      repeat' (first | refine c0 ?_ | refine c7 ?_ | refine d2 ?_ | refine d4 ?_ | refine k0 (he := (by first | exact k_spec_part C k m3 cc3 _ (Own.app hO))) (hk := ?_) | refine a5 (hk := ?_))
      refine b7 (h3 := get_old f6) (h10 := set_old f6) (h9 := by show [HV.sl cc3.n m3.nums.length, frc cc3.w, frc cc3.s, HV.sl cc3.q 3, HV.bool m3.ended].all isCell = true; simp only [List.all_cons, i1, i2]; rfl) (hk := ?_)
      repeat' (first | refine c0 ?_ | refine c9 ?_ | refine d4 ?_ | refine a5 (hk := ?_))
      refine rSim (C := C) (k := k) (m := m3) (c := cc3) (hO := ?_) (h3 := get_old (setE f6)) (h0 := fun j n hm => by have := h0 j n hm; omega) (hl := by simp; omega) (ho := fun j hj => ?_)
      · refine Own.app ⟨fun x hx => (hO.1 x hx).set fun kk n e => ?_, hO.2⟩
        have := h0 kk n (List.mem_map.2 ⟨x, hx, e⟩)
        omega
      · rw [List.getElem?_append_left (by simp; omega), List.getElem?_set_ne (by omega), hS3 j hj]
end Go.Proofs.X
end
section
namespace Go.Proofs.X
open Go Go.Proofs.XVai Go.Proofs Go.Proofs.XN
set_option linter.unusedVariables false
set_option linter.unusedSimpArgs false
set_option maxHeartbeats 40000000
set_option maxRecDepth 100000

/-- Words that are the same show as the same. -/
theorem k_laws_lcWords (a : List Wd) (S : St) (hl : a.length ≤ 1048576) : Ev Y laws_lcWords [.lst (a.map wdrow), .lst (a.map wdrow)] S (.bool true) S := by
  have hn : (((a.map wdrow).length : Int) != ((a.map wdrow).length : Int)) = false := by simp
  refine E_start (h := ?_)
  repeat' (first | refine c0 ?_ | refine c7 ?_ | refine d2 ?_ | refine c8 ?_ | refine d0 ?_ | refine d4 ?_ | refine a5 (hk := ?_) | refine u6 (hk := ?_))
  refine C_list a (fun pre r T' S' => ∃ (T0 : Tm) (S1 : St), Ext S S1 ∧ T' = putL T0 [(0, .lst (a.map wdrow)), (1, .lst (a.map wdrow)), (5, I pre.length)] ∧ S' = S1 ++ [])
    ⟨_, _, ex0, at_mk ⟨rfl, rfl, rfl, trivial⟩, (List.append_nil _).symm⟩ ?_ ?_
  · rintro pre x r T' S' hx ⟨T0, S1, hE, rfl, rfl⟩
    have hg := map_get (f := wdrow) (mid hx)
    have hlt := mid_lt hx
    have hc0 : (pre.length : Int) < ((a.map wdrow).length : Int) := by simp; omega
    repeat' (first | refine c0 ?_ | refine c1 ?_ | refine c3 ?_ | refine c4 ?_ | refine c7 ?_ | refine d2 ?_ | refine c8 ?_ | refine c9 ?_ | refine d0 ?_ | refine d4 ?_ | refine d3' (h := ?_) | refine d4' ?_ | refine a5 (hk := ?_) | refine e5' (hk := ?_) | refine f6' (hk := ?_) | refine f8' (hk := ?_) | (with_reducible intro hc) | refine u7 (hk := ?_) | refine d9 (ht := ?_) (hf := ?_))
    · exfalso; simp at hc
    · exact ⟨_, _, ex1 hE, at_mk ⟨rfl, rfl, inc (by omega), trivial⟩, (List.append_nil _).symm⟩
  · rintro T' S' ⟨T0, S1, hE, rfl, rfl⟩
    have hc0 : ¬ ((a.length : Int) < ((a.map wdrow).length : Int)) := by simp
    repeat' (first | refine c0 ?_ | refine c2 ?_ | refine c5 ?_ | refine c7 ?_ | refine d2 ?_ | refine c9 ?_ | refine d1 ?_ | refine d4 ?_ | refine a5 (hk := ?_) | refine u8 (hk := ?_))
    exact rBx hE (hv := rfl)
end Go.Proofs.X
end
section
namespace Go.Proofs.X
open Go Go.Proofs.XVai Go.Proofs Go.Proofs.XN
set_option linter.unusedVariables false
set_option linter.unusedSimpArgs false
set_option maxHeartbeats 4000000
set_option maxRecDepth 100000

/-- What is told of the words that hosts got: there are not many, and none of a host's own. -/
def VwOk (views : List (List Wd)) : Prop := views.length ≤ 3 ∧ (∀ v ∈ views, v.length ≤ 10000) ∧ ∀ (h : Nat) (x : Wd), x ∈ views.getD h [] → x.frm ≠ h
theorem part_shape (ls : List Lab) (ss : Stps) (ts hs ds nums : List Int) : ∃ nums' w s views e b, partV (partRun ls ss ts hs ds nums) = .tup [PT nums' w s views e, .bool b] ∧ VwOk views := by
  unfold partRun
  by_cases hg : (planOk ls ss ts hs ds && numsOk ls ss nums) = true
  · rw [if_pos hg]
    simp only [Bool.and_eq_true] at hg
    obtain ⟨a, b, c, rfl, P⟩ := pk_of 0 hg.1
    have hI := rest_iv P 200 _ _ (start_iv P (new_iv (nums := nums) hg.2))
    simp only
    generalize restS _ _ 200 = m at *
    refine ⟨_, _, _, _, _, _, rfl, by simp, fun v hv => ?_, fun h x hx => ?_⟩
    · have := hI.z0
      have := hI.z1
      have := hI.z2
      simp only [List.mem_cons, List.not_mem_nil, or_false] at hv
      rcases hv with rfl | rfl | rfl <;> omega
    · obtain ⟨f0, f1, f2⟩ := hI.fv
      match h, hx with
      | 0, hx => exact f0 x hx
      | 1, hx => exact f1 x hx
      | 2, hx => exact f2 x hx
      | h + 3, hx => simp at hx
  · rw [if_neg hg]
    exact ⟨_, _, _, [], _, _, rfl, by simp, fun v hv => by simp at hv, fun h x hx => by simp at hx⟩
def PartG (v : HV) : Prop := ∃ nums w s views e, v = PT nums w s views e ∧ VwOk views
theorem d_l71Part : Dr spec_l71Part [] 200200 PartG := by
  refine Dr_of fun bs p k S hb hp hk => ?_
  have hkl : k < S.length := (List.getElem?_eq_some_iff.1 hk).1
  refine E_startR (h := ?_)
  repeat' (first | refine c0 ?_ | refine c7 ?_ | refine d2 ?_ | refine d4 ?_ | refine b0 (hk := ?_) | refine a5 (hk := ?_))
  refine kE (hd := d_l71Plan) (h0 := hk) (hl := hb) (hp := by omega) (hk := ?_)
  rintro v q hq1 hq2 ⟨ls, ss, ts, hs, ds, rfl, hss, hl4, ht, hh, hd⟩
  repeat' (first | refine c0 ?_ | refine c7 ?_ | refine d4 ?_ | refine d3' (h := ?_) | refine b0 (hk := ?_) | refine a5 (hk := ?_) | refine b7 (hk := ?_) | refine e5' (hk := ?_) | refine f5' (hk := ?_))
  refine kE' (hd := d_l71Nums ls ss (by omega)) (h0 := setE hk) (hl := hb) (hp := by omega) (hn := by repeat' (first | exact nc0 | refine nc1 (by first | omega | (simp only [List.length_set]; omega)) ?_ | refine nc2 (by decide +kernel) ?_)) (hk := ?_)
  rintro v q2 hq3 hq4 ⟨ns, rfl, hn⟩
  obtain ⟨nums', w, s, views, e, b, hP, hV⟩ := part_shape ls ss ts hs ds ns
  have eP := fun S => k_spec_PartRun ls ss ts hs ds ns S (by omega) (by omega) (by omega) (by omega) (by omega) (by omega)
  rw [hP] at eP
  repeat' (first | refine c0 ?_ | refine c7 ?_ | refine d2 ?_ | refine d4' ?_ | refine k0' (he := (by first | exact eP _)) (hk := ?_) | refine b5 (hk := ?_) | refine b0' (hk := ?_) | refine e5' (hk := ?_) | refine b7' (hk := ?_))
  rw [List.set_set]
  refine b7 (h3 := get_ownL (by simp) rfl) (h10 := set_ownL (by simp)) (hk := ?_)
  repeat' (first | refine c0 ?_ | refine c9 ?_ | refine d4 ?_)
  exact ⟨_, _, rKZ hk (RD_ok bs q2) (hr := res1 (h3 := get_ownL (by simp) rfl)) (hz := show frzR S.length (PT nums' w s views e) _ = some (PT nums' w s views e, _) from rfl) (hE := ⟨_, rfl⟩), q2, by omega, by omega, ⟨nums', w, s, views, e, rfl, hV⟩, rfl⟩
theorem k_DrawPartCount (bs : List UInt8) (S : St) : EvR Y spec_DrawPartCount [BY bs] S (fun v S' => S' = S ∧ PartG v) := by
  refine E_startR (h := ?_)
  repeat' (first | refine c0 ?_ | refine c7 ?_ | refine d2 ?_ | refine d4 ?_ | refine b0 (hk := ?_) | refine a5 (hk := ?_))
  refine kX (he := k_spec_l6Open bs _) (hk := ?_)
  rintro v S2 ⟨J, k, hJ, rfl, hk1, hk2⟩
  have hk3 : S.length + 1 ≤ k := by simpa using hk1
  have f0 : S2[S.length + 0]? = some (.cells false [[.nils, .nils, .nils, .nils, .bool false]]) := by
    rw [hJ]; exact get_old (get_own rfl)
  have hold : ∀ j, j < S.length → S2[j]? = S[j]? := fun j hj => by rw [hJ, List.getElem?_append_left (by simp; omega), List.getElem?_append_left hj]
  have hb : (bs.take 2000).length ≤ 2000 := by simp; omega
  have hkl : k < S2.length := (List.getElem?_eq_some_iff.1 hk2).1
  have hl2 : S.length ≤ S2.length := by omega
  generalize bs.take 2000 = by' at *
  clear hk1 hJ
  rw [← List.append_nil S2]
  skip
  refine kE (hd := d_l71Part) (h0 := hk2) (hl := hb) (hp := by omega) (hk := ?_)
  rintro v q hq1 hq2 ⟨nums, w, s, views, e, rfl, hV⟩
  have f1 := setN (o := RD by' q) (show S.length + 0 ≠ k by omega) f0
  repeat' (first | refine c0 ?_ | refine c9 ?_ | refine d4 ?_ | refine b7 (hk := ?_))
  refine ⟨_, _, rCG (h3 := get_old (setE f1)) (hz := rfl) (hl := by simp; omega) (ho := fun j hj => ?_), rfl, ⟨nums, w, s, views, e, rfl, hV⟩⟩
  rw [List.getElem?_append_left (by simp; omega), List.getElem?_set_ne (by omega), List.getElem?_set_ne (by omega), hold j hj]
end Go.Proofs.X
end
section
namespace Go.Proofs.X
open Go Go.Proofs.XVai Go.Proofs Go.Proofs.XN
set_option linter.unusedVariables false
set_option linter.unusedSimpArgs false
set_option maxHeartbeats 4000000
set_option maxRecDepth 100000

/-- How many words some hosts got, from no host on. -/
def sumV (views : List (List Wd)) : Nat → Nat
  | 0 => 0
  | i + 1 => sumV views i + (viewG views ((i : Int) - 1)).length
theorem sumV_all {views : List (List Wd)} (h : views.length ≤ 3) : sumV views 5 = cntV views := by
  match views, h with
  | [], _ => simp [sumV, viewG, inB, cntV]
  | [a], _ => simp [sumV, viewG, inB, cntV]
  | [a, b], _ => simp [sumV, viewG, inB, cntV]
  | [a, b, c], _ => simp [sumV, viewG, inB, cntV]; omega
  | a :: b :: c :: d :: r, h => simp at h
theorem viewG_len {views : List (List Wd)} (h : ∀ v ∈ views, v.length ≤ 10000) (i : Int) : (viewG views i).length ≤ 10000 := by
  unfold viewG
  split
  · rw [List.getD_eq_getElem?_getD]
    cases e : views[i.toNat]? with
    | none => simp
    | some v => exact h v (List.mem_of_getElem? e)
  · simp
theorem cntV_le : ∀ {views : List (List Wd)}, (∀ v ∈ views, v.length ≤ 10000) → cntV views ≤ 10000 * views.length
  | [], _ => by simp [cntV]
  | w :: r, h => by
    have := h w (by simp)
    have := cntV_le (views := r) fun v hv => h v (by simp [hv])
    simp only [cntV, List.length_cons]
    omega
theorem law_PartCount (bs : List UInt8) (S : St) : Ev Y laws_FnPartCount [BY bs] S (.bool true) S := by
  by_cases hlen : bs.length > 1048576
  · have hc0 : ((bs.map brow).length : Int) > 1048576 := by simp; omega
    refine E_start (h := ?_)
    repeat' (first | refine c0 ?_ | refine c1 ?_ | refine c7 ?_ | refine d2 ?_ | refine c9 ?_ | refine d4 ?_ | refine a5 (hk := ?_) | refine u7 (hk := ?_))
    exact rB (hv := rfl)
  · have hc0 : ¬ (((bs.map brow).length : Int) > 1048576) := by simp; omega
    refine E_start (h := ?_)
    repeat' (first | refine c0 ?_ | refine c7 ?_ | refine d2 ?_ | refine d0 ?_ | refine d4 ?_ | refine a5 (hk := ?_) | refine u8 (hk := ?_))
    refine kX (he := k_DrawPartCount bs _) (hk := ?_)
    rintro v S2 ⟨rfl, nums, w, s, views, e, rfl, hV1, hV2, hV3⟩
    have hV4 : ∀ v ∈ views, v.length ≤ 1048576 := fun v hv => by have := hV2 v hv; omega
    have hcl := cntV_le hV2
    have ev := fun h S => k_impl_PartView nums w s views e h S (by omega) hV4
    have ec := fun S => k_impl_PartCount nums w s views e S (by omega) (by omega)
    have es := fun S => k_spec_PartCount nums w s views e S (by omega) (by omega)
    have hvl := fun i => viewG_len hV2 i
    repeat' (first | refine c0 ?_ | refine c7 ?_ | refine d2 ?_ | refine c8 ?_ | refine d4 ?_ | refine b0 (hk := ?_) | refine a5 (hk := ?_) | refine b7 (hk := ?_))
    refine C_loop (fun m T' S' => ∃ (T0 : Tm) (S1 : St) (i : Nat), i + m = 5 ∧ sumV views i ≤ 10000 * i ∧ Ext S S1 ∧ S1[S.length + 0]? = some (.cells false [(PT nums w s views e).cells]) ∧ T' = putL T0 [(3, .ptr (S.length + 0) 1 0 0), (4, I (sumV views i)), (5, I ((i : Int) - 1))] ∧ S' = S1 ++ []) 5
      ⟨_, _, 0, rfl, Nat.le_refl _, ex0, get_own rfl, at_mk ⟨rfl, rfl, rfl, trivial⟩, (List.append_nil _).symm⟩ ?_
    rintro m T' S' ⟨T0, S1, i, hi, hs, hE, f0, rfl, rfl⟩
    cases m with
    | zero =>
      have hi5 : i = 5 := by omega
      subst hi5
      have hc1 : ¬ (((5 : Nat) : Int) - 1 ≤ 3) := by omega
      rw [sumV_all hV1]
      have hb : ((cntV views : Int) == (cntV views : Int)) = true := by simp
      repeat' (first | refine c0 ?_ | refine c2 ?_ | refine c5 ?_ | refine c7 ?_ | refine d2 ?_ | refine c9 ?_ | refine d1 ?_ | refine d4 ?_ | refine d3' (h := ?_) | refine d4' ?_ | refine k0' (he := (by first | exact ec _ | exact es _)) (hk := ?_) | refine a5 (hk := ?_) | refine u1' (hk := ?_) | refine e5' (hk := ?_) | refine f5' (hk := ?_) | refine d7 (hf := ?_))
      all_goals first
        | exact rBx hE (hv := hb)
        | exact rBx hE (hv := rfl)
        | (exfalso; simp at hc; done)
    | succ m =>
      have hc1 : (i : Int) - 1 ≤ 3 := by omega
      have := hvl ((i : Int) - 1)
      repeat' (first | refine c0 ?_ | refine c3 ?_ | refine c7 ?_ | refine d2 ?_ | refine c8 ?_ | refine d0 ?_ | refine d4 ?_ | refine k0 (he := (by first | exact ev _ _)) (hk := ?_) | refine a5 (hk := ?_) | refine b5 (hk := ?_) | refine u7 (hk := ?_))
      refine ⟨m, by omega, _, _, i + 1, by omega, by simp only [sumV]; omega, ex1 hE, get_old f0, at_mk ⟨rfl, ?_, ?_, trivial⟩, (List.append_nil _).symm⟩
      · show HV.int _ _ = _
        rw [i64_id (by simp; omega) (by simp; omega)]; simp [sumV]
      · show HV.int _ _ = _
        rw [i64_id (by omega) (by omega)]; simp
end Go.Proofs.X
end
section
namespace Go.Proofs.X
open Go Go.Proofs.XVai Go.Proofs Go.Proofs.XN
set_option linter.unusedVariables false
set_option linter.unusedSimpArgs false
set_option maxHeartbeats 4000000
set_option maxRecDepth 100000

/-- What a draw's loop holds: the reader, the result, what came of it. -/
structure DJ (S : St) (by' : List UInt8) (k a c : Nat) (S1 : St) (q : Nat) (row : List HV) : Prop where
  rd : S1[k]? = some (RD by' q)
  ca : S1[a]? = some (.cells false [[.nils, .nils, .nils, .nils, .bool false]])
  cc : S1[c]? = some (.cells false [row])
  old : ∀ j, j < S.length → S1[j]? = S[j]?
  le : S.length ≤ S1.length
  ak : a ≠ k
  ck : c ≠ k
  ac : a ≠ c
  ok : S.length ≤ k
  oa : S.length ≤ a
  oc : S.length ≤ c
section
variable {S S1 : St} {by' : List UInt8} {k a c q q' : Nat} {row row' : List HV}
theorem DJ.rdr (h : DJ S by' k a c S1 q row) : DJ S by' k a c (S1.set k (RD by' q')) q' row :=
  ⟨setE h.rd, setN h.ak h.ca, setN h.ck h.cc, fun j hj => by rw [List.getElem?_set_ne (by have := h.ok; omega)]; exact h.old j hj, by simpa using h.le, h.ak, h.ck, h.ac, h.ok, h.oa, h.oc⟩
theorem DJ.prg (h : DJ S by' k a c S1 q row) : DJ S by' k a c (S1.set c (.cells false [row'])) q row' :=
  ⟨setN (Ne.symm h.ck) h.rd, setN h.ac h.ca, setE h.cc, fun j hj => by rw [List.getElem?_set_ne (by have := h.oc; omega)]; exact h.old j hj, by simpa using h.le, h.ak, h.ck, h.ac, h.ok, h.oa, h.oc⟩
theorem DJ.app {L : St} (h : DJ S by' k a c S1 q row) : DJ S by' k a c (S1 ++ L) q row :=
  ⟨get_old h.rd, get_old h.ca, get_old h.cc, fun j hj => by rw [List.getElem?_append_left (by have := h.le; omega)]; exact h.old j hj, by have := h.le; simp; omega, h.ak, h.ck, h.ac, h.ok, h.oa, h.oc⟩
end
theorem k_DrawPartView (bs : List UInt8) (S : St) : EvR Y spec_DrawPartView [BY bs] S (fun v S' => S' = S ∧ ∃ nums w s views e h, v = .tup [PT nums w s views e, I h] ∧ VwOk views ∧ -1 ≤ h ∧ h ≤ 4) := by
  refine E_startR (h := ?_)
  repeat' (first | refine c0 ?_ | refine c7 ?_ | refine d2 ?_ | refine d4 ?_ | refine b0 (hk := ?_) | refine a5 (hk := ?_))
  refine kX (he := k_spec_l6Open bs _) (hk := ?_)
  rintro v S2 ⟨J, k, hJ, rfl, hk1, hk2⟩
  have hk3 : S.length + 1 ≤ k := by simpa using hk1
  have f0 : S2[S.length + 0]? = some (.cells false [[.nils, .nils, .nils, .nils, .bool false]]) := by
    rw [hJ]; exact get_old (get_own rfl)
  have hold : ∀ j, j < S.length → S2[j]? = S[j]? := fun j hj => by rw [hJ, List.getElem?_append_left (by simp; omega), List.getElem?_append_left hj]
  have hb : (bs.take 2000).length ≤ 2000 := by simp; omega
  have hkl : k < S2.length := (List.getElem?_eq_some_iff.1 hk2).1
  have hl2 : S.length ≤ S2.length := by omega
  generalize bs.take 2000 = by' at *
  clear hk1 hJ
  rw [← List.append_nil S2]
  repeat' (first | refine c0 ?_ | refine c7 ?_ | refine d2 ?_ | refine d4 ?_ | refine a5 (hk := ?_))
  refine kE (hd := d_l71Part) (h0 := hk2) (hl := hb) (hp := by omega) (hk := ?_)
  rintro v q hq1 hq2 ⟨nums, w, s, views, e, rfl, hV⟩
  repeat' (first | refine c0 ?_ | refine c7 ?_ | refine d2 ?_ | refine c8 ?_ | refine d4 ?_ | refine k0 (he := (by first | exact k_pick' (by first | assumption | exact get_old (by assumption) | exact get_set (by assumption)) hb (by omega))) (hk := ?_) | refine b0 (hk := ?_) | refine a5 (hk := ?_) | refine b7 (hk := ?_))
  have hp1 := pickv_bd by' q 5
  have hh0 : -1 ≤ IntKind.i64.wrap (pickv by' q 5 - 1) ∧ IntKind.i64.wrap (pickv by' q 5 - 1) ≤ 4 := by
    have := hp1.1
    have := hp1.2.1 (by omega)
    rw [i64_id (by omega) (by omega)]
    omega
  refine C_loop (fun m T' S' => ∃ (T0 : Tm) (S1 : St) (i q c : Nat) (nums : List Int) (w s : List (List HV)) (views : List (List Wd)) (e : Bool) (h : Int), i + m = 6 ∧ q + m * 200300 ≤ 2000000 ∧ DJ S by' k (S.length + 0) c S1 q (PT nums w s views e).cells ∧ VwOk views ∧ -1 ≤ h ∧ h ≤ 4 ∧
        T' = putL T0 [(2, .ptr (S.length + 0) 1 0 0), (4, .ptr k 1 0 0), (5, .ptr c 1 0 0), (6, I h), (7, I i)] ∧ S' = S1 ++ []) 6
      ⟨_, _, 0, q + 1, S2.length + 0, nums, w, s, views, e, _, rfl, by omega, ?_, hV, hh0.1, hh0.2, at_mk ⟨rfl, rfl, by show HV.ptr _ _ _ _ = _; simp, rfl, rfl, trivial⟩, (List.append_nil _).symm⟩ ?_
  · refine ⟨get_set hk2, get_setN (by omega) f0, by have := get_setO (S0 := S2) (k := k) (L := [Ob.cells false [(PT nums w s views e).cells]]) (j := 0) (o' := RD by' (q + 1)) rfl; exact this, fun j hj => by rw [List.getElem?_append_left (by simp; omega), List.getElem?_set_ne (by omega), hold j hj], by simp; omega, by omega, by omega, by omega, by omega, by omega, by omega⟩
  clear hh0 hp1 hV hq1 hq2 hk2 f0 hold hkl
  rintro m T' S' ⟨T0, S1, i, q, c, nums, w, s, views, e, h, hi, hq, hD, hV, hh1, hh2, rfl, rfl⟩
  have hrd := hD.rd
  have hcc := hD.cc
  have hca := hD.ca
  have hak := hD.ak
  have hck := hD.ck
  have hac := hD.ac
  have hca' : c ≠ S.length + 0 := Ne.symm hac
  have hle := hD.le
  have hoc := hD.oc
  have hin := incN (i := i) (by omega)
  have hV' := hV
  obtain ⟨hV1, hV2, hV3⟩ := hV'
  have ev := fun S => k_spec_PartView nums w s views e h S (by omega) (fun v hv => by have := hV2 v hv; omega)
  have hp := pickv_bd by' (q + 1) 3
  have hp1 := hp.1
  have hp2 := hp.2.1 (by omega)
  cases m with
  | zero =>
    have hc0 : ¬ ((i : Int) < 6) := by omega
    repeat' (first | refine c0 ?_ | refine c2 ?_ | refine c5 ?_ | refine c7 ?_ | refine d2 ?_ | refine c9 ?_ | refine d1 ?_ | refine d4 ?_ | refine a0 (hk := ?_) | refine a2 (hk := ?_) | refine u4 (hk := ?_) | refine a5 (hk := ?_) | refine b5 (hk := ?_) | refine b7 (hk := ?_) | refine d7 (hf := ?_))
    refine ⟨_, _, rRunV (h3 := get_old (setE hca)) (hz := rfl) (hl := by simp; omega) (ho := fun j hj => ?_), rfl, nums, w, s, views, e, h, rfl, hV, hh1, hh2⟩
    rw [List.getElem?_append_left (by simp; omega), List.getElem?_set_ne (by omega), hD.old j hj]
  | succ m =>
    have hc0 : (i : Int) < 6 := by omega
    rw [Nat.succ_mul] at hq
    have hq0 : q ≤ 1799700 := by omega
    have hp0 : (q + 1 + 1) + 200200 ≤ 100000000 := Nat.le_trans (Nat.add_le_add_right (show q + 1 + 1 ≤ 1799702 by omega) 200200) (Nat.le_of_ble_eq_true rfl)
    repeat' (first | refine c0 ?_ | refine c2 ?_ | refine c3 ?_ | refine c5 ?_ | refine c7 ?_ | refine d2 ?_ | refine c8 ?_ | refine c9 ?_ | refine d0 ?_ | refine d1 ?_ | refine d4 ?_ | refine a0 (hk := ?_) | refine k0 (he := (by first | exact k_pick' (by first | assumption | exact get_old (by assumption) | exact get_set (by assumption)) hb (by omega) | exact ev _)) (hk := ?_) | refine u3 (hk := ?_) | refine a3 (ht := ?_) (hf := ?_) | refine a5 (hk := ?_) | refine b5 (hk := ?_) | refine b7 (hk := ?_) | (with_reducible intro hc) | refine d7 (hf := ?_) | refine d9 (ht := ?_) (hf := ?_))
    · refine kD (p := q + 1 + 1) (hd := d_l71Part) (h0 := ⟨_, hrd⟩) (hl := hb) (hp := hp0) (hk := ?_)
      rintro v q2 hq3 hq4 ⟨nums2, w2, s2, views2, e2, rfl, hV2⟩
      refine b7 (h3 := get_setN hck hcc) (h10 := set_setN hcc) (hk := ?_)
      repeat' (first | refine c0 ?_ | refine c3 ?_ | refine d2 ?_ | refine d4 ?_ | refine a5 (hk := ?_))
      exact ⟨m, by omega, _, _, i + 1, q2, c, nums2, w2, s2, views2, e2, pickv by' (q + 1) 3, by omega, by omega, hD.rdr.prg.app, hV2, by omega, by omega, at_mk ⟨rfl, rfl, rfl, rfl, hin, trivial⟩, (List.append_nil _).symm⟩
    · exact ⟨m, by omega, _, _, i + 1, q + 1 + 1, c, nums, w, s, views, e, pickv by' (q + 1) 3, by omega, by omega, hD.rdr.app, hV, by omega, by omega, at_mk ⟨rfl, rfl, rfl, rfl, hin, trivial⟩, (List.append_nil _).symm⟩
    · refine ⟨_, _, rRunV (h3 := get_old (setE (setN hak hca))) (hz := rfl) (hl := by simp; omega) (ho := fun j hj => ?_), rfl, nums, w, s, views, e, h, rfl, hV, hh1, hh2⟩
      rw [List.getElem?_append_left (by simp; omega), List.getElem?_set_ne (by omega), List.getElem?_set_ne (by have := hD.ok; omega), hD.old j hj]
    · refine ⟨_, _, rRunV (h3 := get_old (setE (setN hak hca))) (hz := rfl) (hl := by simp; omega) (ho := fun j hj => ?_), rfl, nums, w, s, views, e, h, rfl, hV, hh1, hh2⟩
      rw [List.getElem?_append_left (by simp; omega), List.getElem?_set_ne (by omega), List.getElem?_set_ne (by have := hD.ok; omega), hD.old j hj]
/-- What a host got are not more words than all got. -/
theorem viewG_cnt : ∀ (views : List (List Wd)) (h : Int), (viewG views h).length ≤ cntV views := by
  intro views h
  unfold viewG
  split
  · rename_i hh
    clear hh
    generalize h.toNat = n
    revert n
    induction views with
    | nil => intro n; simp [cntV]
    | cons v r ih =>
      intro n
      cases n with
      | zero => simp [cntV]
      | succ n =>
        have := ih n
        simp only [cntV, List.getD_cons_succ]
        omega
  · simp
theorem law_PartView (bs : List UInt8) (S : St) : Ev Y laws_FnPartView [BY bs] S (.bool true) S := by
  by_cases hlen : bs.length > 1048576
  · have hc0 : ((bs.map brow).length : Int) > 1048576 := by simp; omega
    refine E_start (h := ?_)
    repeat' (first | refine c0 ?_ | refine c1 ?_ | refine c7 ?_ | refine d2 ?_ | refine c9 ?_ | refine d4 ?_ | refine a5 (hk := ?_) | refine u7 (hk := ?_))
    exact rB (hv := rfl)
  · have hc0 : ¬ (((bs.map brow).length : Int) > 1048576) := by simp; omega
    refine E_start (h := ?_)
    repeat' (first | refine c0 ?_ | refine c7 ?_ | refine d2 ?_ | refine d0 ?_ | refine d4 ?_ | refine a5 (hk := ?_) | refine u8 (hk := ?_))
    refine kX (he := k_DrawPartView bs _) (hk := ?_)
    rintro v S2 ⟨rfl, nums, w, s, views, e, h, rfl, ⟨hV1, hV2, hV3⟩, hh1, hh2⟩
    have hV4 : ∀ v ∈ views, v.length ≤ 1048576 := fun v hv => by have := hV2 v hv; omega
    have hcl := cntV_le hV2
    have hvl := viewG_len hV2 h
    have hvc := viewG_cnt views h
    have evi := fun S => k_impl_PartView nums w s views e h S (by omega) hV4
    have evs := fun S => k_spec_PartView nums w s views e h S (by omega) hV4
    have ec := fun S => k_impl_PartCount nums w s views e S (by omega) (by omega)
    have ew := fun S => k_laws_lcWords (viewG views h) S (by omega)
    have hfr : ∀ x ∈ viewG views h, x.frm ≠ h := by
      intro x hx
      unfold viewG at hx
      split at hx
      · next hb =>
        simp only [inB, decide_eq_true_eq] at hb
        have := hV3 h.toNat x hx
        omega
      · simp at hx
    repeat' (first | refine c0 ?_ | refine c7 ?_ | refine d2 ?_ | refine c8 ?_ | refine d0 ?_ | refine d4 ?_ | refine k0 (he := (by first | exact evi _ | exact evs _ | exact ew _)) (hk := ?_) | refine b0 (hk := ?_) | refine a5 (hk := ?_) | refine b5 (hk := ?_) | refine b7 (hk := ?_) | refine d7 (hf := ?_))
    refine C_list (viewG views h) (fun pre r T' S' => ∃ (T0 : Tm) (S1 : St), Ext S S1 ∧ S1[S.length + 0]? = some (.cells false [(PT nums w s views e).cells]) ∧ T' = putL T0 [(3, .ptr (S.length + 0) 1 0 0), (4, I h), (5, .lst ((viewG views h).map wdrow)), (6, I pre.length)] ∧ S' = S1 ++ [])
      ⟨_, _, ex0, get_own rfl, at_mk ⟨rfl, rfl, rfl, rfl, trivial⟩, (List.append_nil _).symm⟩ ?_ ?_
    · rintro pre x r T' S' hx ⟨T0, S1, hE, f0, rfl, rfl⟩
      have hg := map_get (f := wdrow) (mid hx)
      have hlt := mid_lt hx
      have hc1 : (pre.length : Int) < (((viewG views h).map wdrow).length : Int) := by simp; omega
      have hb : (x.frm == h) = false := by simpa using hfr x (by rw [hx]; simp)
      repeat' (first | refine c0 ?_ | refine c3 ?_ | refine c7 ?_ | refine d2 ?_ | refine c8 ?_ | refine d0 ?_ | refine d4 ?_ | refine a5 (hk := ?_) | refine b6 (hk := ?_) | refine b8 (hk := ?_) | refine u6 (hk := ?_) | refine u7 (hk := ?_))
      exact ⟨_, _, ex1 hE, get_old f0, at_mk ⟨rfl, rfl, rfl, inc (by omega), trivial⟩, (List.append_nil _).symm⟩
    · rintro T' S' ⟨T0, S1, hE, f0, rfl, rfl⟩
      have hc1 : ¬ (((viewG views h).length : Int) < (((viewG views h).map wdrow).length : Int)) := by simp
      repeat' (first | refine c0 ?_ | refine c2 ?_ | refine c5 ?_ | refine c7 ?_ | refine d2 ?_ | refine c9 ?_ | refine d1 ?_ | refine d4 ?_ | refine k0 (he := (by first | exact ec _)) (hk := ?_) | refine a5 (hk := ?_) | refine b5 (hk := ?_) | refine u8 (hk := ?_))
      refine rBx hE (hv := ?_)
      simp
      omega
end Go.Proofs.X
end
