/- What the functions that the statement reaches do, part 6 of 6: the canonical machine on which they are run, and their contracts. Conditions: none. -/
import Derived.Test.YtbmeikhhfjefoaaA5
set_option linter.all false
section
namespace Go.Proofs.X
open Go Go.Proofs.XVai Go.Proofs Go.Proofs.XN
set_option linter.unusedVariables false
set_option linter.unusedSimpArgs false
set_option maxHeartbeats 4000000
set_option maxRecDepth 100000
/-- The number of a row of bits. -/
def mk : List Bool → Nat
  | [] => 0
  | b :: bs => (if b then 1 else 0) + 2 * mk bs
theorem mk_app (a : List Bool) (b : Bool) : mk (a ++ [b]) = mk a + (if b then 2 ^ a.length else 0) := by
  induction a with
  | nil => cases b <;> rfl
  | cons x a ih =>
    rw [List.cons_append, mk, ih, mk, List.length_cons, Nat.pow_succ]
    cases b <;> simp <;> omega
theorem mk_lt (a : List Bool) : mk a < 2 ^ a.length := by
  induction a with
  | nil => decide
  | cons x a ih =>
    rw [mk, List.length_cons, Nat.pow_succ]
    cases x <;> simp <;> omega
abbrev orI (a b : Int) : Int := IntKind.i64.wrap (BitVec.ofInt IntKind.i64.bits a ||| BitVec.ofInt IntKind.i64.bits b).toNat
abbrev xorMask (f s m : Int) : Int := IntKind.i64.wrap (BitVec.ofInt IntKind.i64.bits (IntKind.i64.wrap (BitVec.ofInt IntKind.i64.bits f ^^^ BitVec.ofInt IntKind.i64.bits s).toNat) &&& BitVec.ofInt IntKind.i64.bits m).toNat
theorem or_bit : ∀ n : Nat, n < 4 → ∀ m : Nat, m < 2 ^ n → orI (m : Int) (IntKind.i64.wrap (1 * 2 ^ min (Int.toNat (n : Int)) IntKind.i64.bits)) = ((m + 2 ^ n : Nat) : Int) := by decide +kernel
theorem xm0 : ∀ f, f < 1 → ∀ s, s < 1 → (xorMask (f : Nat) (s : Nat) (mk [] : Nat) != 0) = !sameOn (row2 f 0) (row2 s 0) [] := by decide +kernel
theorem xm1 : ∀ a : Bool, ∀ f, f < 2 → ∀ s, s < 2 → (xorMask (f : Nat) (s : Nat) (mk [a] : Nat) != 0) = !sameOn (row2 f 1) (row2 s 1) [a] := by decide +kernel
theorem xm2 : ∀ a b : Bool, ∀ f, f < 4 → ∀ s, s < 4 → (xorMask (f : Nat) (s : Nat) (mk [a, b] : Nat) != 0) = !sameOn (row2 f 2) (row2 s 2) [a, b] := by decide +kernel
theorem xm3 : ∀ a b c : Bool, ∀ f, f < 8 → ∀ s, s < 8 → (xorMask (f : Nat) (s : Nat) (mk [a, b, c] : Nat) != 0) = !sameOn (row2 f 3) (row2 s 3) [a, b, c] := by decide +kernel
theorem xm4 : ∀ a b c d : Bool, ∀ f, f < 16 → ∀ s, s < 16 → (xorMask (f : Nat) (s : Nat) (mk [a, b, c, d] : Nat) != 0) = !sameOn (row2 f 4) (row2 s 4) [a, b, c, d] := by decide +kernel
theorem xm {vars : List Bool} {n f s : Nat} (hn : vars.length = n) (h4 : n ≤ 4) (hf : f < 2 ^ n) (hs : s < 2 ^ n) : (xorMask (f : Nat) (s : Nat) (mk vars : Nat) != 0) = !sameOn (row2 f n) (row2 s n) vars := by
  subst hn
  match vars, h4 with
  | [], _ => exact xm0 f hf s hs
  | [a], _ => exact xm1 a f hf s hs
  | [a, b], _ => exact xm2 a b f hf s hs
  | [a, b, c], _ => exact xm3 a b c f hf s hs
  | [a, b, c, d], _ => exact xm4 a b c d f hf s hs
  | _ :: _ :: _ :: _ :: _ :: _, h => simp at h
def pairAt (ls : List Lab) (ss : Stps) (vars : List Bool) (dif : Rn → Rn → Bool) (p : Nat × Nat) : Bool :=
  sameOn (row2 p.1 ls.length) (row2 p.2 ls.length) vars && dif (runOf ls ss (row2 p.1 ls.length)) (runOf ls ss (row2 p.2 ls.length))
theorem k_impl_pair (ls : List Lab) (ss : Stps) (vars : List Bool) (g : Nat) (cap : HV) (q : Nat) (o : Ob) (dif : Rn → Rn → Bool) (S : St) (hok : progOk ls ss = true) (hv : vars.length = ls.length) (hg : Y.byref g = false) (hS : S[q]? = some o)
    (hd : ∀ (ra rb : Rn) (S' : St), ra.ws.length ≤ 8 → ra.ss.length ≤ 8 → rb.ws.length ≤ 8 → rb.ss.length ≤ 8 → S'[q]? = some o → Ev Y g [RN ra.nums ra.ws ra.ss, RN rb.nums rb.ws rb.ss, cap] S' (.bool (dif ra rb)) S') :
    Ev Y impl_pair [PR ls ss, BL vars, .fn g [cap]] S (FND ls.length ((pairs (2 ^ ls.length)).find? (pairAt ls ss vars dif))) S := by
  obtain ⟨p1, p2, p3, p4⟩ := progOk_in hok
  have hsh := shl4 p1
  have hp4 := pow4 p1
  have hrs := fun a => runOf_sz hok a
  have hrl := fun m => row2_len m ls.length
  have hql : q < S.length := (List.getElem?_eq_some_iff.1 hS).1
  refine E_start (h := ?_)
  repeat' (first | refine c0 ?_ | refine c1 ?_ | refine c2 ?_ | refine c3 ?_ | refine c4 ?_ | refine c5 ?_ | refine c6 (h := ?_) | refine c7 ?_ | refine d2 ?_ | refine c8 ?_ | refine c9 ?_ | refine d0 ?_ | refine d1 ?_ | refine d4 ?_ | refine a0 (hk := ?_) | refine b0 (hk := ?_) | refine b1 (hk := ?_) | refine b2 (hk := ?_) | refine b3 (hk := ?_) | refine b4 (hk := ?_) | refine p1 (hk := ?_) | refine g0' (hk := ?_) | refine a1 (hk := ?_) | refine a2 (hk := ?_) | refine u1 (hk := ?_) | refine u2 (hk := ?_) | refine u3 (hk := ?_) | refine u4 (hk := ?_) | refine a3 (ht := ?_) (hf := ?_) | refine a4 (ht := ?_) (hf := ?_) | refine a5 (hk := ?_) | refine b5 (hk := ?_) | refine b6 (hk := ?_) | refine b8 (hk := ?_) | refine b9 (hk := ?_) | refine b7 (hk := ?_) | refine p0 (hk := ?_) | refine g1 (hw := ?_) | refine g2 (hw := ?_) | refine g3 (hw := ?_) | refine g4 (hw := ?_) | (with_reducible intro hc) | refine d6 (ht := ?_) | refine d7 (hf := ?_) | refine u5 (hk := ?_) | refine u6 (hk := ?_) | refine u7 (hk := ?_) | refine u8 (hk := ?_) | refine d8 (ht := ?_) (hf := ?_) | refine d9 (ht := ?_) (hf := ?_))
  refine C_list vars (fun pre r T' S' => ∃ (T0 : Tm) (S1 : St), Ext S S1 ∧ S1[S.length + 0]? = some (.cells false [[LS ls, .lst ss.rows]]) ∧
      T' = putL T0 [(2, .fn g [cap]), (3, .ptr (S.length + 0) 1 0 0), (9, I ls.length), (10, I (mk pre : Nat)), (22, BL vars), (23, I vars.length), (24, I pre.length)] ∧ S' = S1 ++ [])
    ⟨_, _, ex0, get_own rfl, at_mk ⟨rfl, rfl, by show HV.int _ _ = _; simp, rfl, rfl, by show HV.int _ _ = _; simp, rfl, trivial⟩, (List.append_nil _).symm⟩ ?_ ?_
  · rintro pre x r T' S' hx ⟨T0, S1, hE, f0, rfl, rfl⟩
    have hg := mid hx
    have hlt := mid_lt hx
    have hc0 : (pre.length : Int) < (vars.length : Int) := by omega
    have hor := or_bit pre.length (by omega) (mk pre) (mk_lt pre)
    cases x with
    | true =>
      repeat' (first | refine c0 ?_ | refine c1 ?_ | refine c2 ?_ | refine c3 ?_ | refine c4 ?_ | refine c5 ?_ | refine c6 (h := ?_) | refine c7 ?_ | refine d2 ?_ | refine c8 ?_ | refine c9 ?_ | refine d0 ?_ | refine d1 ?_ | refine d4 ?_ | refine a0 (hk := ?_) | refine b0 (hk := ?_) | refine b1 (hk := ?_) | refine b2 (hk := ?_) | refine b3 (hk := ?_) | refine b4 (hk := ?_) | refine p1 (hk := ?_) | refine g0' (hk := ?_) | refine a1 (hk := ?_) | refine a2 (hk := ?_) | refine u1 (hk := ?_) | refine u2 (hk := ?_) | refine u3 (hk := ?_) | refine u4 (hk := ?_) | refine a3 (ht := ?_) (hf := ?_) | refine a4 (ht := ?_) (hf := ?_) | refine a5 (hk := ?_) | refine b5 (hk := ?_) | refine b6 (hk := ?_) | refine b8 (hk := ?_) | refine b9 (hk := ?_) | refine b7 (hk := ?_) | refine p0 (hk := ?_) | refine g1 (hw := ?_) | refine g2 (hw := ?_) | refine g3 (hw := ?_) | refine g4 (hw := ?_) | (with_reducible intro hc) | refine d6 (ht := ?_) | refine d7 (hf := ?_) | refine u5 (hk := ?_) | refine u6 (hk := ?_) | refine u7 (hk := ?_) | refine u8 (hk := ?_) | refine d8 (ht := ?_) (hf := ?_) | refine d9 (ht := ?_) (hf := ?_))
      refine ⟨_, _, ex1 hE, get_old f0, at_mk ⟨rfl, rfl, rfl, ?_, rfl, rfl, inc (by omega), trivial⟩, (List.append_nil _).symm⟩
      show HV.int .i64 (orI _ _) = _
      rw [hor, mk_app]; rfl
    | false =>
      repeat' (first | refine c0 ?_ | refine c1 ?_ | refine c2 ?_ | refine c3 ?_ | refine c4 ?_ | refine c5 ?_ | refine c6 (h := ?_) | refine c7 ?_ | refine d2 ?_ | refine c8 ?_ | refine c9 ?_ | refine d0 ?_ | refine d1 ?_ | refine d4 ?_ | refine a0 (hk := ?_) | refine b0 (hk := ?_) | refine b1 (hk := ?_) | refine b2 (hk := ?_) | refine b3 (hk := ?_) | refine b4 (hk := ?_) | refine p1 (hk := ?_) | refine g0' (hk := ?_) | refine a1 (hk := ?_) | refine a2 (hk := ?_) | refine u1 (hk := ?_) | refine u2 (hk := ?_) | refine u3 (hk := ?_) | refine u4 (hk := ?_) | refine a3 (ht := ?_) (hf := ?_) | refine a4 (ht := ?_) (hf := ?_) | refine a5 (hk := ?_) | refine b5 (hk := ?_) | refine b6 (hk := ?_) | refine b8 (hk := ?_) | refine b9 (hk := ?_) | refine b7 (hk := ?_) | refine p0 (hk := ?_) | refine g1 (hw := ?_) | refine g2 (hw := ?_) | refine g3 (hw := ?_) | refine g4 (hw := ?_) | (with_reducible intro hc) | refine d6 (ht := ?_) | refine d7 (hf := ?_) | refine u5 (hk := ?_) | refine u6 (hk := ?_) | refine u7 (hk := ?_) | refine u8 (hk := ?_) | refine d8 (ht := ?_) (hf := ?_) | refine d9 (ht := ?_) (hf := ?_))
      refine ⟨_, _, ex1 hE, get_old f0, at_mk ⟨rfl, rfl, rfl, ?_, rfl, rfl, inc (by omega), trivial⟩, (List.append_nil _).symm⟩
      rw [mk_app]; rfl
  · rintro T' S' ⟨T0, S1, hE, f0, rfl, rfl⟩
    have hc0 : ¬ ((vars.length : Int) < (vars.length : Int)) := by omega
    repeat' (first | refine c0 ?_ | refine c1 ?_ | refine c2 ?_ | refine c3 ?_ | refine c4 ?_ | refine c5 ?_ | refine c6 (h := ?_) | refine c7 ?_ | refine d2 ?_ | refine c8 ?_ | refine c9 ?_ | refine d0 ?_ | refine d1 ?_ | refine d4 ?_ | refine a0 (hk := ?_) | refine b0 (hk := ?_) | refine b1 (hk := ?_) | refine b2 (hk := ?_) | refine b3 (hk := ?_) | refine b4 (hk := ?_) | refine p1 (hk := ?_) | refine g0' (hk := ?_) | refine a1 (hk := ?_) | refine a2 (hk := ?_) | refine u1 (hk := ?_) | refine u2 (hk := ?_) | refine u3 (hk := ?_) | refine u4 (hk := ?_) | refine a3 (ht := ?_) (hf := ?_) | refine a4 (ht := ?_) (hf := ?_) | refine a5 (hk := ?_) | refine b5 (hk := ?_) | refine b6 (hk := ?_) | refine b8 (hk := ?_) | refine b9 (hk := ?_) | refine b7 (hk := ?_) | refine p0 (hk := ?_) | refine g1 (hw := ?_) | refine g2 (hw := ?_) | refine g3 (hw := ?_) | refine g4 (hw := ?_) | (with_reducible intro hc) | refine d6 (ht := ?_) | refine d7 (hf := ?_) | refine u5 (hk := ?_) | refine u6 (hk := ?_) | refine u7 (hk := ?_) | refine u8 (hk := ?_) | refine d8 (ht := ?_) (hf := ?_) | refine d9 (ht := ?_) (hf := ?_))
    refine C_loop (fun m T' S' => ∃ (T0 : Tm) (S1 : St) (i : Nat), i + m = 2 ^ ls.length ∧ (∀ i', i' < i → ∀ k', k' < i' → pairAt ls ss vars dif (k', i') = false) ∧ Ext S S1 ∧ S1[S.length + 0]? = some (.cells false [[LS ls, .lst ss.rows]]) ∧
        T' = putL T0 [(2, .fn g [cap]), (3, .ptr (S.length + 0) 1 0 0), (9, I ls.length), (10, I (mk vars : Nat)), (36, I ((2 ^ ls.length : Nat) : Int)), (37, I i)] ∧ S' = S1 ++ []) (2 ^ ls.length)
      ⟨_, _, 0, by omega, by omega, ex1 hE, get_old f0, at_mk ⟨rfl, rfl, rfl, rfl, by show HV.int _ (IntKind.i64.wrap _) = _; rw [hsh], rfl, trivial⟩, (List.append_nil _).symm⟩ ?_
    clear hE f0 S1 T0
    rintro m T' S' ⟨T0, S1, i, hm, hno, hE, f0, rfl, rfl⟩
    cases m with
    | zero =>
      have hc0 : ¬ ((i : Int) < ((2 ^ ls.length : Nat) : Int)) := by omega
      repeat' (first | refine c0 ?_ | refine c1 ?_ | refine c2 ?_ | refine c3 ?_ | refine c4 ?_ | refine c5 ?_ | refine c6 (h := ?_) | refine c7 ?_ | refine d2 ?_ | refine c8 ?_ | refine c9 ?_ | refine d0 ?_ | refine d1 ?_ | refine d4 ?_ | refine a0 (hk := ?_) | refine b0 (hk := ?_) | refine b1 (hk := ?_) | refine b2 (hk := ?_) | refine b3 (hk := ?_) | refine b4 (hk := ?_) | refine p1 (hk := ?_) | refine g0' (hk := ?_) | refine a1 (hk := ?_) | refine a2 (hk := ?_) | refine u1 (hk := ?_) | refine u2 (hk := ?_) | refine u3 (hk := ?_) | refine u4 (hk := ?_) | refine a3 (ht := ?_) (hf := ?_) | refine a4 (ht := ?_) (hf := ?_) | refine a5 (hk := ?_) | refine b5 (hk := ?_) | refine b6 (hk := ?_) | refine b8 (hk := ?_) | refine b9 (hk := ?_) | refine b7 (hk := ?_) | refine p0 (hk := ?_) | refine g1 (hw := ?_) | refine g2 (hw := ?_) | refine g3 (hw := ?_) | refine g4 (hw := ?_) | (with_reducible intro hc) | refine d6 (ht := ?_) | refine d7 (hf := ?_) | refine u5 (hk := ?_) | refine u6 (hk := ?_) | refine u7 (hk := ?_) | refine u8 (hk := ?_) | refine d8 (ht := ?_) (hf := ?_) | refine d9 (ht := ?_) (hf := ?_))
      refine rG (vs := [.sl (S1.length + 0) 0, .sl (S1.length + 1) 0, .bool false]) (v := .tup [.lst [], .lst [], .bool false]) (hz := frzR_tup (fmS (fzV_sl rfl (by have := hE.le; omega) (get_own rfl) rfl rfl) (fmS (fzV_sl rfl (by have := hE.le; omega) (get_own rfl) rfl rfl) (fmS rfl fm0)))) (hl := by have := hE.le; simp; omega) (ho := fun j hj => by rw [List.getElem?_append_left (by have := hE.le; omega), hE.old hj]) (hv := ?_)
      rw [find_no (by have : i = 2 ^ ls.length := by omega
                      rw [← this]; exact hno)]
      rfl
    | succ m =>
      have hc0 : (i : Int) < ((2 ^ ls.length : Nat) : Int) := by omega
      repeat' (first | refine c0 ?_ | refine c1 ?_ | refine c2 ?_ | refine c3 ?_ | refine c4 ?_ | refine c5 ?_ | refine c6 (h := ?_) | refine c7 ?_ | refine d2 ?_ | refine c8 ?_ | refine c9 ?_ | refine d0 ?_ | refine d1 ?_ | refine d4 ?_ | refine a0 (hk := ?_) | refine b0 (hk := ?_) | refine b1 (hk := ?_) | refine b2 (hk := ?_) | refine b3 (hk := ?_) | refine b4 (hk := ?_) | refine p1 (hk := ?_) | refine g0' (hk := ?_) | refine a1 (hk := ?_) | refine a2 (hk := ?_) | refine u1 (hk := ?_) | refine u2 (hk := ?_) | refine u3 (hk := ?_) | refine u4 (hk := ?_) | refine a3 (ht := ?_) (hf := ?_) | refine a4 (ht := ?_) (hf := ?_) | refine a5 (hk := ?_) | refine b5 (hk := ?_) | refine b6 (hk := ?_) | refine b8 (hk := ?_) | refine b9 (hk := ?_) | refine b7 (hk := ?_) | refine p0 (hk := ?_) | refine g1 (hw := ?_) | refine g2 (hw := ?_) | refine g3 (hw := ?_) | refine g4 (hw := ?_) | (with_reducible intro hc) | refine d6 (ht := ?_) | refine d7 (hf := ?_) | refine u5 (hk := ?_) | refine u6 (hk := ?_) | refine u7 (hk := ?_) | refine u8 (hk := ?_) | refine d8 (ht := ?_) (hf := ?_) | refine d9 (ht := ?_) (hf := ?_))
      refine C_loop (fun m' T' S' => ∃ (T0 : Tm) (S1 : St) (k : Nat), k + m' = i ∧ (∀ k', k' < k → pairAt ls ss vars dif (k', i) = false) ∧ Ext S S1 ∧ S1[S.length + 0]? = some (.cells false [[LS ls, .lst ss.rows]]) ∧
          T' = putL T0 [(2, .fn g [cap]), (3, .ptr (S.length + 0) 1 0 0), (9, I ls.length), (10, I (mk vars : Nat)), (13, I i), (36, I ((2 ^ ls.length : Nat) : Int)), (37, I i), (40, I i), (41, I k)] ∧ S' = S1 ++ []) i
        ⟨_, _, 0, by omega, by omega, ex1 hE, get_old f0, at_mk ⟨rfl, rfl, rfl, rfl, rfl, rfl, rfl, rfl, rfl, trivial⟩, (List.append_nil _).symm⟩ ?_
      clear hE f0 S1 T0
      rintro m' T' S' ⟨T0, S1, k, hm', hno', hE, f0, rfl, rfl⟩
      cases m' with
      | zero =>
        have hc1 : ¬ ((k : Int) < (i : Int)) := by omega
        repeat' (first | refine c0 ?_ | refine c1 ?_ | refine c2 ?_ | refine c3 ?_ | refine c4 ?_ | refine c5 ?_ | refine c6 (h := ?_) | refine c7 ?_ | refine d2 ?_ | refine c8 ?_ | refine c9 ?_ | refine d0 ?_ | refine d1 ?_ | refine d4 ?_ | refine a0 (hk := ?_) | refine b0 (hk := ?_) | refine b1 (hk := ?_) | refine b2 (hk := ?_) | refine b3 (hk := ?_) | refine b4 (hk := ?_) | refine p1 (hk := ?_) | refine g0' (hk := ?_) | refine a1 (hk := ?_) | refine a2 (hk := ?_) | refine u1 (hk := ?_) | refine u2 (hk := ?_) | refine u3 (hk := ?_) | refine u4 (hk := ?_) | refine a3 (ht := ?_) (hf := ?_) | refine a4 (ht := ?_) (hf := ?_) | refine a5 (hk := ?_) | refine b5 (hk := ?_) | refine b6 (hk := ?_) | refine b8 (hk := ?_) | refine b9 (hk := ?_) | refine b7 (hk := ?_) | refine p0 (hk := ?_) | refine g1 (hw := ?_) | refine g2 (hw := ?_) | refine g3 (hw := ?_) | refine g4 (hw := ?_) | (with_reducible intro hc) | refine d6 (ht := ?_) | refine d7 (hf := ?_) | refine u5 (hk := ?_) | refine u6 (hk := ?_) | refine u7 (hk := ?_) | refine u8 (hk := ?_) | refine d8 (ht := ?_) (hf := ?_) | refine d9 (ht := ?_) (hf := ?_))
        refine ⟨m, by omega, _, _, i + 1, by omega, fun i' hi' => ?_, ex1 hE, get_old f0, at_mk ⟨rfl, rfl, rfl, rfl, rfl, incN (by omega), trivial⟩, (List.append_nil _).symm⟩
        by_cases he : i' = i
        · subst he
          have : k = i' := by omega
          subst this
          exact hno'
        · exact hno i' (by omega)
      | succ m' =>
        have hc1 : (k : Int) < (i : Int) := by omega
        have r1 := fun S => k_impl_RunOf ls ss (row2 k ls.length) S (by omega) (by omega) (by rw [hrl]; omega)
        have r2 := fun S => k_impl_RunOf ls ss (row2 i ls.length) S (by omega) (by omega) (by rw [hrl]; omega)
        have hk1 := hrs (row2 k ls.length)
        have hk2 := hrs (row2 i ls.length)
        have hD : pairAt ls ss vars dif (k, i) = (sameOn (row2 k ls.length) (row2 i ls.length) vars && dif (runOf ls ss (row2 k ls.length)) (runOf ls ss (row2 i ls.length))) := rfl
        have hxm := xm hv p1 (f := k) (s := i) (by omega) (by omega)
        have go : pairAt ls ss vars dif (k, i) = false → ∀ k', k' < k + 1 → pairAt ls ss vars dif (k', i) = false := fun hf k' hk' => by
          by_cases he : k' = k
          · subst he; exact hf
          · exact hno' k' (by omega)
        have hq1 : S1[q]? = some o := by rw [hE.old hql, hS]
        cases hsm : sameOn (row2 k ls.length) (row2 i ls.length) vars with
        | false =>
          have hcc : (xorMask (k : Nat) (i : Nat) (mk vars : Nat) != 0) = true := by rw [hxm, hsm]; rfl
          repeat' (first | refine c0 ?_ | refine c1 ?_ | refine c2 ?_ | refine c3 ?_ | refine c4 ?_ | refine c5 ?_ | refine c6 (h := ?_) | refine c7 ?_ | refine d2 ?_ | refine c8 ?_ | refine c9 ?_ | refine d0 ?_ | refine d1 ?_ | refine d4 ?_ | refine d3' (h := ?_) | refine d4' ?_ | refine a0 (hk := ?_) | refine b0 (hk := ?_) | refine b1 (hk := ?_) | refine b2 (hk := ?_) | refine b3 (hk := ?_) | refine b4 (hk := ?_) | refine p1 (hk := ?_) | refine g0' (hk := ?_) | refine a1 (hk := ?_) | refine a2 (hk := ?_) | refine u1 (hk := ?_) | refine u2 (hk := ?_) | refine u3 (hk := ?_) | refine u4 (hk := ?_) | refine a3 (ht := ?_) (hf := ?_) | refine a4 (ht := ?_) (hf := ?_) | refine a5 (hk := ?_) | refine b5 (hk := ?_) | refine b6 (hk := ?_) | refine b8 (hk := ?_) | refine b9 (hk := ?_) | refine b7 (hk := ?_) | refine p0 (hk := ?_) | refine g1 (hw := ?_) | refine g2 (hw := ?_) | refine g3 (hw := ?_) | refine g4 (hw := ?_) | refine e0' (hk := ?_) | refine b0' (hk := ?_) | refine b1' (hk := ?_) | refine p1' (hk := ?_) | refine e1' (hk := ?_) | refine e2' (hk := ?_) | refine u1' (hk := ?_) | refine u2' (hk := ?_) | refine u3' (hk := ?_) | refine u4' (hk := ?_) | refine e3' (ht := ?_) (hf := ?_) | refine e4' (ht := ?_) (hf := ?_) | refine b4' (hk := ?_) | refine b7b (hk := ?_) | refine e5' (hk := ?_) | refine f5' (hk := ?_) | refine f6' (hk := ?_) | refine f8' (hk := ?_) | refine f9' (hk := ?_) | refine b7' (hk := ?_) | refine p0' (hk := ?_) | refine h1'' (hw := ?_) | refine h2'' (hw := ?_) | refine h3'' (hw := ?_) | refine h4'' (hw := ?_) | (with_reducible intro hc) | refine d6 (ht := ?_) | refine d7 (hf := ?_) | refine u5 (hk := ?_) | refine u6 (hk := ?_) | refine u7 (hk := ?_) | refine u8 (hk := ?_) | refine d8 (ht := ?_) (hf := ?_) | refine d9 (ht := ?_) (hf := ?_))
          exact ⟨m', by omega, _, _, k + 1, by omega, go (by rw [hD, hsm]; rfl), ex1 hE, get_old f0, at_mk ⟨rfl, rfl, rfl, rfl, rfl, rfl, rfl, rfl, incN (by omega), trivial⟩, (List.append_nil _).symm⟩
        | true =>
          have hcc : (xorMask (k : Nat) (i : Nat) (mk vars : Nat) != 0) = false := by rw [hxm, hsm]; rfl
          have hdd := fun L' => hd (runOf ls ss (row2 k ls.length)) (runOf ls ss (row2 i ls.length)) (S1 ++ L') (by omega) (by omega) (by omega) (by omega) (get_old hq1)
          repeat' (first | refine c0 ?_ | refine c1 ?_ | refine c2 ?_ | refine c3 ?_ | refine c4 ?_ | refine c5 ?_ | refine c6 (h := ?_) | refine c7 ?_ | refine d2 ?_ | refine c8 ?_ | refine c9 ?_ | refine d0 ?_ | refine d1 ?_ | refine d4 ?_ | refine d3' (h := ?_) | refine d4' ?_ | refine a0 (hk := ?_) | refine k0 (he := (by first | exact k_impl_row _ _ _ (by omega) (by omega) | exact r1 _ | exact r2 _ | exact hdd _)) (hk := ?_) | refine k1 (he := (by first | exact k_impl_row _ _ _ (by omega) (by omega) | exact r1 _ | exact r2 _ | exact hdd _)) (hk := ?_) | refine k0' (he := (by first | exact k_impl_row _ _ _ (by omega) (by omega) | exact r1 _ | exact r2 _ | exact hdd _)) (hk := ?_) | refine k2' (he := (by first | exact k_impl_row _ _ _ (by omega) (by omega) | exact r1 _ | exact r2 _ | exact hdd _)) (hk := ?_) | refine k3' (he := (by first | exact k_impl_row _ _ _ (by omega) (by omega) | exact r1 _ | exact r2 _ | exact hdd _)) (hk := ?_) | refine k1' (he := (by first | exact k_impl_row _ _ _ (by omega) (by omega) | exact r1 _ | exact r2 _ | exact hdd _)) (hk := ?_) | refine b0 (hk := ?_) | refine b1 (hk := ?_) | refine b2 (hk := ?_) | refine b3 (hk := ?_) | refine b4 (hk := ?_) | refine p1 (hk := ?_) | refine g0' (hk := ?_) | refine a1 (hk := ?_) | refine a2 (hk := ?_) | refine u1 (hk := ?_) | refine u2 (hk := ?_) | refine u3 (hk := ?_) | refine u4 (hk := ?_) | refine a3 (ht := ?_) (hf := ?_) | refine a4 (ht := ?_) (hf := ?_) | refine a5 (hk := ?_) | refine b5 (hk := ?_) | refine b6 (hk := ?_) | refine b8 (hk := ?_) | refine b9 (hk := ?_) | refine b7 (hk := ?_) | refine p0 (hk := ?_) | refine g1 (hw := ?_) | refine g2 (hw := ?_) | refine g3 (hw := ?_) | refine g4 (hw := ?_) | refine e0' (hk := ?_) | refine b0' (hk := ?_) | refine b1' (hk := ?_) | refine p1' (hk := ?_) | refine e1' (hk := ?_) | refine e2' (hk := ?_) | refine u1' (hk := ?_) | refine u2' (hk := ?_) | refine u3' (hk := ?_) | refine u4' (hk := ?_) | refine e3' (ht := ?_) (hf := ?_) | refine e4' (ht := ?_) (hf := ?_) | refine b4' (hk := ?_) | refine b7b (hk := ?_) | refine e5' (hk := ?_) | refine f5' (hk := ?_) | refine f6' (hk := ?_) | refine f8' (hk := ?_) | refine f9' (hk := ?_) | refine b7' (hk := ?_) | refine p0' (hk := ?_) | refine h1'' (hw := ?_) | refine h2'' (hw := ?_) | refine h3'' (hw := ?_) | refine h4'' (hw := ?_) | (with_reducible intro hc) | refine d6 (ht := ?_) | refine d7 (hf := ?_) | refine u5 (hk := ?_) | refine u6 (hk := ?_) | refine u7 (hk := ?_) | refine u8 (hk := ?_) | refine d8 (ht := ?_) (hf := ?_) | refine d9 (ht := ?_) (hf := ?_))
          · refine rVx hE (vs := [L (row2 k ls.length), L (row2 i ls.length), .bool true]) (v := .tup [L (row2 k ls.length), L (row2 i ls.length), .bool true]) (hv := ?_)
            rw [find_at (k := k) (i := i) (by omega) (by omega) hno hno' (by rw [hD, hsm, hc]; rfl)]
            rfl
          · exact ⟨m', by omega, _, _, k + 1, by omega, go (by rw [hD, hsm, hc]; rfl), ex1 hE, get_old f0, at_mk ⟨rfl, rfl, rfl, rfl, rfl, rfl, rfl, rfl, incN (by omega), trivial⟩, (List.append_nil _).symm⟩
end Go.Proofs.X
end
section
namespace Go.Proofs.X
open Go Go.Proofs.XVai Go.Proofs Go.Proofs.XN
set_option linter.unusedVariables false
set_option linter.unusedSimpArgs false
set_option maxHeartbeats 4000000
set_option maxRecDepth 100000
theorem k_impl_LeakOf_1 (ra rb : Rn) (h : Int) (q : Nat) (S : St) (h1 : ra.ss.length ≤ 8) (h2 : rb.ss.length ≤ 8) (hq : S[q]? = some (.cells false [[I h]])) : Ev Y impl_LeakOf_1 [RN ra.nums ra.ws ra.ss, RN rb.nums rb.ws rb.ss, .ptr q 1 0 0] S (.bool !(runTo ra.ss h == runTo rb.ss h)) S := by
  have a1 := runTo_len ra.ss h
  have a2 := runTo_len rb.ss h
  refine E_start (h := ?_)
  repeat' (first | refine c0 ?_ | refine c1 ?_ | refine c2 ?_ | refine c3 ?_ | refine c4 ?_ | refine c5 ?_ | refine c6 (h := ?_) | refine c7 ?_ | refine d2 ?_ | refine c8 ?_ | refine c9 ?_ | refine d0 ?_ | refine d1 ?_ | refine d4 ?_ | refine d3' (h := ?_) | refine d4' ?_ | refine a0 (hk := ?_) | refine k0 (he := (by first | exact k_impl_RunTo _ _ _ _ _ (by omega) | exact k_Equal_int _ _ _ (by omega) (by omega))) (hk := ?_) | refine k1 (he := (by first | exact k_impl_RunTo _ _ _ _ _ (by omega) | exact k_Equal_int _ _ _ (by omega) (by omega))) (hk := ?_) | refine k0' (he := (by first | exact k_impl_RunTo _ _ _ _ _ (by omega) | exact k_Equal_int _ _ _ (by omega) (by omega))) (hk := ?_) | refine k2' (he := (by first | exact k_impl_RunTo _ _ _ _ _ (by omega) | exact k_Equal_int _ _ _ (by omega) (by omega))) (hk := ?_) | refine k3' (he := (by first | exact k_impl_RunTo _ _ _ _ _ (by omega) | exact k_Equal_int _ _ _ (by omega) (by omega))) (hk := ?_) | refine k1' (he := (by first | exact k_impl_RunTo _ _ _ _ _ (by omega) | exact k_Equal_int _ _ _ (by omega) (by omega))) (hk := ?_) | refine b0 (hk := ?_) | refine b1 (hk := ?_) | refine b2 (hk := ?_) | refine b3 (hk := ?_) | refine b4 (hk := ?_) | refine p1 (hk := ?_) | refine g0' (hk := ?_) | refine a1 (hk := ?_) | refine a2 (hk := ?_) | refine u1 (hk := ?_) | refine u2 (hk := ?_) | refine u3 (hk := ?_) | refine u4 (hk := ?_) | refine a3 (ht := ?_) (hf := ?_) | refine a4 (ht := ?_) (hf := ?_) | refine a5 (hk := ?_) | refine b5 (hk := ?_) | refine b6 (hk := ?_) | refine b8 (hk := ?_) | refine b9 (hk := ?_) | refine b7 (hk := ?_) | refine p0 (hk := ?_) | refine g1 (hw := ?_) | refine g2 (hw := ?_) | refine g3 (hw := ?_) | refine g4 (hw := ?_) | refine e0' (hk := ?_) | refine b0' (hk := ?_) | refine b1' (hk := ?_) | refine p1' (hk := ?_) | refine e1' (hk := ?_) | refine e2' (hk := ?_) | refine u1' (hk := ?_) | refine u2' (hk := ?_) | refine u3' (hk := ?_) | refine u4' (hk := ?_) | refine e3' (ht := ?_) (hf := ?_) | refine e4' (ht := ?_) (hf := ?_) | refine b4' (hk := ?_) | refine b7b (hk := ?_) | refine e5' (hk := ?_) | refine f5' (hk := ?_) | refine f6' (hk := ?_) | refine f8' (hk := ?_) | refine f9' (hk := ?_) | refine b7' (hk := ?_) | refine p0' (hk := ?_) | refine h1'' (hw := ?_) | refine h2'' (hw := ?_) | refine h3'' (hw := ?_) | refine h4'' (hw := ?_) | (with_reducible intro hc) | refine d6 (ht := ?_) | refine d7 (hf := ?_) | refine u5 (hk := ?_) | refine u6 (hk := ?_) | refine u7 (hk := ?_) | refine u8 (hk := ?_) | refine d8 (ht := ?_) (hf := ?_) | refine d9 (ht := ?_) (hf := ?_))
  exact rB (hv := rfl)
theorem k_impl_TypeKnows' {ls : List Lab} {ss : Stps} (h : Int) (S : St) (hok : progOk ls ss = true) : Ev Y impl_TypeKnows [PR ls ss, I h] S (BL (knowsOf ls h)) S := by
  obtain ⟨p1, p2, p3, p4⟩ := progOk_in hok
  have := k_impl_TypeKnows ls ss h S (by omega) (by omega)
  rwa [hok] at this
theorem k_impl_LeakOf (ls : List Lab) (ss : Stps) (h : Int) (S : St) (hs : ss.sz ≤ 1048576) (hl : ls.length ≤ 1048576) : Ev Y impl_LeakOf [PR ls ss, I h] S (FND ls.length (leakOf ls ss h)) S := by
  by_cases hg : progOk ls ss = true ∧ inB h 0 2 = true
  · obtain ⟨hok, hin⟩ := hg
    have hno : (!progOk ls ss) = false := by rw [hok]; rfl
    have hni : (!inB h 0 2) = false := by rw [hin]; rfl
    have hq : leakOf ls ss h = (pairs (2 ^ ls.length)).find? (pairAt ls ss (knowsOf ls h) fun ra rb => !(runTo ra.ss h == runTo rb.ss h)) := by simp only [leakOf, hok, hin, Bool.and_self, if_true]; rfl
    have fd := fun (q : Nat) (S : St) (hS : S[q]? = some (.cells false [[I h]])) => k_impl_pair ls ss (knowsOf ls h) impl_LeakOf_1 (.ptr q 1 0 0) q (.cells false [[I h]]) (fun ra rb => !(runTo ra.ss h == runTo rb.ss h)) S hok (by simp [knowsOf]) rfl hS (fun ra rb S' a b c d e => k_impl_LeakOf_1 ra rb h q S' b d e)
    rw [← hq] at fd
    cases hr : leakOf ls ss h with
    | none =>
      rw [hr] at fd
      refine E_start (h := ?_)
      repeat' (first | refine c0 ?_ | refine c1 ?_ | refine c2 ?_ | refine c3 ?_ | refine c4 ?_ | refine c5 ?_ | refine c6 (h := ?_) | refine c7 ?_ | refine d2 ?_ | refine c8 ?_ | refine c9 ?_ | refine d0 ?_ | refine d1 ?_ | refine d4 ?_ | refine d3' (h := ?_) | refine d4' ?_ | refine a0 (hk := ?_) | refine k0 (he := (by first | exact k_impl_ProgOk _ _ _ hs hl | exact k_impl_isHost _ _ | exact k_impl_TypeKnows' _ _ hok | exact fd _ _ (get_own rfl))) (hk := ?_) | refine k1 (he := (by first | exact k_impl_ProgOk _ _ _ hs hl | exact k_impl_isHost _ _ | exact k_impl_TypeKnows' _ _ hok | exact fd _ _ (get_own rfl))) (hk := ?_) | refine k0' (he := (by first | exact k_impl_ProgOk _ _ _ hs hl | exact k_impl_isHost _ _ | exact k_impl_TypeKnows' _ _ hok | exact fd _ _ (get_own rfl))) (hk := ?_) | refine k2' (he := (by first | exact k_impl_ProgOk _ _ _ hs hl | exact k_impl_isHost _ _ | exact k_impl_TypeKnows' _ _ hok | exact fd _ _ (get_own rfl))) (hk := ?_) | refine k3' (he := (by first | exact k_impl_ProgOk _ _ _ hs hl | exact k_impl_isHost _ _ | exact k_impl_TypeKnows' _ _ hok | exact fd _ _ (get_own rfl))) (hk := ?_) | refine k1' (he := (by first | exact k_impl_ProgOk _ _ _ hs hl | exact k_impl_isHost _ _ | exact k_impl_TypeKnows' _ _ hok | exact fd _ _ (get_own rfl))) (hk := ?_) | refine b0 (hk := ?_) | refine b1 (hk := ?_) | refine b2 (hk := ?_) | refine b3 (hk := ?_) | refine b4 (hk := ?_) | refine p1 (hk := ?_) | refine g0' (hk := ?_) | refine a1 (hk := ?_) | refine a2 (hk := ?_) | refine u1 (hk := ?_) | refine u2 (hk := ?_) | refine u3 (hk := ?_) | refine u4 (hk := ?_) | refine a3 (ht := ?_) (hf := ?_) | refine a4 (ht := ?_) (hf := ?_) | refine a5 (hk := ?_) | refine b5 (hk := ?_) | refine b6 (hk := ?_) | refine b8 (hk := ?_) | refine b9 (hk := ?_) | refine b7 (hk := ?_) | refine p0 (hk := ?_) | refine g1 (hw := ?_) | refine g2 (hw := ?_) | refine g3 (hw := ?_) | refine g4 (hw := ?_) | refine e0' (hk := ?_) | refine b0' (hk := ?_) | refine b1' (hk := ?_) | refine p1' (hk := ?_) | refine e1' (hk := ?_) | refine e2' (hk := ?_) | refine u1' (hk := ?_) | refine u2' (hk := ?_) | refine u3' (hk := ?_) | refine u4' (hk := ?_) | refine e3' (ht := ?_) (hf := ?_) | refine e4' (ht := ?_) (hf := ?_) | refine b4' (hk := ?_) | refine b7b (hk := ?_) | refine e5' (hk := ?_) | refine f5' (hk := ?_) | refine f6' (hk := ?_) | refine f8' (hk := ?_) | refine f9' (hk := ?_) | refine b7' (hk := ?_) | refine p0' (hk := ?_) | refine h1'' (hw := ?_) | refine h2'' (hw := ?_) | refine h3'' (hw := ?_) | refine h4'' (hw := ?_) | (with_reducible intro hc) | refine d6 (ht := ?_) | refine d7 (hf := ?_) | refine u5 (hk := ?_) | refine u6 (hk := ?_) | refine u7 (hk := ?_) | refine u8 (hk := ?_) | refine d8 (ht := ?_) (hf := ?_) | refine d9 (ht := ?_) (hf := ?_))
      exact rV (vs := [L [], L [], .bool false]) (v := .tup [L [], L [], .bool false])
    | some p =>
      obtain ⟨k, i⟩ := p
      rw [hr] at fd
      refine E_start (h := ?_)
      repeat' (first | refine c0 ?_ | refine c1 ?_ | refine c2 ?_ | refine c3 ?_ | refine c4 ?_ | refine c5 ?_ | refine c6 (h := ?_) | refine c7 ?_ | refine d2 ?_ | refine c8 ?_ | refine c9 ?_ | refine d0 ?_ | refine d1 ?_ | refine d4 ?_ | refine d3' (h := ?_) | refine d4' ?_ | refine a0 (hk := ?_) | refine k0 (he := (by first | exact k_impl_ProgOk _ _ _ hs hl | exact k_impl_isHost _ _ | exact k_impl_TypeKnows' _ _ hok | exact fd _ _ (get_own rfl))) (hk := ?_) | refine k1 (he := (by first | exact k_impl_ProgOk _ _ _ hs hl | exact k_impl_isHost _ _ | exact k_impl_TypeKnows' _ _ hok | exact fd _ _ (get_own rfl))) (hk := ?_) | refine k0' (he := (by first | exact k_impl_ProgOk _ _ _ hs hl | exact k_impl_isHost _ _ | exact k_impl_TypeKnows' _ _ hok | exact fd _ _ (get_own rfl))) (hk := ?_) | refine k2' (he := (by first | exact k_impl_ProgOk _ _ _ hs hl | exact k_impl_isHost _ _ | exact k_impl_TypeKnows' _ _ hok | exact fd _ _ (get_own rfl))) (hk := ?_) | refine k3' (he := (by first | exact k_impl_ProgOk _ _ _ hs hl | exact k_impl_isHost _ _ | exact k_impl_TypeKnows' _ _ hok | exact fd _ _ (get_own rfl))) (hk := ?_) | refine k1' (he := (by first | exact k_impl_ProgOk _ _ _ hs hl | exact k_impl_isHost _ _ | exact k_impl_TypeKnows' _ _ hok | exact fd _ _ (get_own rfl))) (hk := ?_) | refine b0 (hk := ?_) | refine b1 (hk := ?_) | refine b2 (hk := ?_) | refine b3 (hk := ?_) | refine b4 (hk := ?_) | refine p1 (hk := ?_) | refine g0' (hk := ?_) | refine a1 (hk := ?_) | refine a2 (hk := ?_) | refine u1 (hk := ?_) | refine u2 (hk := ?_) | refine u3 (hk := ?_) | refine u4 (hk := ?_) | refine a3 (ht := ?_) (hf := ?_) | refine a4 (ht := ?_) (hf := ?_) | refine a5 (hk := ?_) | refine b5 (hk := ?_) | refine b6 (hk := ?_) | refine b8 (hk := ?_) | refine b9 (hk := ?_) | refine b7 (hk := ?_) | refine p0 (hk := ?_) | refine g1 (hw := ?_) | refine g2 (hw := ?_) | refine g3 (hw := ?_) | refine g4 (hw := ?_) | refine e0' (hk := ?_) | refine b0' (hk := ?_) | refine b1' (hk := ?_) | refine p1' (hk := ?_) | refine e1' (hk := ?_) | refine e2' (hk := ?_) | refine u1' (hk := ?_) | refine u2' (hk := ?_) | refine u3' (hk := ?_) | refine u4' (hk := ?_) | refine e3' (ht := ?_) (hf := ?_) | refine e4' (ht := ?_) (hf := ?_) | refine b4' (hk := ?_) | refine b7b (hk := ?_) | refine e5' (hk := ?_) | refine f5' (hk := ?_) | refine f6' (hk := ?_) | refine f8' (hk := ?_) | refine f9' (hk := ?_) | refine b7' (hk := ?_) | refine p0' (hk := ?_) | refine h1'' (hw := ?_) | refine h2'' (hw := ?_) | refine h3'' (hw := ?_) | refine h4'' (hw := ?_) | (with_reducible intro hc) | refine d6 (ht := ?_) | refine d7 (hf := ?_) | refine u5 (hk := ?_) | refine u6 (hk := ?_) | refine u7 (hk := ?_) | refine u8 (hk := ?_) | refine d8 (ht := ?_) (hf := ?_) | refine d9 (ht := ?_) (hf := ?_))
      exact rV (vs := [L (row2 k ls.length), L (row2 i ls.length), .bool true]) (v := .tup [L (row2 k ls.length), L (row2 i ls.length), .bool true])
  · have hq : leakOf ls ss h = none := by
      unfold leakOf
      rw [if_neg (by simpa using hg)]
    rw [hq]
    refine E_start (h := ?_)
    by_cases hok : progOk ls ss = true
    · have hno : (!progOk ls ss) = false := by rw [hok]; rfl
      have hni : (!inB h 0 2) = true := by simpa [hok] using hg
      repeat' (first | refine c0 ?_ | refine c1 ?_ | refine c2 ?_ | refine c3 ?_ | refine c4 ?_ | refine c5 ?_ | refine c6 (h := ?_) | refine c7 ?_ | refine d2 ?_ | refine c8 ?_ | refine c9 ?_ | refine d0 ?_ | refine d1 ?_ | refine d4 ?_ | refine a0 (hk := ?_) | refine k0 (he := (by first | exact k_impl_ProgOk _ _ _ hs hl | exact k_impl_isHost _ _)) (hk := ?_) | refine k1 (he := (by first | exact k_impl_ProgOk _ _ _ hs hl | exact k_impl_isHost _ _)) (hk := ?_) | refine b0 (hk := ?_) | refine b1 (hk := ?_) | refine b2 (hk := ?_) | refine b3 (hk := ?_) | refine b4 (hk := ?_) | refine p1 (hk := ?_) | refine g0' (hk := ?_) | refine a1 (hk := ?_) | refine a2 (hk := ?_) | refine u1 (hk := ?_) | refine u2 (hk := ?_) | refine u3 (hk := ?_) | refine u4 (hk := ?_) | refine a3 (ht := ?_) (hf := ?_) | refine a4 (ht := ?_) (hf := ?_) | refine a5 (hk := ?_) | refine b5 (hk := ?_) | refine b6 (hk := ?_) | refine b8 (hk := ?_) | refine b9 (hk := ?_) | refine b7 (hk := ?_) | refine p0 (hk := ?_) | refine g1 (hw := ?_) | refine g2 (hw := ?_) | refine g3 (hw := ?_) | refine g4 (hw := ?_) | (with_reducible intro hc) | refine d6 (ht := ?_) | refine d7 (hf := ?_) | refine u5 (hk := ?_) | refine u6 (hk := ?_) | refine u7 (hk := ?_) | refine u8 (hk := ?_) | refine d8 (ht := ?_) (hf := ?_) | refine d9 (ht := ?_) (hf := ?_))
      all_goals exact rG (vs := [.sl (S.length + 4) 0, .sl (S.length + 5) 0, .bool false]) (v := .tup [.lst [], .lst [], .bool false]) (hz := frzR_tup (fmS (fzV_sl rfl (by omega) (get_own rfl) rfl rfl) (fmS (fzV_sl rfl (by omega) (get_own rfl) rfl rfl) (fmS rfl fm0)))) (hl := by simp) (ho := fun j hj => by rw [List.getElem?_append_left hj])
    · have hno : (!progOk ls ss) = true := by simpa using hok
      repeat' (first | refine c0 ?_ | refine c1 ?_ | refine c2 ?_ | refine c3 ?_ | refine c4 ?_ | refine c5 ?_ | refine c6 (h := ?_) | refine c7 ?_ | refine d2 ?_ | refine c8 ?_ | refine c9 ?_ | refine d0 ?_ | refine d1 ?_ | refine d4 ?_ | refine a0 (hk := ?_) | refine k0 (he := (by first | exact k_impl_ProgOk _ _ _ hs hl | exact k_impl_isHost _ _)) (hk := ?_) | refine k1 (he := (by first | exact k_impl_ProgOk _ _ _ hs hl | exact k_impl_isHost _ _)) (hk := ?_) | refine b0 (hk := ?_) | refine b1 (hk := ?_) | refine b2 (hk := ?_) | refine b3 (hk := ?_) | refine b4 (hk := ?_) | refine p1 (hk := ?_) | refine g0' (hk := ?_) | refine a1 (hk := ?_) | refine a2 (hk := ?_) | refine u1 (hk := ?_) | refine u2 (hk := ?_) | refine u3 (hk := ?_) | refine u4 (hk := ?_) | refine a3 (ht := ?_) (hf := ?_) | refine a4 (ht := ?_) (hf := ?_) | refine a5 (hk := ?_) | refine b5 (hk := ?_) | refine b6 (hk := ?_) | refine b8 (hk := ?_) | refine b9 (hk := ?_) | refine b7 (hk := ?_) | refine p0 (hk := ?_) | refine g1 (hw := ?_) | refine g2 (hw := ?_) | refine g3 (hw := ?_) | refine g4 (hw := ?_) | (with_reducible intro hc) | refine d6 (ht := ?_) | refine d7 (hf := ?_) | refine u5 (hk := ?_) | refine u6 (hk := ?_) | refine u7 (hk := ?_) | refine u8 (hk := ?_) | refine d8 (ht := ?_) (hf := ?_) | refine d9 (ht := ?_) (hf := ?_))
      all_goals exact rG (vs := [.sl (S.length + 4) 0, .sl (S.length + 5) 0, .bool false]) (v := .tup [.lst [], .lst [], .bool false]) (hz := frzR_tup (fmS (fzV_sl rfl (by omega) (get_own rfl) rfl rfl) (fmS (fzV_sl rfl (by omega) (get_own rfl) rfl rfl) (fmS rfl fm0)))) (hl := by simp) (ho := fun j hj => by rw [List.getElem?_append_left hj])
end Go.Proofs.X
end
section
namespace Go.Proofs.X
open Go Go.Proofs.XVai Go.Proofs Go.Proofs.XN
set_option linter.unusedVariables false
set_option linter.unusedSimpArgs false
set_option maxHeartbeats 4000000
theorem k_laws_lcInts (xs ys : List Int) (S : St) (hx : xs.length ≤ 1048576) (hy : ys.length ≤ 1048576) : Ev Y laws_lcInts [L xs, L ys] S (.bool (xs == ys)) S := by
  refine E_start (h := ?_)
  repeat' (first | refine c0 ?_ | refine c1 ?_ | refine c2 ?_ | refine c3 ?_ | refine c4 ?_ | refine c5 ?_ | refine c6 (h := ?_) | refine c7 ?_ | refine d2 ?_ | refine c8 ?_ | refine c9 ?_ | refine d0 ?_ | refine d1 ?_ | refine d4 ?_ | refine a0 (hk := ?_) | refine b0 (hk := ?_) | refine b1 (hk := ?_) | refine b2 (hk := ?_) | refine b3 (hk := ?_) | refine b4 (hk := ?_) | refine p1 (hk := ?_) | refine g0' (hk := ?_) | refine a1 (hk := ?_) | refine a2 (hk := ?_) | refine u1 (hk := ?_) | refine u2 (hk := ?_) | refine u3 (hk := ?_) | refine u4 (hk := ?_) | refine a3 (ht := ?_) (hf := ?_) | refine a4 (ht := ?_) (hf := ?_) | refine a5 (hk := ?_) | refine b5 (hk := ?_) | refine b6 (hk := ?_) | refine b8 (hk := ?_) | refine b9 (hk := ?_) | refine b7 (hk := ?_) | refine p0 (hk := ?_) | refine g1 (hw := ?_) | refine g2 (hw := ?_) | refine g3 (hw := ?_) | refine g4 (hw := ?_) | (with_reducible intro hc) | refine d6 (ht := ?_) | refine d7 (hf := ?_) | refine u5 (hk := ?_) | refine u6 (hk := ?_) | refine u7 (hk := ?_) | refine u8 (hk := ?_) | refine d8 (ht := ?_) (hf := ?_) | refine d9 (ht := ?_) (hf := ?_))
  · refine rB (hv := ?_)
    simp at hc
    symm; simp; intro e; rw [e] at hc; exact hc rfl
  · have hlen : xs.length = ys.length := by simp at hc; omega
    refine C_list xs (fun pre r T' S' => ∃ (T0 : Tm) (S1 : St), (xs == ys) = (r == ys.drop pre.length) ∧ Ext S S1 ∧ T' = putL T0 [(0, L xs), (1, L ys), (5, I pre.length)] ∧ S' = S1 ++ [])
      ⟨_, _, rfl, ex0, at_mk ⟨rfl, rfl, rfl, trivial⟩, (List.append_nil _).symm⟩ ?_ ?_
    · rintro pre x r T' S' hxs ⟨T0, S1, hq, hE, rfl, rfl⟩
      have hg := mid hxs
      have hlt := mid_lt hxs
      have hlt2 : pre.length < ys.length := by omega
      have hg2 : ys[pre.length]? = some ys[pre.length] := by simp [hlt2]
      rw [List.drop_eq_getElem_cons hlt2] at hq
      have hq : (xs == ys) = (x == ys[pre.length] && r == ys.drop (pre.length + 1)) := hq
      repeat' (first | refine c0 ?_ | refine c1 ?_ | refine c2 ?_ | refine c3 ?_ | refine c4 ?_ | refine c5 ?_ | refine c6 (h := ?_) | refine c7 ?_ | refine d2 ?_ | refine c8 ?_ | refine c9 ?_ | refine d0 ?_ | refine d1 ?_ | refine d4 ?_ | refine d3' (h := ?_) | refine d4' ?_ | refine a0 (hk := ?_) | refine b0 (hk := ?_) | refine b1 (hk := ?_) | refine b2 (hk := ?_) | refine b3 (hk := ?_) | refine b4 (hk := ?_) | refine p1 (hk := ?_) | refine g0' (hk := ?_) | refine a1 (hk := ?_) | refine a2 (hk := ?_) | refine u1 (hk := ?_) | refine u2 (hk := ?_) | refine u3 (hk := ?_) | refine u4 (hk := ?_) | refine a3 (ht := ?_) (hf := ?_) | refine a4 (ht := ?_) (hf := ?_) | refine a5 (hk := ?_) | refine b5 (hk := ?_) | refine b6 (hk := ?_) | refine b8 (hk := ?_) | refine b9 (hk := ?_) | refine b7 (hk := ?_) | refine p0 (hk := ?_) | refine g1 (hw := ?_) | refine g2 (hw := ?_) | refine g3 (hw := ?_) | refine g4 (hw := ?_) | refine e0' (hk := ?_) | refine b0' (hk := ?_) | refine b1' (hk := ?_) | refine p1' (hk := ?_) | refine e1' (hk := ?_) | refine e2' (hk := ?_) | refine u1' (hk := ?_) | refine u2' (hk := ?_) | refine u3' (hk := ?_) | refine u4' (hk := ?_) | refine e3' (ht := ?_) (hf := ?_) | refine e4' (ht := ?_) (hf := ?_) | refine b4' (hk := ?_) | refine b7b (hk := ?_) | refine e5' (hk := ?_) | refine f5' (hk := ?_) | refine f6' (hk := ?_) | refine f8' (hk := ?_) | refine f9' (hk := ?_) | refine b7' (hk := ?_) | refine p0' (hk := ?_) | refine h1'' (hw := ?_) | refine h2'' (hw := ?_) | refine h3'' (hw := ?_) | refine h4'' (hw := ?_) | (with_reducible intro hc) | refine d6 (ht := ?_) | refine d7 (hf := ?_) | refine u5 (hk := ?_) | refine u6 (hk := ?_) | refine u7 (hk := ?_) | refine u8 (hk := ?_) | refine d8 (ht := ?_) (hf := ?_) | refine d9 (ht := ?_) (hf := ?_))
      · refine rBx hE (hv := ?_)
        rw [hq]; simp at hc; simp [hc]
      · refine ⟨_, _, ?_, ex1 hE, at_mk ⟨rfl, rfl, inc (by omega), trivial⟩, (List.append_nil _).symm⟩
        rw [hq]; simp at hc; simp [hc]
      · simp at hc; omega
    · rintro T' S' ⟨T0, S1, hq, hE, rfl, rfl⟩
      repeat' (first | refine c0 ?_ | refine c1 ?_ | refine c2 ?_ | refine c3 ?_ | refine c4 ?_ | refine c5 ?_ | refine c6 (h := ?_) | refine c7 ?_ | refine d2 ?_ | refine c8 ?_ | refine c9 ?_ | refine d0 ?_ | refine d1 ?_ | refine d4 ?_ | refine a0 (hk := ?_) | refine b0 (hk := ?_) | refine b1 (hk := ?_) | refine b2 (hk := ?_) | refine b3 (hk := ?_) | refine b4 (hk := ?_) | refine p1 (hk := ?_) | refine g0' (hk := ?_) | refine a1 (hk := ?_) | refine a2 (hk := ?_) | refine u1 (hk := ?_) | refine u2 (hk := ?_) | refine u3 (hk := ?_) | refine u4 (hk := ?_) | refine a3 (ht := ?_) (hf := ?_) | refine a4 (ht := ?_) (hf := ?_) | refine a5 (hk := ?_) | refine b5 (hk := ?_) | refine b6 (hk := ?_) | refine b8 (hk := ?_) | refine b9 (hk := ?_) | refine b7 (hk := ?_) | refine p0 (hk := ?_) | refine g1 (hw := ?_) | refine g2 (hw := ?_) | refine g3 (hw := ?_) | refine g4 (hw := ?_) | (with_reducible intro hc) | refine d6 (ht := ?_) | refine d7 (hf := ?_) | refine u5 (hk := ?_) | refine u6 (hk := ?_) | refine u7 (hk := ?_) | refine u8 (hk := ?_) | refine d8 (ht := ?_) (hf := ?_) | refine d9 (ht := ?_) (hf := ?_))
      · simp at hc
      · exact rBx hE (hv := by rw [hq, hlen]; simp)
/-- Is something told to a host? -/
def tells : Stps → Int → Bool
  | .nil, _ => false
  | .cons k _ _ hh t e r, h => (k == 3 && hh == h || (tells t h || tells e h)) || tells r h
theorem k_laws_lcTells (n : Nat) : ∀ (l : Stps) (h : Int) (S : St), l.sz ≤ n → l.sz ≤ 1048576 → Ev Y laws_lcTells [.lst l.rows, I h] S (.bool (tells l h)) S := by
  induction n with
  | zero =>
    intro l h S hn _
    cases l with
    | cons => simp [Stps.sz] at hn
    | nil =>
      refine E_start (h := ?_)
      repeat' (first | refine c0 ?_ | refine c1 ?_ | refine c2 ?_ | refine c3 ?_ | refine c4 ?_ | refine c5 ?_ | refine c6 (h := ?_) | refine c7 ?_ | refine d2 ?_ | refine c8 ?_ | refine c9 ?_ | refine d0 ?_ | refine d1 ?_ | refine d4 ?_ | refine a0 (hk := ?_) | refine b0 (hk := ?_) | refine b1 (hk := ?_) | refine b2 (hk := ?_) | refine b3 (hk := ?_) | refine b4 (hk := ?_) | refine p1 (hk := ?_) | refine g0' (hk := ?_) | refine a1 (hk := ?_) | refine a2 (hk := ?_) | refine u1 (hk := ?_) | refine u2 (hk := ?_) | refine u3 (hk := ?_) | refine u4 (hk := ?_) | refine a3 (ht := ?_) (hf := ?_) | refine a4 (ht := ?_) (hf := ?_) | refine a5 (hk := ?_) | refine b5 (hk := ?_) | refine b6 (hk := ?_) | refine b8 (hk := ?_) | refine b9 (hk := ?_) | refine b7 (hk := ?_) | refine p0 (hk := ?_) | refine g1 (hw := ?_) | refine g2 (hw := ?_) | refine g3 (hw := ?_) | refine g4 (hw := ?_) | (with_reducible intro hc) | refine d6 (ht := ?_) | refine d7 (hf := ?_) | refine u5 (hk := ?_) | refine u6 (hk := ?_) | refine u7 (hk := ?_) | refine u8 (hk := ?_) | refine d8 (ht := ?_) (hf := ?_) | refine d9 (ht := ?_) (hf := ?_))
      refine d5 ?_
      repeat' (first | refine c0 ?_ | refine c1 ?_ | refine c2 ?_ | refine c3 ?_ | refine c4 ?_ | refine c5 ?_ | refine c6 (h := ?_) | refine c7 ?_ | refine d2 ?_ | refine c8 ?_ | refine c9 ?_ | refine d0 ?_ | refine d1 ?_ | refine d4 ?_ | refine a0 (hk := ?_) | refine b0 (hk := ?_) | refine b1 (hk := ?_) | refine b2 (hk := ?_) | refine b3 (hk := ?_) | refine b4 (hk := ?_) | refine p1 (hk := ?_) | refine g0' (hk := ?_) | refine a1 (hk := ?_) | refine a2 (hk := ?_) | refine u1 (hk := ?_) | refine u2 (hk := ?_) | refine u3 (hk := ?_) | refine u4 (hk := ?_) | refine a3 (ht := ?_) (hf := ?_) | refine a4 (ht := ?_) (hf := ?_) | refine a5 (hk := ?_) | refine b5 (hk := ?_) | refine b6 (hk := ?_) | refine b8 (hk := ?_) | refine b9 (hk := ?_) | refine b7 (hk := ?_) | refine p0 (hk := ?_) | refine g1 (hw := ?_) | refine g2 (hw := ?_) | refine g3 (hw := ?_) | refine g4 (hw := ?_) | (with_reducible intro hc) | refine d6 (ht := ?_) | refine d7 (hf := ?_) | refine u5 (hk := ?_) | refine u6 (hk := ?_) | refine u7 (hk := ?_) | refine u8 (hk := ?_) | refine d8 (ht := ?_) (hf := ?_) | refine d9 (ht := ?_) (hf := ?_))
      exact rB (hv := rfl)
  | succ n ih =>
    intro l h S hn hb
    refine E_start (h := ?_)
    repeat' (first | refine c0 ?_ | refine c1 ?_ | refine c2 ?_ | refine c3 ?_ | refine c4 ?_ | refine c5 ?_ | refine c6 (h := ?_) | refine c7 ?_ | refine d2 ?_ | refine c8 ?_ | refine c9 ?_ | refine d0 ?_ | refine d1 ?_ | refine d4 ?_ | refine a0 (hk := ?_) | refine b0 (hk := ?_) | refine b1 (hk := ?_) | refine b2 (hk := ?_) | refine b3 (hk := ?_) | refine b4 (hk := ?_) | refine p1 (hk := ?_) | refine g0' (hk := ?_) | refine a1 (hk := ?_) | refine a2 (hk := ?_) | refine u1 (hk := ?_) | refine u2 (hk := ?_) | refine u3 (hk := ?_) | refine u4 (hk := ?_) | refine a3 (ht := ?_) (hf := ?_) | refine a4 (ht := ?_) (hf := ?_) | refine a5 (hk := ?_) | refine b5 (hk := ?_) | refine b6 (hk := ?_) | refine b8 (hk := ?_) | refine b9 (hk := ?_) | refine b7 (hk := ?_) | refine p0 (hk := ?_) | refine g1 (hw := ?_) | refine g2 (hw := ?_) | refine g3 (hw := ?_) | refine g4 (hw := ?_) | (with_reducible intro hc) | refine d6 (ht := ?_) | refine d7 (hf := ?_) | refine u5 (hk := ?_) | refine u6 (hk := ?_) | refine u7 (hk := ?_) | refine u8 (hk := ?_) | refine d8 (ht := ?_) (hf := ?_) | refine d9 (ht := ?_) (hf := ?_))
    refine C_stps l (fun pre r T' S' => ∃ (T0 : Tm) (S1 : St), tells l h = tells r h ∧ Ext S S1 ∧ T' = putL T0 [(0, .lst l.rows), (1, I h), (5, I pre.length)] ∧ S' = S1 ++ [])
      ⟨_, _, rfl, ex0, at_mk ⟨rfl, rfl, rfl, trivial⟩, (List.append_nil _).symm⟩ ?_ ?_
    · rintro pre k v x hh t e r T' S' hx hz ⟨T0, S1, hq, hE, rfl, rfl⟩
      have hg := mid hx
      have hlt := mid_lt hx
      have := l.rows_len
      have := l.len_sz
      have hc0 : (pre.length : Int) < (l.rows.length : Int) := by omega
      simp only [tells] at hq
      have it := fun S => ih t h S (by omega) (by omega)
      have ie := fun S => ih e h S (by omega) (by omega)
      clear ih
      repeat' (first | refine c0 ?_ | refine c1 ?_ | refine c2 ?_ | refine c3 ?_ | refine c4 ?_ | refine c5 ?_ | refine c6 (h := ?_) | refine c7 ?_ | refine d2 ?_ | refine c8 ?_ | refine c9 ?_ | refine d0 ?_ | refine d1 ?_ | refine d4 ?_ | refine a0 (hk := ?_) | refine k0 (he := (by first | exact it _ | exact ie _)) (hk := ?_) | refine k1 (he := (by first | exact it _ | exact ie _)) (hk := ?_) | refine b0 (hk := ?_) | refine b1 (hk := ?_) | refine b2 (hk := ?_) | refine b3 (hk := ?_) | refine b4 (hk := ?_) | refine p1 (hk := ?_) | refine g0' (hk := ?_) | refine a1 (hk := ?_) | refine a2 (hk := ?_) | refine u1 (hk := ?_) | refine u2 (hk := ?_) | refine u3 (hk := ?_) | refine u4 (hk := ?_) | refine a3 (ht := ?_) (hf := ?_) | refine a4 (ht := ?_) (hf := ?_) | refine a5 (hk := ?_) | refine b5 (hk := ?_) | refine b6 (hk := ?_) | refine b8 (hk := ?_) | refine b9 (hk := ?_) | refine b7 (hk := ?_) | refine p0 (hk := ?_) | refine g1 (hw := ?_) | refine g2 (hw := ?_) | refine g3 (hw := ?_) | refine g4 (hw := ?_) | (with_reducible intro hc) | refine d6 (ht := ?_) | refine d7 (hf := ?_) | refine u5 (hk := ?_) | refine u6 (hk := ?_) | refine u7 (hk := ?_) | refine u8 (hk := ?_) | refine d8 (ht := ?_) (hf := ?_) | refine d9 (ht := ?_) (hf := ?_))
      all_goals clear it ie
      all_goals first
        | (refine rBx hE (hv := ?_); rw [hq]; clear hq; simp_all; done)
        | (refine ⟨_, _, ?_, ex1 hE, at_mk ⟨rfl, rfl, inc (by omega), trivial⟩, (List.append_nil _).symm⟩; rw [hq]; clear hq; simp_all; done)
    · rintro pre T' S' hx ⟨T0, S1, hq, hE, rfl, rfl⟩
      repeat' (first | refine c0 ?_ | refine c1 ?_ | refine c2 ?_ | refine c3 ?_ | refine c4 ?_ | refine c5 ?_ | refine c6 (h := ?_) | refine c7 ?_ | refine d2 ?_ | refine c8 ?_ | refine c9 ?_ | refine d0 ?_ | refine d1 ?_ | refine d4 ?_ | refine a0 (hk := ?_) | refine b0 (hk := ?_) | refine b1 (hk := ?_) | refine b2 (hk := ?_) | refine b3 (hk := ?_) | refine b4 (hk := ?_) | refine p1 (hk := ?_) | refine g0' (hk := ?_) | refine a1 (hk := ?_) | refine a2 (hk := ?_) | refine u1 (hk := ?_) | refine u2 (hk := ?_) | refine u3 (hk := ?_) | refine u4 (hk := ?_) | refine a3 (ht := ?_) (hf := ?_) | refine a4 (ht := ?_) (hf := ?_) | refine a5 (hk := ?_) | refine b5 (hk := ?_) | refine b6 (hk := ?_) | refine b8 (hk := ?_) | refine b9 (hk := ?_) | refine b7 (hk := ?_) | refine p0 (hk := ?_) | refine g1 (hw := ?_) | refine g2 (hw := ?_) | refine g3 (hw := ?_) | refine g4 (hw := ?_) | (with_reducible intro hc) | refine d6 (ht := ?_) | refine d7 (hf := ?_) | refine u5 (hk := ?_) | refine u6 (hk := ?_) | refine u7 (hk := ?_) | refine u8 (hk := ?_) | refine d8 (ht := ?_) (hf := ?_) | refine d9 (ht := ?_) (hf := ?_))
      · simp [hx] at hc
      · exact rBx hE (hv := by rw [hq]; rfl)
end Go.Proofs.X
end
section
namespace Go.Proofs.X
open Go Go.Proofs.XVai Go.Proofs Go.Proofs.XN
set_option linter.unusedVariables false
set_option linter.unusedSimpArgs false
set_option maxHeartbeats 4000000
set_option maxRecDepth 100000
theorem lcInts_eq (a : List Int) (S : St) (ha : a.length ≤ 1048576) : Ev Y laws_lcInts [L a, L a] S (.bool true) S := by
  have := k_laws_lcInts a a S ha ha
  rwa [beq_self_eq_true] at this
end Go.Proofs.X
end
section
namespace Go.Proofs.X
open Go Go.Proofs.XVai Go.Proofs Go.Proofs.XN
set_option linter.unusedVariables false
set_option linter.unusedSimpArgs false
set_option maxHeartbeats 4000000
set_option maxRecDepth 100000
theorem C_gen {Y : XVai.Sys} {fid : Nat} {T : Tm} {S : St} {Q : Ex → Tm → St → Prop} {c : Code} (P : Tm → St → Prop) (h : P T S) (hk : ∀ T S, P T S → CW Y fid c T S Q) : CW Y fid c T S Q := hk T S h
theorem rKC3 {Y : XVai.Sys} {f : Nat} {fn : Func} {T' : Tm} {S0 S1 S2 : St} {k : Nat} {o o0 : Ob} {v v' : HV} (h0 : S0[k]? = some o0) (hio : idO S0.length o = true) (hkp : Y.keep f = false := by rfl) {a : Tmp} {t : TypeId} (hres : fn.results.toList = [.cell a t] := by rfl) {ti : TI} (h1 : Y.tab t = some ti := by rfl) {q n i of' : Nat} {fr : Bool} {rows : List (List HV)} {row : List HV}
    (h2 : T' a = .ptr q n i of' := by rfl) (h3 : S1[q]? = some (.cells fr rows)) (h4 : rows.length = n := by rfl) (h5 : rows[i]? = some row := by rfl) (h6 : XVai.part ti.agg ti.size row of' = some v := by rfl) (hz : frzR S0.length v S1 = some (v', S2)) (hE : ExtK S0 k o S2) (hi : idR S0.length v' = true := by rfl) : RT Y f fn S0 v' (S0.set k o) .ret T' S1 := by
  obtain ⟨J, rfl⟩ := hE
  have hr : resVs Y T' S1 fn.results.toList = some [v] := by
    rw [hres]
    simp only [resVs, resV, cload, h1, getRow, h2, h3, h4, if_true, h5, Option.map_some, h6]
  refine ⟨?_⟩
  have hold : oldOk S0.length S0 (S0.set k o ++ J) := ⟨by simp, fun j hj => by
    rw [List.getElem?_append_left (by simpa using hj)]
    exact rS1 h0 hio j hj⟩
  have hz' : frzR S0.length (resTup [v]) S1 = some (v', S0.set k o ++ J) := hz
  simp only [cret, hr, hkp, hz']
  simp [hi, hold]
theorem d_l71Bent (ls : List Lab) (ss : Stps) (hl1 : 1 ≤ ls.length) (hl4 : ls.length ≤ 4) (hss : ss.sz ≤ 8) : Dr spec_l71Bent [PR ls ss] 10 (fun v => ∃ ls ss, v = PR ls ss ∧ ss.sz ≤ 100 ∧ ls.length ≤ 100) := by
  refine Dr_of fun bs p k S hb hp hk => ?_
  have hkl : k < S.length := (List.getElem?_eq_some_iff.1 hk).1
  have hz2 : (ls.map lrow).all (fun r => r.length == 2 && r.all isCell) = true := by simp [isCell]
  have hem : (ls.map lrow).isEmpty = false := by cases ls <;> simp_all
  refine E_startR (h := ?_)
  repeat' (first | refine c0 ?_ | refine c1 ?_ | refine c2 ?_ | refine c3 ?_ | refine c4 ?_ | refine c5 ?_ | refine c6 (h := ?_) | refine c7 ?_ | refine d2 ?_ | refine c8 ?_ | refine c9 ?_ | refine d0 ?_ | refine d1 ?_ | refine d4 ?_ | refine d3' (h := ?_) | refine d4' ?_ | refine a0 (hk := ?_) | refine b0 (hk := ?_) | refine b1 (hk := ?_) | refine b2 (hk := ?_) | refine b3 (hk := ?_) | refine b4 (hk := ?_) | refine p1 (hk := ?_) | refine g0' (hk := ?_) | refine a1 (hk := ?_) | refine a2 (hk := ?_) | refine u1 (hk := ?_) | refine u2 (hk := ?_) | refine u3 (hk := ?_) | refine u4 (hk := ?_) | refine a3 (ht := ?_) (hf := ?_) | refine a4 (ht := ?_) (hf := ?_) | refine a5 (hk := ?_) | refine b5 (hk := ?_) | refine b6 (hk := ?_) | refine b8 (hk := ?_) | refine b9 (hk := ?_) | refine b7 (hk := ?_) | refine p0 (hk := ?_) | refine g1 (hw := ?_) | refine g2 (hw := ?_) | refine g3 (hw := ?_) | refine g4 (hw := ?_) | refine e0' (hk := ?_) | refine b0' (hk := ?_) | refine b1' (hk := ?_) | refine p1' (hk := ?_) | refine e1' (hk := ?_) | refine e2' (hk := ?_) | refine u1' (hk := ?_) | refine u2' (hk := ?_) | refine u3' (hk := ?_) | refine u4' (hk := ?_) | refine e3' (ht := ?_) (hf := ?_) | refine e4' (ht := ?_) (hf := ?_) | refine b4' (hk := ?_) | refine b7b (hk := ?_) | refine e5' (hk := ?_) | refine f5' (hk := ?_) | refine f6' (hk := ?_) | refine f8' (hk := ?_) | refine f9' (hk := ?_) | refine b7' (hk := ?_) | refine p0' (hk := ?_) | refine h1'' (hw := ?_) | refine h2'' (hw := ?_) | refine h3'' (hw := ?_) | refine h4'' (hw := ?_) | (with_reducible intro hc) | refine d6 (ht := ?_) | refine d7 (hf := ?_) | refine u5 (hk := ?_) | refine u6 (hk := ?_) | refine u7 (hk := ?_) | refine u8 (hk := ?_) | refine d8 (ht := ?_) (hf := ?_) | refine d9 (ht := ?_) (hf := ?_))
  refine kX' (he := k_spec_l2Copy _ ss _ (Nat.le_refl _) (by omega)) (hx := fun v S' ⟨J, _, h, _⟩ => ⟨J, h⟩) (hk := ?_)
  rintro v J ⟨J', k1, -, rfl, hk1, hle⟩
  rw [List.append_assoc] at hk1 ⊢
  repeat' (first | refine c0 ?_ | refine c1 ?_ | refine c2 ?_ | refine c3 ?_ | refine c4 ?_ | refine c5 ?_ | refine c6 (h := ?_) | refine c7 ?_ | refine d2 ?_ | refine c8 ?_ | refine c9 ?_ | refine d0 ?_ | refine d1 ?_ | refine d4 ?_ | refine d3' (h := ?_) | refine d4' ?_ | refine a0 (hk := ?_) | refine b0 (hk := ?_) | refine b1 (hk := ?_) | refine b2 (hk := ?_) | refine b3 (hk := ?_) | refine b4 (hk := ?_) | refine p1 (hk := ?_) | refine g0' (hk := ?_) | refine a1 (hk := ?_) | refine a2 (hk := ?_) | refine u1 (hk := ?_) | refine u2 (hk := ?_) | refine u3 (hk := ?_) | refine u4 (hk := ?_) | refine a3 (ht := ?_) (hf := ?_) | refine a4 (ht := ?_) (hf := ?_) | refine a5 (hk := ?_) | refine b5 (hk := ?_) | refine b6 (hk := ?_) | refine b8 (hk := ?_) | refine b9 (hk := ?_) | refine b7 (hk := ?_) | refine p0 (hk := ?_) | refine g1 (hw := ?_) | refine g2 (hw := ?_) | refine g3 (hw := ?_) | refine g4 (hw := ?_) | refine e0' (hk := ?_) | refine b0' (hk := ?_) | refine b1' (hk := ?_) | refine p1' (hk := ?_) | refine e1' (hk := ?_) | refine e2' (hk := ?_) | refine u1' (hk := ?_) | refine u2' (hk := ?_) | refine u3' (hk := ?_) | refine u4' (hk := ?_) | refine e3' (ht := ?_) (hf := ?_) | refine e4' (ht := ?_) (hf := ?_) | refine b4' (hk := ?_) | refine b7b (hk := ?_) | refine e5' (hk := ?_) | refine f5' (hk := ?_) | refine f6' (hk := ?_) | refine f8' (hk := ?_) | refine f9' (hk := ?_) | refine b7' (hk := ?_) | refine p0' (hk := ?_) | refine h1'' (hw := ?_) | refine h2'' (hw := ?_) | refine h3'' (hw := ?_) | refine h4'' (hw := ?_) | (with_reducible intro hc) | refine d6 (ht := ?_) | refine d7 (hf := ?_) | refine u5 (hk := ?_) | refine u6 (hk := ?_) | refine u7 (hk := ?_) | refine u8 (hk := ?_) | refine d8 (ht := ?_) (hf := ?_) | refine d9 (ht := ?_) (hf := ?_))
  refine k0 (ha := rfl) (he := k_pick' (get_old hk) hb (by omega)) (hS := set_old hk) (hk := ?_)
  refine d4 ?_
  refine c0 ?_
  refine C_gen (fun T' S' => ∃ (T0 : Tm) (S1 : St) (a b k1 : Nat), S.length + 2 ≤ a ∧ S.length + 2 ≤ b ∧ S.length + 2 ≤ k1 ∧ a ≠ b ∧ a ≠ k1 ∧ b ≠ k1 ∧ ExtK S k (RD bs (p + 1)) S1 ∧ S1[a]? = some (.cells false (ls.map lrow)) ∧ S1[k1]? = some (.cells true ss.rows) ∧ S1[b]? = some (.cells false [[.sl a ls.length, .sl k1 ss.rows.length]]) ∧ (∃ z y, S1[S.length + 1]? = some (.cells false [[z, y]])) ∧
      T' = putL T0 [(0, .ptr k 1 0 0), (4, .ptr (S.length + 1) 1 0 0), (5, .ptr b 1 0 0), (16, I (pickv bs p 8))] ∧ S' = S1 ++ [])
    ⟨_, _, S.length + 5, S.length + 10, k1, by omega, by omega, ?_, by omega, ?_, ?_, xkS, get_setO rfl, ?_, ?_, ⟨_, _, get_setO rfl⟩, at_mk ⟨rfl, rfl, rfl, rfl, trivial⟩, (List.append_nil _).symm⟩ ?_
  · simp at hle; omega
  · simp at hle; omega
  · simp at hle; omega
  · have hle' : S.length + 12 ≤ k1 := by simp at hle; omega
    obtain ⟨i, rfl⟩ : ∃ i, k1 = S.length + i := ⟨k1 - S.length, by omega⟩
    rw [List.getElem?_append_right (by omega), Nat.add_sub_cancel_left] at hk1
    rw [List.getElem?_append_right (by simp), List.length_set, Nat.add_sub_cancel_left]
    rw [List.getElem?_set_ne (by omega), List.getElem?_set_ne (by omega)]
    exact hk1
  · rw [get_setO rfl]; simp; rfl
  rintro T' S' ⟨T0, S1, a, b, k1, ha, hb', hk1, hab, hak, hbk, hE, fa, fk, fb, ⟨z, y, fz⟩, rfl, rfl⟩
  obtain ⟨j, hj, hj8⟩ := pick_nat bs p (n := 8) (by omega)
  have hj : pickv bs p 8 = j := hj
  have hcur := xk_get hk hE
  have hak' : a ≠ k := by omega
  have hbk' : b ≠ k := by omega
  have hkk' : k1 ≠ k := by omega
  have hz1 : S.length + 1 ≠ k := by omega
  have han : (ls.map lrow).length = ls.length := by simp
  have h8 := ss.rows_eight
  have pss := ss.rows_pure
  have hsl := ss.rows_len
  have hsz := ss.len_sz
  by_cases w7 : j = 7
  · have q0 : (pickv bs p 8 == 0) = false := by simp; omega
    have q1 : (pickv bs p 8 == 1) = false := by simp; omega
    have q2 : (pickv bs p 8 == 2) = false := by simp; omega
    have q3 : (pickv bs p 8 == 3) = false := by simp; omega
    have q4 : (pickv bs p 8 == 4) = false := by simp; omega
    have q5 : (pickv bs p 8 == 5) = false := by simp; omega
    have q6 : (pickv bs p 8 == 6) = false := by simp; omega
    repeat' (first | refine c0 ?_ | refine c1 ?_ | refine c2 ?_ | refine c3 ?_ | refine c4 ?_ | refine c5 ?_ | refine c6 (h := ?_) | refine c7 ?_ | refine d2 ?_ | refine c8 ?_ | refine c9 ?_ | refine d0 ?_ | refine d1 ?_ | refine d4 ?_ | refine a0 (hk := ?_) | refine b0 (hk := ?_) | refine b1 (hk := ?_) | refine b2 (hk := ?_) | refine b3 (hk := ?_) | refine b4 (hk := ?_) | refine p1 (hk := ?_) | refine g0' (hk := ?_) | refine a1 (hk := ?_) | refine a2 (hk := ?_) | refine u1 (hk := ?_) | refine u2 (hk := ?_) | refine u3 (hk := ?_) | refine u4 (hk := ?_) | refine a3 (ht := ?_) (hf := ?_) | refine a4 (ht := ?_) (hf := ?_) | refine a5 (hk := ?_) | refine b5 (hk := ?_) | refine b6 (hk := ?_) | refine b8 (hk := ?_) | refine b9 (hk := ?_) | refine b7 (hk := ?_) | refine p0 (hk := ?_) | refine g1 (hw := ?_) | refine g2 (hw := ?_) | refine g3 (hw := ?_) | refine g4 (hw := ?_) | (with_reducible intro hc) | refine d6 (ht := ?_) | refine d7 (hf := ?_) | refine u5 (hk := ?_) | refine u6 (hk := ?_) | refine u7 (hk := ?_) | refine u8 (hk := ?_) | refine d8 (ht := ?_) (hf := ?_) | refine d9 (ht := ?_) (hf := ?_))
    refine b7 (h3 := get_setN (by omega) (setN (by omega) fz)) (h10 := set_setN (setN (by omega) fz)) (hk := ?_)
    repeat' (first | refine c0 ?_ | refine c1 ?_ | refine c2 ?_ | refine c3 ?_ | refine c4 ?_ | refine c5 ?_ | refine c6 (h := ?_) | refine c7 ?_ | refine d2 ?_ | refine c8 ?_ | refine c9 ?_ | refine d0 ?_ | refine d1 ?_ | refine d4 ?_ | refine a0 (hk := ?_) | refine b0 (hk := ?_) | refine b1 (hk := ?_) | refine b2 (hk := ?_) | refine b3 (hk := ?_) | refine b4 (hk := ?_) | refine p1 (hk := ?_) | refine g0' (hk := ?_) | refine a1 (hk := ?_) | refine a2 (hk := ?_) | refine u1 (hk := ?_) | refine u2 (hk := ?_) | refine u3 (hk := ?_) | refine u4 (hk := ?_) | refine a3 (ht := ?_) (hf := ?_) | refine a4 (ht := ?_) (hf := ?_) | refine a5 (hk := ?_) | refine b5 (hk := ?_) | refine b6 (hk := ?_) | refine b8 (hk := ?_) | refine b9 (hk := ?_) | refine b7 (hk := ?_) | refine p0 (hk := ?_) | refine g1 (hw := ?_) | refine g2 (hw := ?_) | refine g3 (hw := ?_) | refine g4 (hw := ?_) | (with_reducible intro hc) | refine d6 (ht := ?_) | refine d7 (hf := ?_) | refine u5 (hk := ?_) | refine u6 (hk := ?_) | refine u7 (hk := ?_) | refine u8 (hk := ?_) | refine d8 (ht := ?_) (hf := ?_) | refine d9 (ht := ?_) (hf := ?_))
    refine ⟨_, _, rKC3 (o := RD bs (p + 1)) hk (RD_ok _ _) (h3 := get_set (setN (by omega) (setN (by omega) fz))) (hz := frzR_aggS (fmS (fz_slF rfl (by omega) (get_setN (by omega) (setN hab (setN hak fa))) han (lrow_pure _)) (fmS (fz_sl rfl (by omega) (setN (Ne.symm hak) (get_setN (by omega) (setN (Ne.symm hbk) (setE fk)))) (by simp) (allP pss rfl)) fm0)))
      (hE := xk4 hk (xk2 (xk4 hk (xk4 hk (xk4 hk hE (by omega)) (by omega)) (by omega))) (by omega)), p + 1, by omega, by omega, ⟨ls, ss.app (.cons 3 0 ⟨0, 0, 0⟩ 3 .nil .nil .nil), by rw [PR, Stps.app_rows]; rfl, by simp [Stps.app_sz, Stps.sz]; omega, by omega⟩, rfl⟩
  have ha2 := lrow2 ls
  by_cases w2 : j = 2
  · skip
    have q0 : (pickv bs p 8 == 0) = false := by simp; omega
    have q1 : (pickv bs p 8 == 1) = false := by simp; omega
    have q2 : (pickv bs p 8 == 2) = true := by simp; omega
    repeat' (first | refine c0 ?_ | refine c1 ?_ | refine c2 ?_ | refine c3 ?_ | refine c4 ?_ | refine c5 ?_ | refine c6 (h := ?_) | refine c7 ?_ | refine d2 ?_ | refine c8 ?_ | refine c9 ?_ | refine d0 ?_ | refine d1 ?_ | refine d4 ?_ | refine a0 (hk := ?_) | refine b0 (hk := ?_) | refine b1 (hk := ?_) | refine b2 (hk := ?_) | refine b3 (hk := ?_) | refine b4 (hk := ?_) | refine p1 (hk := ?_) | refine g0' (hk := ?_) | refine a1 (hk := ?_) | refine a2 (hk := ?_) | refine u1 (hk := ?_) | refine u2 (hk := ?_) | refine u3 (hk := ?_) | refine u4 (hk := ?_) | refine a3 (ht := ?_) (hf := ?_) | refine a4 (ht := ?_) (hf := ?_) | refine a5 (hk := ?_) | refine b5 (hk := ?_) | refine b6 (hk := ?_) | refine b8 (hk := ?_) | refine b9 (hk := ?_) | refine b7 (hk := ?_) | refine p0 (hk := ?_) | refine g1 (hw := ?_) | refine g2 (hw := ?_) | refine g3 (hw := ?_) | refine g4 (hw := ?_) | (with_reducible intro hc) | refine d6 (ht := ?_) | refine d7 (hf := ?_) | refine u5 (hk := ?_) | refine u6 (hk := ?_) | refine u7 (hk := ?_) | refine u8 (hk := ?_) | refine d8 (ht := ?_) (hf := ?_) | refine d9 (ht := ?_) (hf := ?_))
    refine b7 (h3 := get_setN (by omega) (setN (by omega) fz)) (h10 := set_setN (setN (by omega) fz)) (hk := ?_)
    repeat' (first | refine c0 ?_ | refine c1 ?_ | refine c2 ?_ | refine c3 ?_ | refine c4 ?_ | refine c5 ?_ | refine c6 (h := ?_) | refine c7 ?_ | refine d2 ?_ | refine c8 ?_ | refine c9 ?_ | refine d0 ?_ | refine d1 ?_ | refine d4 ?_ | refine a0 (hk := ?_) | refine b0 (hk := ?_) | refine b1 (hk := ?_) | refine b2 (hk := ?_) | refine b3 (hk := ?_) | refine b4 (hk := ?_) | refine p1 (hk := ?_) | refine g0' (hk := ?_) | refine a1 (hk := ?_) | refine a2 (hk := ?_) | refine u1 (hk := ?_) | refine u2 (hk := ?_) | refine u3 (hk := ?_) | refine u4 (hk := ?_) | refine a3 (ht := ?_) (hf := ?_) | refine a4 (ht := ?_) (hf := ?_) | refine a5 (hk := ?_) | refine b5 (hk := ?_) | refine b6 (hk := ?_) | refine b8 (hk := ?_) | refine b9 (hk := ?_) | refine b7 (hk := ?_) | refine p0 (hk := ?_) | refine g1 (hw := ?_) | refine g2 (hw := ?_) | refine g3 (hw := ?_) | refine g4 (hw := ?_) | (with_reducible intro hc) | refine d6 (ht := ?_) | refine d7 (hf := ?_) | refine u5 (hk := ?_) | refine u6 (hk := ?_) | refine u7 (hk := ?_) | refine u8 (hk := ?_) | refine d8 (ht := ?_) (hf := ?_) | refine d9 (ht := ?_) (hf := ?_))
    refine ⟨_, _, rKC3 (o := RD bs (p + 1)) hk (RD_ok _ _) (h3 := get_set (setN (by omega) (setN (by omega) fz))) (hz := frzR_aggS (fmS (fz_slF rfl (by omega) (get_setN (by omega) (setN hab (setN hak fa))) han (lrow_pure _)) (fmS (fz_sl rfl (by omega) (setN (Ne.symm hak) (get_setN (by omega) (setN (Ne.symm hbk) (setE fk)))) (by simp) (allP pss rfl)) fm0)))
      (hE := xk4 hk (xk2 (xk4 hk (xk4 hk (xk4 hk hE (by omega)) (by omega)) (by omega))) (by omega)), p + 1, by omega, by omega, ⟨ls, ss.app (.cons 1 ls.length ⟨1, 0, 0⟩ 0 .nil .nil .nil), by rw [PR, Stps.app_rows]; rfl, by simp [Stps.app_sz, Stps.sz]; omega, by omega⟩, rfl⟩
  by_cases w0 : j = 0
  · have q0 : (pickv bs p 8 == 0) = true := by simp; omega
    obtain ⟨l0, lt, rfl⟩ : ∃ l0 lt, ls = l0 :: lt := by
      cases ls with
      | nil => simp at hl1
      | cons l0 lt => exact ⟨l0, lt, rfl⟩
    have hg0 : (l0 :: lt)[0]? = some l0 := rfl
    repeat' (first | refine c0 ?_ | refine c1 ?_ | refine c2 ?_ | refine c3 ?_ | refine c4 ?_ | refine c5 ?_ | refine c6 (h := ?_) | refine c7 ?_ | refine d2 ?_ | refine c8 ?_ | refine c9 ?_ | refine d0 ?_ | refine d1 ?_ | refine d4 ?_ | refine a0 (hk := ?_) | refine b0 (hk := ?_) | refine b1 (hk := ?_) | refine b2 (hk := ?_) | refine b3 (hk := ?_) | refine b4 (hk := ?_) | refine p1 (hk := ?_) | refine g0' (hk := ?_) | refine a1 (hk := ?_) | refine a2 (hk := ?_) | refine u1 (hk := ?_) | refine u2 (hk := ?_) | refine u3 (hk := ?_) | refine u4 (hk := ?_) | refine a3 (ht := ?_) (hf := ?_) | refine a4 (ht := ?_) (hf := ?_) | refine a5 (hk := ?_) | refine b5 (hk := ?_) | refine b6 (hk := ?_) | refine b8 (hk := ?_) | refine b9 (hk := ?_) | refine b7 (hk := ?_) | refine p0 (hk := ?_) | refine g1 (hw := ?_) | refine g2 (hw := ?_) | refine g3 (hw := ?_) | refine g4 (hw := ?_) | (with_reducible intro hc) | refine d6 (ht := ?_) | refine d7 (hf := ?_) | refine u5 (hk := ?_) | refine u6 (hk := ?_) | refine u7 (hk := ?_) | refine u8 (hk := ?_) | refine d8 (ht := ?_) (hf := ?_) | refine d9 (ht := ?_) (hf := ?_))
    refine ⟨_, _, rKC3 (o := RD bs (p + 1)) hk (RD_ok _ _) (h3 := get_set (setN (by omega) fz)) (hz := frzR_aggS (fmS (fz_slF rfl (by omega) (get_setN (by omega) (setE fa)) (by simp) (lrow_pure (⟨8, l0.t⟩ :: lt))) (fmS (fz_sl rfl (by omega) (setN (Ne.symm hak) (get_setN (by omega) (setN (Ne.symm hak) fk))) rfl pss) fm0)))
      (hE := xk4 hk (xk2 (xk4 hk (xk4 hk hE (by omega)) (by omega))) (by omega)), p + 1, by omega, by omega, ⟨⟨8, l0.t⟩ :: lt, ss, rfl, by omega, by simp at hl4 ⊢; omega⟩, rfl⟩
  by_cases w6 : j = 6
  · skip
    have q0 : (pickv bs p 8 == 0) = false := by simp; omega
    have q1 : (pickv bs p 8 == 1) = false := by simp; omega
    have q2 : (pickv bs p 8 == 2) = false := by simp; omega
    have q3 : (pickv bs p 8 == 3) = false := by simp; omega
    have q4 : (pickv bs p 8 == 4) = false := by simp; omega
    have q5 : (pickv bs p 8 == 5) = false := by simp; omega
    have q6 : (pickv bs p 8 == 6) = true := by simp; omega
    repeat' (first | refine c0 ?_ | refine c1 ?_ | refine c2 ?_ | refine c3 ?_ | refine c4 ?_ | refine c5 ?_ | refine c6 (h := ?_) | refine c7 ?_ | refine d2 ?_ | refine c8 ?_ | refine c9 ?_ | refine d0 ?_ | refine d1 ?_ | refine d4 ?_ | refine a0 (hk := ?_) | refine b0 (hk := ?_) | refine b1 (hk := ?_) | refine b2 (hk := ?_) | refine b3 (hk := ?_) | refine b4 (hk := ?_) | refine p1 (hk := ?_) | refine g0' (hk := ?_) | refine a1 (hk := ?_) | refine a2 (hk := ?_) | refine u1 (hk := ?_) | refine u2 (hk := ?_) | refine u3 (hk := ?_) | refine u4 (hk := ?_) | refine a3 (ht := ?_) (hf := ?_) | refine a4 (ht := ?_) (hf := ?_) | refine a5 (hk := ?_) | refine b5 (hk := ?_) | refine b6 (hk := ?_) | refine b8 (hk := ?_) | refine b9 (hk := ?_) | refine b7 (hk := ?_) | refine p0 (hk := ?_) | refine g1 (hw := ?_) | refine g2 (hw := ?_) | refine g3 (hw := ?_) | refine g4 (hw := ?_) | (with_reducible intro hc) | refine d6 (ht := ?_) | refine d7 (hf := ?_) | refine u5 (hk := ?_) | refine u6 (hk := ?_) | refine u7 (hk := ?_) | refine u8 (hk := ?_) | refine d8 (ht := ?_) (hf := ?_) | refine d9 (ht := ?_) (hf := ?_))
    refine b7 (h3 := get_setN (by omega) (setN (by omega) fz)) (h10 := set_setN (setN (by omega) fz)) (hk := ?_)
    repeat' (first | refine c0 ?_ | refine c1 ?_ | refine c2 ?_ | refine c3 ?_ | refine c4 ?_ | refine c5 ?_ | refine c6 (h := ?_) | refine c7 ?_ | refine d2 ?_ | refine c8 ?_ | refine c9 ?_ | refine d0 ?_ | refine d1 ?_ | refine d4 ?_ | refine a0 (hk := ?_) | refine b0 (hk := ?_) | refine b1 (hk := ?_) | refine b2 (hk := ?_) | refine b3 (hk := ?_) | refine b4 (hk := ?_) | refine p1 (hk := ?_) | refine g0' (hk := ?_) | refine a1 (hk := ?_) | refine a2 (hk := ?_) | refine u1 (hk := ?_) | refine u2 (hk := ?_) | refine u3 (hk := ?_) | refine u4 (hk := ?_) | refine a3 (ht := ?_) (hf := ?_) | refine a4 (ht := ?_) (hf := ?_) | refine a5 (hk := ?_) | refine b5 (hk := ?_) | refine b6 (hk := ?_) | refine b8 (hk := ?_) | refine b9 (hk := ?_) | refine b7 (hk := ?_) | refine p0 (hk := ?_) | refine g1 (hw := ?_) | refine g2 (hw := ?_) | refine g3 (hw := ?_) | refine g4 (hw := ?_) | (with_reducible intro hc) | refine d6 (ht := ?_) | refine d7 (hf := ?_) | refine u5 (hk := ?_) | refine u6 (hk := ?_) | refine u7 (hk := ?_) | refine u8 (hk := ?_) | refine d8 (ht := ?_) (hf := ?_) | refine d9 (ht := ?_) (hf := ?_))
    refine ⟨_, _, rKC3 (o := RD bs (p + 1)) hk (RD_ok _ _) (h3 := get_set (setN (by omega) (setN (by omega) fz))) (hz := frzR_aggS (fmS (fz_slF rfl (by omega) (get_setN (by omega) (setN hab (setE fa))) (by simp) (allP (lrow_pure _) rfl)) (fmS (fz_sl rfl (by omega) (setN (Ne.symm hak) (get_setN (by omega) (setN (Ne.symm hbk) (setN (Ne.symm hak) fk)))) rfl pss) fm0)))
      (hE := xk4 hk (xk2 (xk4 hk (xk4 hk (xk4 hk hE (by omega)) (by omega)) (by omega))) (by omega)), p + 1, by omega, by omega, ⟨ls ++ [⟨0, 0⟩, ⟨0, 0⟩, ⟨0, 0⟩, ⟨0, 0⟩], ss, by rw [PR, LS, List.map_append]; rfl, by omega, by simp; omega⟩, rfl⟩
  by_cases w1 : j = 1
  · skip
    have q0 : (pickv bs p 8 == 0) = false := by simp; omega
    have q1 : (pickv bs p 8 == 1) = true := by simp; omega
    have fb2 := setN (o := RD bs (p + 1 + 1)) hbk' fb
    have fk2 := setN (o := RD bs (p + 1 + 1)) hkk' fk
    have fz2 := setN (o := RD bs (p + 1 + 1)) hz1 fz
    have fa2 := setN (o := RD bs (p + 1 + 1)) hak' fa
    repeat' (first | refine c0 ?_ | refine c1 ?_ | refine c2 ?_ | refine c3 ?_ | refine c4 ?_ | refine c5 ?_ | refine c6 (h := ?_) | refine c7 ?_ | refine d2 ?_ | refine c8 ?_ | refine c9 ?_ | refine d0 ?_ | refine d1 ?_ | refine d4 ?_ | refine d3' (h := ?_) | refine d4' ?_ | refine a0 (hk := ?_) | refine k0 (he := (by first | exact k_pick' (by first | assumption | exact get_old (by assumption) | exact get_set (by assumption)) hb (by omega))) (hk := ?_) | refine k1 (he := (by first | exact k_pick' (by first | assumption | exact get_old (by assumption) | exact get_set (by assumption)) hb (by omega))) (hk := ?_) | refine k0' (he := (by first | exact k_pick' (by first | assumption | exact get_old (by assumption) | exact get_set (by assumption)) hb (by omega))) (hk := ?_) | refine k2' (he := (by first | exact k_pick' (by first | assumption | exact get_old (by assumption) | exact get_set (by assumption)) hb (by omega))) (hk := ?_) | refine k3' (he := (by first | exact k_pick' (by first | assumption | exact get_old (by assumption) | exact get_set (by assumption)) hb (by omega))) (hk := ?_) | refine k1' (he := (by first | exact k_pick' (by first | assumption | exact get_old (by assumption) | exact get_set (by assumption)) hb (by omega))) (hk := ?_) | refine b0 (hk := ?_) | refine b1 (hk := ?_) | refine b2 (hk := ?_) | refine b3 (hk := ?_) | refine b4 (hk := ?_) | refine p1 (hk := ?_) | refine g0' (hk := ?_) | refine a1 (hk := ?_) | refine a2 (hk := ?_) | refine u1 (hk := ?_) | refine u2 (hk := ?_) | refine u3 (hk := ?_) | refine u4 (hk := ?_) | refine a3 (ht := ?_) (hf := ?_) | refine a4 (ht := ?_) (hf := ?_) | refine a5 (hk := ?_) | refine b5 (hk := ?_) | refine b6 (hk := ?_) | refine b8 (hk := ?_) | refine b9 (hk := ?_) | refine b7 (hk := ?_) | refine p0 (hk := ?_) | refine g1 (hw := ?_) | refine g2 (hw := ?_) | refine g3 (hw := ?_) | refine g4 (hw := ?_) | refine e0' (hk := ?_) | refine b0' (hk := ?_) | refine b1' (hk := ?_) | refine p1' (hk := ?_) | refine e1' (hk := ?_) | refine e2' (hk := ?_) | refine u1' (hk := ?_) | refine u2' (hk := ?_) | refine u3' (hk := ?_) | refine u4' (hk := ?_) | refine e3' (ht := ?_) (hf := ?_) | refine e4' (ht := ?_) (hf := ?_) | refine b4' (hk := ?_) | refine b7b (hk := ?_) | refine e5' (hk := ?_) | refine f5' (hk := ?_) | refine f6' (hk := ?_) | refine f8' (hk := ?_) | refine f9' (hk := ?_) | refine b7' (hk := ?_) | refine p0' (hk := ?_) | refine h1'' (hw := ?_) | refine h2'' (hw := ?_) | refine h3'' (hw := ?_) | refine h4'' (hw := ?_) | (with_reducible intro hc) | refine d6 (ht := ?_) | refine d7 (hf := ?_) | refine u5 (hk := ?_) | refine u6 (hk := ?_) | refine u7 (hk := ?_) | refine u8 (hk := ?_) | refine d8 (ht := ?_) (hf := ?_) | refine d9 (ht := ?_) (hf := ?_))
    refine b7 (h3 := get_setN (by omega) (setN (by omega) fz2)) (h10 := set_setN (setN (by omega) fz2)) (hk := ?_)
    repeat' (first | refine c0 ?_ | refine c1 ?_ | refine c2 ?_ | refine c3 ?_ | refine c4 ?_ | refine c5 ?_ | refine c6 (h := ?_) | refine c7 ?_ | refine d2 ?_ | refine c8 ?_ | refine c9 ?_ | refine d0 ?_ | refine d1 ?_ | refine d4 ?_ | refine d3' (h := ?_) | refine d4' ?_ | refine a0 (hk := ?_) | refine b0 (hk := ?_) | refine b1 (hk := ?_) | refine b2 (hk := ?_) | refine b3 (hk := ?_) | refine b4 (hk := ?_) | refine p1 (hk := ?_) | refine g0' (hk := ?_) | refine a1 (hk := ?_) | refine a2 (hk := ?_) | refine u1 (hk := ?_) | refine u2 (hk := ?_) | refine u3 (hk := ?_) | refine u4 (hk := ?_) | refine a3 (ht := ?_) (hf := ?_) | refine a4 (ht := ?_) (hf := ?_) | refine a5 (hk := ?_) | refine b5 (hk := ?_) | refine b6 (hk := ?_) | refine b8 (hk := ?_) | refine b9 (hk := ?_) | refine b7 (hk := ?_) | refine p0 (hk := ?_) | refine g1 (hw := ?_) | refine g2 (hw := ?_) | refine g3 (hw := ?_) | refine g4 (hw := ?_) | refine e0' (hk := ?_) | refine b0' (hk := ?_) | refine b1' (hk := ?_) | refine p1' (hk := ?_) | refine e1' (hk := ?_) | refine e2' (hk := ?_) | refine u1' (hk := ?_) | refine u2' (hk := ?_) | refine u3' (hk := ?_) | refine u4' (hk := ?_) | refine e3' (ht := ?_) (hf := ?_) | refine e4' (ht := ?_) (hf := ?_) | refine b4' (hk := ?_) | refine b7b (hk := ?_) | refine e5' (hk := ?_) | refine f5' (hk := ?_) | refine f6' (hk := ?_) | refine f8' (hk := ?_) | refine f9' (hk := ?_) | refine b7' (hk := ?_) | refine p0' (hk := ?_) | refine h1'' (hw := ?_) | refine h2'' (hw := ?_) | refine h3'' (hw := ?_) | refine h4'' (hw := ?_) | (with_reducible intro hc) | refine d6 (ht := ?_) | refine d7 (hf := ?_) | refine u5 (hk := ?_) | refine u6 (hk := ?_) | refine u7 (hk := ?_) | refine u8 (hk := ?_) | refine d8 (ht := ?_) (hf := ?_) | refine d9 (ht := ?_) (hf := ?_))
    refine ⟨_, _, rKC3 (o := RD bs (p + 1 + 1)) hk (RD_ok _ _) (h3 := get_set (setN (by omega) (setN (by omega) fz2))) (hz := frzR_aggS (fmS (fz_slF rfl (by omega) (get_setN (by omega) (setN hab (setN hak fa2))) han (lrow_pure _)) (fmS (fz_sl rfl (by omega) (setN (Ne.symm hak) (get_setN (by omega) (setN (Ne.symm hbk) (setE fk2)))) (by simp) (allP pss rfl)) fm0)))
      (hE := xk4 hk (xk2 (xk4 hk (xk4 hk (xk4 hk (xk5 hk hE) (by omega)) (by omega)) (by omega))) (by omega)), p + 1 + 1, by omega, by omega, ⟨ls, ss.app (.cons (IntKind.i64.wrap (pickv bs (p + 1) 6 - 1)) 0 ⟨0, 0, 0⟩ 0 .nil .nil .nil), by rw [PR, Stps.app_rows]; rfl, by simp [Stps.app_sz, Stps.sz]; omega, by omega⟩, rfl⟩
  by_cases w3 : j = 3
  · skip
    have q0 : (pickv bs p 8 == 0) = false := by simp; omega
    have q1 : (pickv bs p 8 == 1) = false := by simp; omega
    have q2 : (pickv bs p 8 == 2) = false := by simp; omega
    have q3 : (pickv bs p 8 == 3) = true := by simp; omega
    obtain ⟨j1, e1, hj1⟩ := pick_nat bs (p + 1) (n := 6) (by omega)
    obtain ⟨j2, e2, hj2⟩ := pick_nat bs (p + 1 + 1) (n := 3) (by omega)
    have g1 := lit_get [1, 1, 2, 3, 0, 5] (j := j1) hj1
    have g2 := lit_get [10, -1, 4] (j := j2) hj2
    have fb2 := setN (o := RD bs (p + 1 + 1 + 1)) hbk' fb
    have fk2 := setN (o := RD bs (p + 1 + 1 + 1)) hkk' fk
    have fz2 := setN (o := RD bs (p + 1 + 1 + 1)) hz1 fz
    have fa2 := setN (o := RD bs (p + 1 + 1 + 1)) hak' fa
    repeat' (first | refine c0 ?_ | refine c1 ?_ | refine c2 ?_ | refine c3 ?_ | refine c4 ?_ | refine c5 ?_ | refine c6 (h := ?_) | refine c7 ?_ | refine d2 ?_ | refine c8 ?_ | refine c9 ?_ | refine d0 ?_ | refine d1 ?_ | refine d4 ?_ | refine d3' (h := ?_) | refine d4' ?_ | refine a0 (hk := ?_) | refine k0 (he := (by first | exact k_pick' (by first | assumption | exact get_old (by assumption) | exact get_set (by assumption)) hb (by omega))) (hk := ?_) | refine k1 (he := (by first | exact k_pick' (by first | assumption | exact get_old (by assumption) | exact get_set (by assumption)) hb (by omega))) (hk := ?_) | refine k0' (he := (by first | exact k_pick' (by first | assumption | exact get_old (by assumption) | exact get_set (by assumption)) hb (by omega))) (hk := ?_) | refine k2' (he := (by first | exact k_pick' (by first | assumption | exact get_old (by assumption) | exact get_set (by assumption)) hb (by omega))) (hk := ?_) | refine k3' (he := (by first | exact k_pick' (by first | assumption | exact get_old (by assumption) | exact get_set (by assumption)) hb (by omega))) (hk := ?_) | refine k1' (he := (by first | exact k_pick' (by first | assumption | exact get_old (by assumption) | exact get_set (by assumption)) hb (by omega))) (hk := ?_) | refine b0 (hk := ?_) | refine b1 (hk := ?_) | refine b2 (hk := ?_) | refine b3 (hk := ?_) | refine b4 (hk := ?_) | refine p1 (hk := ?_) | refine g0' (hk := ?_) | refine a1 (hk := ?_) | refine a2 (hk := ?_) | refine u1 (hk := ?_) | refine u2 (hk := ?_) | refine u3 (hk := ?_) | refine u4 (hk := ?_) | refine a3 (ht := ?_) (hf := ?_) | refine a4 (ht := ?_) (hf := ?_) | refine a5 (hk := ?_) | refine b5 (hk := ?_) | refine b6 (hk := ?_) | refine b8 (hk := ?_) | refine b9 (hk := ?_) | refine b7 (hk := ?_) | refine p0 (hk := ?_) | refine g1 (hw := ?_) | refine g2 (hw := ?_) | refine g3 (hw := ?_) | refine g4 (hw := ?_) | refine e0' (hk := ?_) | refine b0' (hk := ?_) | refine b1' (hk := ?_) | refine p1' (hk := ?_) | refine e1' (hk := ?_) | refine e2' (hk := ?_) | refine u1' (hk := ?_) | refine u2' (hk := ?_) | refine u3' (hk := ?_) | refine u4' (hk := ?_) | refine e3' (ht := ?_) (hf := ?_) | refine e4' (ht := ?_) (hf := ?_) | refine b4' (hk := ?_) | refine b7b (hk := ?_) | refine e5' (hk := ?_) | refine f5' (hk := ?_) | refine f6' (hk := ?_) | refine f8' (hk := ?_) | refine f9' (hk := ?_) | refine b7' (hk := ?_) | refine p0' (hk := ?_) | refine h1'' (hw := ?_) | refine h2'' (hw := ?_) | refine h3'' (hw := ?_) | refine h4'' (hw := ?_) | (with_reducible intro hc) | refine d6 (ht := ?_) | refine d7 (hf := ?_) | refine u5 (hk := ?_) | refine u6 (hk := ?_) | refine u7 (hk := ?_) | refine u8 (hk := ?_) | refine d8 (ht := ?_) (hf := ?_) | refine d9 (ht := ?_) (hf := ?_))
    refine f8' (h5 := e1) (h6 := map_get (f := irow) g1) (hk := ?_)
    repeat' (first | refine c0 ?_ | refine c1 ?_ | refine c2 ?_ | refine c3 ?_ | refine c4 ?_ | refine c5 ?_ | refine c6 (h := ?_) | refine c7 ?_ | refine d2 ?_ | refine c8 ?_ | refine c9 ?_ | refine d0 ?_ | refine d1 ?_ | refine d4 ?_ | refine d3' (h := ?_) | refine d4' ?_ | refine a0 (hk := ?_) | refine k0 (he := (by first | exact k_pick' (by first | assumption | exact get_old (by assumption) | exact get_set (by assumption)) hb (by omega))) (hk := ?_) | refine k1 (he := (by first | exact k_pick' (by first | assumption | exact get_old (by assumption) | exact get_set (by assumption)) hb (by omega))) (hk := ?_) | refine k0' (he := (by first | exact k_pick' (by first | assumption | exact get_old (by assumption) | exact get_set (by assumption)) hb (by omega))) (hk := ?_) | refine k2' (he := (by first | exact k_pick' (by first | assumption | exact get_old (by assumption) | exact get_set (by assumption)) hb (by omega))) (hk := ?_) | refine k3' (he := (by first | exact k_pick' (by first | assumption | exact get_old (by assumption) | exact get_set (by assumption)) hb (by omega))) (hk := ?_) | refine k1' (he := (by first | exact k_pick' (by first | assumption | exact get_old (by assumption) | exact get_set (by assumption)) hb (by omega))) (hk := ?_) | refine b0 (hk := ?_) | refine b1 (hk := ?_) | refine b2 (hk := ?_) | refine b3 (hk := ?_) | refine b4 (hk := ?_) | refine p1 (hk := ?_) | refine g0' (hk := ?_) | refine a1 (hk := ?_) | refine a2 (hk := ?_) | refine u1 (hk := ?_) | refine u2 (hk := ?_) | refine u3 (hk := ?_) | refine u4 (hk := ?_) | refine a3 (ht := ?_) (hf := ?_) | refine a4 (ht := ?_) (hf := ?_) | refine a5 (hk := ?_) | refine b5 (hk := ?_) | refine b6 (hk := ?_) | refine b8 (hk := ?_) | refine b9 (hk := ?_) | refine b7 (hk := ?_) | refine p0 (hk := ?_) | refine g1 (hw := ?_) | refine g2 (hw := ?_) | refine g3 (hw := ?_) | refine g4 (hw := ?_) | refine e0' (hk := ?_) | refine b0' (hk := ?_) | refine b1' (hk := ?_) | refine p1' (hk := ?_) | refine e1' (hk := ?_) | refine e2' (hk := ?_) | refine u1' (hk := ?_) | refine u2' (hk := ?_) | refine u3' (hk := ?_) | refine u4' (hk := ?_) | refine e3' (ht := ?_) (hf := ?_) | refine e4' (ht := ?_) (hf := ?_) | refine b4' (hk := ?_) | refine b7b (hk := ?_) | refine e5' (hk := ?_) | refine f5' (hk := ?_) | refine f6' (hk := ?_) | refine f8' (hk := ?_) | refine f9' (hk := ?_) | refine b7' (hk := ?_) | refine p0' (hk := ?_) | refine h1'' (hw := ?_) | refine h2'' (hw := ?_) | refine h3'' (hw := ?_) | refine h4'' (hw := ?_) | (with_reducible intro hc) | refine d6 (ht := ?_) | refine d7 (hf := ?_) | refine u5 (hk := ?_) | refine u6 (hk := ?_) | refine u7 (hk := ?_) | refine u8 (hk := ?_) | refine d8 (ht := ?_) (hf := ?_) | refine d9 (ht := ?_) (hf := ?_))
    refine f8' (h5 := e2) (h6 := map_get (f := irow) g2) (hk := ?_)
    repeat' (first | refine c0 ?_ | refine c1 ?_ | refine c2 ?_ | refine c3 ?_ | refine c4 ?_ | refine c5 ?_ | refine c6 (h := ?_) | refine c7 ?_ | refine d2 ?_ | refine c8 ?_ | refine c9 ?_ | refine d0 ?_ | refine d1 ?_ | refine d4 ?_ | refine d3' (h := ?_) | refine d4' ?_ | refine a0 (hk := ?_) | refine b0 (hk := ?_) | refine b1 (hk := ?_) | refine b2 (hk := ?_) | refine b3 (hk := ?_) | refine b4 (hk := ?_) | refine p1 (hk := ?_) | refine g0' (hk := ?_) | refine a1 (hk := ?_) | refine a2 (hk := ?_) | refine u1 (hk := ?_) | refine u2 (hk := ?_) | refine u3 (hk := ?_) | refine u4 (hk := ?_) | refine a3 (ht := ?_) (hf := ?_) | refine a4 (ht := ?_) (hf := ?_) | refine a5 (hk := ?_) | refine b5 (hk := ?_) | refine b6 (hk := ?_) | refine b8 (hk := ?_) | refine b9 (hk := ?_) | refine b7 (hk := ?_) | refine p0 (hk := ?_) | refine g1 (hw := ?_) | refine g2 (hw := ?_) | refine g3 (hw := ?_) | refine g4 (hw := ?_) | refine e0' (hk := ?_) | refine b0' (hk := ?_) | refine b1' (hk := ?_) | refine p1' (hk := ?_) | refine e1' (hk := ?_) | refine e2' (hk := ?_) | refine u1' (hk := ?_) | refine u2' (hk := ?_) | refine u3' (hk := ?_) | refine u4' (hk := ?_) | refine e3' (ht := ?_) (hf := ?_) | refine e4' (ht := ?_) (hf := ?_) | refine b4' (hk := ?_) | refine b7b (hk := ?_) | refine e5' (hk := ?_) | refine f5' (hk := ?_) | refine f6' (hk := ?_) | refine f8' (hk := ?_) | refine f9' (hk := ?_) | refine b7' (hk := ?_) | refine p0' (hk := ?_) | refine h1'' (hw := ?_) | refine h2'' (hw := ?_) | refine h3'' (hw := ?_) | refine h4'' (hw := ?_) | (with_reducible intro hc) | refine d6 (ht := ?_) | refine d7 (hf := ?_) | refine u5 (hk := ?_) | refine u6 (hk := ?_) | refine u7 (hk := ?_) | refine u8 (hk := ?_) | refine d8 (ht := ?_) (hf := ?_) | refine d9 (ht := ?_) (hf := ?_))
    refine b7 (h3 := get_setN (by omega) (setN (by omega) fz2)) (h10 := set_setN (setN (by omega) fz2)) (hk := ?_)
    repeat' (first | refine c0 ?_ | refine c1 ?_ | refine c2 ?_ | refine c3 ?_ | refine c4 ?_ | refine c5 ?_ | refine c6 (h := ?_) | refine c7 ?_ | refine d2 ?_ | refine c8 ?_ | refine c9 ?_ | refine d0 ?_ | refine d1 ?_ | refine d4 ?_ | refine d3' (h := ?_) | refine d4' ?_ | refine a0 (hk := ?_) | refine b0 (hk := ?_) | refine b1 (hk := ?_) | refine b2 (hk := ?_) | refine b3 (hk := ?_) | refine b4 (hk := ?_) | refine p1 (hk := ?_) | refine g0' (hk := ?_) | refine a1 (hk := ?_) | refine a2 (hk := ?_) | refine u1 (hk := ?_) | refine u2 (hk := ?_) | refine u3 (hk := ?_) | refine u4 (hk := ?_) | refine a3 (ht := ?_) (hf := ?_) | refine a4 (ht := ?_) (hf := ?_) | refine a5 (hk := ?_) | refine b5 (hk := ?_) | refine b6 (hk := ?_) | refine b8 (hk := ?_) | refine b9 (hk := ?_) | refine b7 (hk := ?_) | refine p0 (hk := ?_) | refine g1 (hw := ?_) | refine g2 (hw := ?_) | refine g3 (hw := ?_) | refine g4 (hw := ?_) | refine e0' (hk := ?_) | refine b0' (hk := ?_) | refine b1' (hk := ?_) | refine p1' (hk := ?_) | refine e1' (hk := ?_) | refine e2' (hk := ?_) | refine u1' (hk := ?_) | refine u2' (hk := ?_) | refine u3' (hk := ?_) | refine u4' (hk := ?_) | refine e3' (ht := ?_) (hf := ?_) | refine e4' (ht := ?_) (hf := ?_) | refine b4' (hk := ?_) | refine b7b (hk := ?_) | refine e5' (hk := ?_) | refine f5' (hk := ?_) | refine f6' (hk := ?_) | refine f8' (hk := ?_) | refine f9' (hk := ?_) | refine b7' (hk := ?_) | refine p0' (hk := ?_) | refine h1'' (hw := ?_) | refine h2'' (hw := ?_) | refine h3'' (hw := ?_) | refine h4'' (hw := ?_) | (with_reducible intro hc) | refine d6 (ht := ?_) | refine d7 (hf := ?_) | refine u5 (hk := ?_) | refine u6 (hk := ?_) | refine u7 (hk := ?_) | refine u8 (hk := ?_) | refine d8 (ht := ?_) (hf := ?_) | refine d9 (ht := ?_) (hf := ?_))
    refine ⟨_, _, rKC3 (o := RD bs (p + 1 + 1 + 1)) hk (RD_ok _ _) (h3 := get_set (setN (by omega) (setN (by omega) fz2))) (hz := frzR_aggS (fmS (fz_slF rfl (by omega) (get_setN (by omega) (setN hab (setN hak fa2))) han (lrow_pure _)) (fmS (fz_sl rfl (by omega) (setN (Ne.symm hak) (get_setN (by omega) (setN (Ne.symm hbk) (setE fk2)))) (by simp) (allP pss rfl)) fm0)))
      (hE := xk4 hk (xk2 (xk4 hk (xk4 hk (xk4 hk (xk5 hk hE) (by omega)) (by omega)) (by omega))) (by omega)), p + 1 + 1 + 1, by omega, by omega, ⟨ls, ss.app (.cons 1 0 ⟨[1, 1, 2, 3, 0, 5].getD j1 0, [10, -1, 4].getD j2 0, 0⟩ 0 .nil .nil .nil), by rw [PR, Stps.app_rows]; rfl, by simp [Stps.app_sz, Stps.sz]; omega, by omega⟩, rfl⟩
  have q0 : (pickv bs p 8 == 0) = false := by simp; omega
  have q1 : (pickv bs p 8 == 1) = false := by simp; omega
  have q2 : (pickv bs p 8 == 2) = false := by simp; omega
  have q3 : (pickv bs p 8 == 3) = false := by simp; omega
  by_cases w4 : j = 4
  · have q4 : (pickv bs p 8 == 4) = true := by simp; omega
    repeat' (first | refine c0 ?_ | refine c1 ?_ | refine c2 ?_ | refine c3 ?_ | refine c4 ?_ | refine c5 ?_ | refine c6 (h := ?_) | refine c7 ?_ | refine d2 ?_ | refine c8 ?_ | refine c9 ?_ | refine d0 ?_ | refine d1 ?_ | refine d4 ?_ | refine a0 (hk := ?_) | refine b0 (hk := ?_) | refine b1 (hk := ?_) | refine b2 (hk := ?_) | refine b3 (hk := ?_) | refine b4 (hk := ?_) | refine p1 (hk := ?_) | refine g0' (hk := ?_) | refine a1 (hk := ?_) | refine a2 (hk := ?_) | refine u1 (hk := ?_) | refine u2 (hk := ?_) | refine u3 (hk := ?_) | refine u4 (hk := ?_) | refine a3 (ht := ?_) (hf := ?_) | refine a4 (ht := ?_) (hf := ?_) | refine a5 (hk := ?_) | refine b5 (hk := ?_) | refine b6 (hk := ?_) | refine b8 (hk := ?_) | refine b9 (hk := ?_) | refine b7 (hk := ?_) | refine p0 (hk := ?_) | refine g1 (hw := ?_) | refine g2 (hw := ?_) | refine g3 (hw := ?_) | refine g4 (hw := ?_) | (with_reducible intro hc) | refine d6 (ht := ?_) | refine d7 (hf := ?_) | refine u5 (hk := ?_) | refine u6 (hk := ?_) | refine u7 (hk := ?_) | refine u8 (hk := ?_) | refine d8 (ht := ?_) (hf := ?_) | refine d9 (ht := ?_) (hf := ?_))
    refine C_loop (fun n T' S' => ∃ (T0 : Tm) (S2 : St) (d : Stps), d.len + n = 9 ∧ d.sz + n ≤ 17 ∧ ExtK S k (RD bs (p + 1)) S2 ∧ S2[a]? = some (.cells false (ls.map lrow)) ∧ S2[k1]? = some (.cells true d.rows) ∧ S2[b]? = some (.cells false [[.sl a ls.length, .sl k1 d.rows.length]]) ∧ (∃ z y, S2[S.length + 1]? = some (.cells false [[z, y]])) ∧
        T' = putL T0 [(4, .ptr (S.length + 1) 1 0 0), (5, .ptr b 1 0 0)] ∧ S' = S2 ++ []) (9 - ss.len)
      ⟨_, _, ss, by omega, by omega, hE, fa, fk, fb, ⟨z, y, fz⟩, at_mk ⟨rfl, rfl, trivial⟩, rfl⟩ ?_
    rintro n T' S' ⟨T0, S2, d, hd, hdz, hE, fa, fk, fb, ⟨z, y, fz⟩, rfl, rfl⟩
    have h8 := d.rows_eight
    have pd := d.rows_pure
    have hdl := d.rows_len
    cases n with
    | zero =>
      have hc0 : ¬ ((d.rows.length : Int) ≤ 8) := by omega
      repeat' (first | refine c0 ?_ | refine c1 ?_ | refine c2 ?_ | refine c3 ?_ | refine c4 ?_ | refine c5 ?_ | refine c6 (h := ?_) | refine c7 ?_ | refine d2 ?_ | refine c8 ?_ | refine c9 ?_ | refine d0 ?_ | refine d1 ?_ | refine d4 ?_ | refine a0 (hk := ?_) | refine b0 (hk := ?_) | refine b1 (hk := ?_) | refine b2 (hk := ?_) | refine b3 (hk := ?_) | refine b4 (hk := ?_) | refine p1 (hk := ?_) | refine g0' (hk := ?_) | refine a1 (hk := ?_) | refine a2 (hk := ?_) | refine u1 (hk := ?_) | refine u2 (hk := ?_) | refine u3 (hk := ?_) | refine u4 (hk := ?_) | refine a3 (ht := ?_) (hf := ?_) | refine a4 (ht := ?_) (hf := ?_) | refine a5 (hk := ?_) | refine b5 (hk := ?_) | refine b6 (hk := ?_) | refine b8 (hk := ?_) | refine b9 (hk := ?_) | refine b7 (hk := ?_) | refine p0 (hk := ?_) | refine g1 (hw := ?_) | refine g2 (hw := ?_) | refine g3 (hw := ?_) | refine g4 (hw := ?_) | (with_reducible intro hc) | refine d6 (ht := ?_) | refine d7 (hf := ?_) | refine u5 (hk := ?_) | refine u6 (hk := ?_) | refine u7 (hk := ?_) | refine u8 (hk := ?_) | refine d8 (ht := ?_) (hf := ?_) | refine d9 (ht := ?_) (hf := ?_))
      refine ⟨_, _, rKC3 (o := RD bs (p + 1)) hk (RD_ok _ _) (h3 := get_set fz) (hz := frzR_aggS (fmS (fz_slF rfl (by omega) (get_setN (by omega) fa) han (lrow_pure _)) (fmS (fz_sl rfl (by omega) (setN (Ne.symm hak) (get_setN (by omega) fk)) rfl pd) fm0)))
        (hE := xk4 hk (xk2 (xk4 hk hE (by omega))) (by omega)), p + 1, by omega, by omega, ⟨ls, d, rfl, by omega, by omega⟩, rfl⟩
    | succ n =>
      have hc0 : (d.rows.length : Int) ≤ 8 := by omega
      repeat' (first | refine c0 ?_ | refine c1 ?_ | refine c2 ?_ | refine c3 ?_ | refine c4 ?_ | refine c5 ?_ | refine c6 (h := ?_) | refine c7 ?_ | refine d2 ?_ | refine c8 ?_ | refine c9 ?_ | refine d0 ?_ | refine d1 ?_ | refine d4 ?_ | refine a0 (hk := ?_) | refine b0 (hk := ?_) | refine b1 (hk := ?_) | refine b2 (hk := ?_) | refine b3 (hk := ?_) | refine b4 (hk := ?_) | refine p1 (hk := ?_) | refine g0' (hk := ?_) | refine a1 (hk := ?_) | refine a2 (hk := ?_) | refine u1 (hk := ?_) | refine u2 (hk := ?_) | refine u3 (hk := ?_) | refine u4 (hk := ?_) | refine a3 (ht := ?_) (hf := ?_) | refine a4 (ht := ?_) (hf := ?_) | refine a5 (hk := ?_) | refine b5 (hk := ?_) | refine b6 (hk := ?_) | refine b8 (hk := ?_) | refine b9 (hk := ?_) | refine b7 (hk := ?_) | refine p0 (hk := ?_) | refine g1 (hw := ?_) | refine g2 (hw := ?_) | refine g3 (hw := ?_) | refine g4 (hw := ?_) | (with_reducible intro hc) | refine d6 (ht := ?_) | refine d7 (hf := ?_) | refine u5 (hk := ?_) | refine u6 (hk := ?_) | refine u7 (hk := ?_) | refine u8 (hk := ?_) | refine d8 (ht := ?_) (hf := ?_) | refine d9 (ht := ?_) (hf := ?_))
      refine ⟨n, by omega, _, _, d.app (.cons 3 0 ⟨0, 0, 0⟩ 0 .nil .nil .nil), by simp [Stps.app_len, Stps.len]; omega, by simp [Stps.app_sz, Stps.sz]; omega, xk2 (xk4 hk (xk4 hk hE (by omega)) (by omega)), get_setN hab (setN hak fa), ?_, ?_, ⟨z, y, get_setN (by omega) (setN (by omega) fz)⟩, at_mk ⟨rfl, rfl, trivial⟩, (List.append_nil _).symm⟩
      · rw [get_setN (Ne.symm hbk) (setE fk), Stps.app_rows]; rfl
      · rw [get_set (setN hbk fb), Stps.app_rows]; simp [Stps.rows]; rfl
  have q4 : (pickv bs p 8 == 4) = false := by simp; omega
  have q5 : (pickv bs p 8 == 5) = true := by simp; omega
  repeat' (first | refine c0 ?_ | refine c1 ?_ | refine c2 ?_ | refine c3 ?_ | refine c4 ?_ | refine c5 ?_ | refine c6 (h := ?_) | refine c7 ?_ | refine d2 ?_ | refine c8 ?_ | refine c9 ?_ | refine d0 ?_ | refine d1 ?_ | refine d4 ?_ | refine d5 ?_ | refine a0 (hk := ?_) | refine b0 (hk := ?_) | refine b1 (hk := ?_) | refine b2 (hk := ?_) | refine b3 (hk := ?_) | refine b4 (hk := ?_) | refine p1 (hk := ?_) | refine g0' (hk := ?_) | refine a1 (hk := ?_) | refine a2 (hk := ?_) | refine u1 (hk := ?_) | refine u2 (hk := ?_) | refine u3 (hk := ?_) | refine u4 (hk := ?_) | refine a3 (ht := ?_) (hf := ?_) | refine a4 (ht := ?_) (hf := ?_) | refine a5 (hk := ?_) | refine b5 (hk := ?_) | refine b6 (hk := ?_) | refine b8 (hk := ?_) | refine b9 (hk := ?_) | refine b7 (hk := ?_) | refine p0 (hk := ?_) | refine g1 (hw := ?_) | refine g2 (hw := ?_) | refine g3 (hw := ?_) | refine g4 (hw := ?_) | (with_reducible intro hc) | refine d6 (ht := ?_) | refine d7 (hf := ?_) | refine u5 (hk := ?_) | refine u6 (hk := ?_) | refine u7 (hk := ?_) | refine u8 (hk := ?_) | refine d8 (ht := ?_) (hf := ?_) | refine d9 (ht := ?_) (hf := ?_))
  refine bs1 (hf := fm1 rfl (fm1 rfl (fm1 rfl (fm1 rfl (fm1 rfl (fm1 rfl (fm1 (fz_sl rfl (Nat.zero_le _) (get_old fk) rfl pss) (fm1 rfl fm0)))))))) (hk := ?_)
  repeat' (first | refine c0 ?_ | refine c1 ?_ | refine c2 ?_ | refine c3 ?_ | refine c4 ?_ | refine c5 ?_ | refine c6 (h := ?_) | refine c7 ?_ | refine d2 ?_ | refine c8 ?_ | refine c9 ?_ | refine d0 ?_ | refine d1 ?_ | refine d4 ?_ | refine d5 ?_ | refine a0 (hk := ?_) | refine b0 (hk := ?_) | refine b1 (hk := ?_) | refine b2 (hk := ?_) | refine b3 (hk := ?_) | refine b4 (hk := ?_) | refine p1 (hk := ?_) | refine g0' (hk := ?_) | refine a1 (hk := ?_) | refine a2 (hk := ?_) | refine u1 (hk := ?_) | refine u2 (hk := ?_) | refine u3 (hk := ?_) | refine u4 (hk := ?_) | refine a3 (ht := ?_) (hf := ?_) | refine a4 (ht := ?_) (hf := ?_) | refine a5 (hk := ?_) | refine b5 (hk := ?_) | refine b6 (hk := ?_) | refine b8 (hk := ?_) | refine b9 (hk := ?_) | refine b7 (hk := ?_) | refine p0 (hk := ?_) | refine g1 (hw := ?_) | refine g2 (hw := ?_) | refine g3 (hw := ?_) | refine g4 (hw := ?_) | (with_reducible intro hc) | refine d6 (ht := ?_) | refine d7 (hf := ?_) | refine u5 (hk := ?_) | refine u6 (hk := ?_) | refine u7 (hk := ?_) | refine u8 (hk := ?_) | refine d8 (ht := ?_) (hf := ?_) | refine d9 (ht := ?_) (hf := ?_))
  refine ⟨_, _, rKC3 (o := RD bs (p + 1)) hk (RD_ok _ _) (h3 := get_set (setN (by omega) fz)) (hz := frzR_aggS (fmS (fz_slF rfl (by omega) (get_setN (by omega) (setN hab fa)) han (lrow_pure _)) (fmS rfl fm0)))
    (hE := xk4 hk (xk2 (xk4 hk (xk4 hk hE (by omega)) (by omega))) (by omega)), p + 1, by omega, by omega, ⟨ls, .cons 2 0 ⟨0, 0, 0⟩ 0 (.cons 2 0 ⟨0, 0, 0⟩ 0 (.cons 2 0 ⟨0, 0, 0⟩ 0 (.cons 2 0 ⟨0, 0, 0⟩ 0 ss .nil .nil) .nil .nil) .nil .nil) .nil .nil, rfl, by simp [Stps.sz]; omega, by omega⟩, rfl⟩
end Go.Proofs.X
end
section
namespace Go.Proofs.X
open Go Go.Proofs.XVai Go.Proofs Go.Proofs.XN
set_option linter.unusedVariables false
set_option linter.unusedSimpArgs false
set_option maxHeartbeats 4000000
set_option maxRecDepth 100000
theorem d_l71Any : Dr spec_l71Any [] 24020 (fun v => ∃ ls ss, v = PR ls ss ∧ ss.sz ≤ 100 ∧ ls.length ≤ 100) := by
  refine Dr_of fun bs p k S hb hp hk => ?_
  have hkl : k < S.length := (List.getElem?_eq_some_iff.1 hk).1
  refine E_startR (h := ?_)
  repeat' (first | refine c0 ?_ | refine c1 ?_ | refine c2 ?_ | refine c3 ?_ | refine c4 ?_ | refine c5 ?_ | refine c6 (h := ?_) | refine c7 ?_ | refine d2 ?_ | refine c8 ?_ | refine c9 ?_ | refine d0 ?_ | refine d1 ?_ | refine d4 ?_ | refine a0 (hk := ?_) | refine b0 (hk := ?_) | refine b1 (hk := ?_) | refine b2 (hk := ?_) | refine b3 (hk := ?_) | refine b4 (hk := ?_) | refine p1 (hk := ?_) | refine g0' (hk := ?_) | refine a1 (hk := ?_) | refine a2 (hk := ?_) | refine u1 (hk := ?_) | refine u2 (hk := ?_) | refine u3 (hk := ?_) | refine u4 (hk := ?_) | refine a3 (ht := ?_) (hf := ?_) | refine a4 (ht := ?_) (hf := ?_) | refine a5 (hk := ?_) | refine b5 (hk := ?_) | refine b6 (hk := ?_) | refine b8 (hk := ?_) | refine b9 (hk := ?_) | refine b7 (hk := ?_) | refine p0 (hk := ?_) | refine g1 (hw := ?_) | refine g2 (hw := ?_) | refine g3 (hw := ?_) | refine g4 (hw := ?_) | (with_reducible intro hc) | refine d6 (ht := ?_) | refine d7 (hf := ?_) | refine u5 (hk := ?_) | refine u6 (hk := ?_) | refine u7 (hk := ?_) | refine u8 (hk := ?_) | refine d8 (ht := ?_) (hf := ?_) | refine d9 (ht := ?_) (hf := ?_))
  refine kE (hd := d_l71Prog) (h0 := hk) (hl := hb) (hp := by omega) (hk := ?_)
  rintro v q hq1 hq2 ⟨ls, ss, rfl, hok, hl1⟩
  obtain ⟨h1, h2, h3, h4⟩ := progOk_in hok
  repeat' (first | refine c0 ?_ | refine c1 ?_ | refine c2 ?_ | refine c3 ?_ | refine c4 ?_ | refine c5 ?_ | refine c6 (h := ?_) | refine c7 ?_ | refine d2 ?_ | refine c8 ?_ | refine c9 ?_ | refine d0 ?_ | refine d1 ?_ | refine d4 ?_ | refine a0 (hk := ?_) | refine k0 (he := (by first | exact k_pick' (by first | assumption | exact get_old (by assumption) | exact get_set (by assumption)) hb (by omega))) (hk := ?_) | refine k1 (he := (by first | exact k_pick' (by first | assumption | exact get_old (by assumption) | exact get_set (by assumption)) hb (by omega))) (hk := ?_) | refine b0 (hk := ?_) | refine b1 (hk := ?_) | refine b2 (hk := ?_) | refine b3 (hk := ?_) | refine b4 (hk := ?_) | refine p1 (hk := ?_) | refine g0' (hk := ?_) | refine a1 (hk := ?_) | refine a2 (hk := ?_) | refine u1 (hk := ?_) | refine u2 (hk := ?_) | refine u3 (hk := ?_) | refine u4 (hk := ?_) | refine a3 (ht := ?_) (hf := ?_) | refine a4 (ht := ?_) (hf := ?_) | refine a5 (hk := ?_) | refine b5 (hk := ?_) | refine b6 (hk := ?_) | refine b8 (hk := ?_) | refine b9 (hk := ?_) | refine b7 (hk := ?_) | refine p0 (hk := ?_) | refine g1 (hw := ?_) | refine g2 (hw := ?_) | refine g3 (hw := ?_) | refine g4 (hw := ?_) | (with_reducible intro hc) | refine d6 (ht := ?_) | refine d7 (hf := ?_) | refine u5 (hk := ?_) | refine u6 (hk := ?_) | refine u7 (hk := ?_) | refine u8 (hk := ?_) | refine d8 (ht := ?_) (hf := ?_) | refine d9 (ht := ?_) (hf := ?_))
  · refine kD (hd := d_l71Fine) (h0 := ⟨_, hk⟩) (hl := hb) (hp := by omega) (hk := ?_)
    rintro v q2 hq3 hq4 ⟨ls, ss, rfl, hss, hl4, hl1⟩
    repeat' (first | refine c0 ?_ | refine c1 ?_ | refine c2 ?_ | refine c3 ?_ | refine c4 ?_ | refine c5 ?_ | refine c6 (h := ?_) | refine c7 ?_ | refine d2 ?_ | refine c8 ?_ | refine c9 ?_ | refine d0 ?_ | refine d1 ?_ | refine d4 ?_ | refine a0 (hk := ?_) | refine k0 (he := (by first | exact k_pick' (by first | assumption | exact get_old (by assumption) | exact get_set (by assumption)) hb (by omega))) (hk := ?_) | refine k1 (he := (by first | exact k_pick' (by first | assumption | exact get_old (by assumption) | exact get_set (by assumption)) hb (by omega))) (hk := ?_) | refine b0 (hk := ?_) | refine b1 (hk := ?_) | refine b2 (hk := ?_) | refine b3 (hk := ?_) | refine b4 (hk := ?_) | refine p1 (hk := ?_) | refine g0' (hk := ?_) | refine a1 (hk := ?_) | refine a2 (hk := ?_) | refine u1 (hk := ?_) | refine u2 (hk := ?_) | refine u3 (hk := ?_) | refine u4 (hk := ?_) | refine a3 (ht := ?_) (hf := ?_) | refine a4 (ht := ?_) (hf := ?_) | refine a5 (hk := ?_) | refine b5 (hk := ?_) | refine b6 (hk := ?_) | refine b8 (hk := ?_) | refine b9 (hk := ?_) | refine b7 (hk := ?_) | refine p0 (hk := ?_) | refine g1 (hw := ?_) | refine g2 (hw := ?_) | refine g3 (hw := ?_) | refine g4 (hw := ?_) | (with_reducible intro hc) | refine d6 (ht := ?_) | refine d7 (hf := ?_) | refine u5 (hk := ?_) | refine u6 (hk := ?_) | refine u7 (hk := ?_) | refine u8 (hk := ?_) | refine d8 (ht := ?_) (hf := ?_) | refine d9 (ht := ?_) (hf := ?_))
    · refine kD (hd := d_l71Bent ls ss hl1 hl4 hss) (h0 := ⟨_, hk⟩) (hl := hb) (hp := by omega) (hk := ?_)
      rintro v q3 hq5 hq6 ⟨ls, ss, rfl, hss, hl⟩
      repeat' (first | refine c0 ?_ | refine c1 ?_ | refine c2 ?_ | refine c3 ?_ | refine c4 ?_ | refine c5 ?_ | refine c6 (h := ?_) | refine c7 ?_ | refine d2 ?_ | refine c8 ?_ | refine c9 ?_ | refine d0 ?_ | refine d1 ?_ | refine d4 ?_ | refine a0 (hk := ?_) | refine b0 (hk := ?_) | refine b1 (hk := ?_) | refine b2 (hk := ?_) | refine b3 (hk := ?_) | refine b4 (hk := ?_) | refine p1 (hk := ?_) | refine g0' (hk := ?_) | refine a1 (hk := ?_) | refine a2 (hk := ?_) | refine u1 (hk := ?_) | refine u2 (hk := ?_) | refine u3 (hk := ?_) | refine u4 (hk := ?_) | refine a3 (ht := ?_) (hf := ?_) | refine a4 (ht := ?_) (hf := ?_) | refine a5 (hk := ?_) | refine b5 (hk := ?_) | refine b6 (hk := ?_) | refine b8 (hk := ?_) | refine b9 (hk := ?_) | refine b7 (hk := ?_) | refine p0 (hk := ?_) | refine g1 (hw := ?_) | refine g2 (hw := ?_) | refine g3 (hw := ?_) | refine g4 (hw := ?_) | (with_reducible intro hc) | refine d6 (ht := ?_) | refine d7 (hf := ?_) | refine u5 (hk := ?_) | refine u6 (hk := ?_) | refine u7 (hk := ?_) | refine u8 (hk := ?_) | refine d8 (ht := ?_) (hf := ?_) | refine d9 (ht := ?_) (hf := ?_))
      exact ⟨_, _, rKC hk (by first | exact xkS | exact xkZ) (RD_ok _ _) (h3 := by first | exact get_setO rfl | exact get_own rfl), q3, by omega, by omega, ⟨ls, ss, rfl, hss, hl⟩, rfl⟩
    · exact ⟨_, _, rKC hk (by first | exact xkS | exact xkZ) (RD_ok _ _) (h3 := by first | exact get_setO rfl | exact get_own rfl), q2 + 1, by omega, by omega, ⟨ls, ss, rfl, by omega, by omega⟩, rfl⟩
  · refine kD (hd := d_l71Bent ls ss hl1 h1 h4) (h0 := ⟨_, hk⟩) (hl := hb) (hp := by omega) (hk := ?_)
    rintro v q3 hq5 hq6 ⟨ls, ss, rfl, hss, hl⟩
    repeat' (first | refine c0 ?_ | refine c1 ?_ | refine c2 ?_ | refine c3 ?_ | refine c4 ?_ | refine c5 ?_ | refine c6 (h := ?_) | refine c7 ?_ | refine d2 ?_ | refine c8 ?_ | refine c9 ?_ | refine d0 ?_ | refine d1 ?_ | refine d4 ?_ | refine a0 (hk := ?_) | refine b0 (hk := ?_) | refine b1 (hk := ?_) | refine b2 (hk := ?_) | refine b3 (hk := ?_) | refine b4 (hk := ?_) | refine p1 (hk := ?_) | refine g0' (hk := ?_) | refine a1 (hk := ?_) | refine a2 (hk := ?_) | refine u1 (hk := ?_) | refine u2 (hk := ?_) | refine u3 (hk := ?_) | refine u4 (hk := ?_) | refine a3 (ht := ?_) (hf := ?_) | refine a4 (ht := ?_) (hf := ?_) | refine a5 (hk := ?_) | refine b5 (hk := ?_) | refine b6 (hk := ?_) | refine b8 (hk := ?_) | refine b9 (hk := ?_) | refine b7 (hk := ?_) | refine p0 (hk := ?_) | refine g1 (hw := ?_) | refine g2 (hw := ?_) | refine g3 (hw := ?_) | refine g4 (hw := ?_) | (with_reducible intro hc) | refine d6 (ht := ?_) | refine d7 (hf := ?_) | refine u5 (hk := ?_) | refine u6 (hk := ?_) | refine u7 (hk := ?_) | refine u8 (hk := ?_) | refine d8 (ht := ?_) (hf := ?_) | refine d9 (ht := ?_) (hf := ?_))
    exact ⟨_, _, rKC hk (by first | exact xkS | exact xkZ) (RD_ok _ _) (h3 := by first | exact get_setO rfl | exact get_own rfl), q3, by omega, by omega, ⟨ls, ss, rfl, hss, hl⟩, rfl⟩
  · exact ⟨_, _, rKC hk (by first | exact xkS | exact xkZ) (RD_ok _ _) (h3 := by first | exact get_setO rfl | exact get_own rfl), q + 1 + 1, by omega, by omega, ⟨ls, ss, rfl, by omega, by omega⟩, rfl⟩
section
variable {fid : Nat} {T : Tm} {S : St} {K : Tm → St → Prop} {ops : Array Oper} {l : List Oper} {dst : Option Tmp} {ty : TypeId} {pos : String} {after : Array Edge} {g0 : Option (Nat × Bool)}
/-- The first so many of a slice. -/
theorem sl1 {t e z m : Nat} {ti : TI} {x hi : Operand} {rows : List (List HV)} {kk : IntKind} {n : Int} (hg : wantG ops g0 T = true := by rfl) (h1 : Y.tab t = some ti := by rfl) (h2 : ti.sh = .slice e := by rfl) (h3 : tsize Y e = some z := by rfl) (hx : ev T x = .lst rows := by rfl) (hh : ev T hi = .int kk n := by rfl) (hn : n = (m : Int)) (hm : m ≤ rows.length) (hz : rows.all (fun r => r.length == z) = true)
    (hk : OW Y fid ops none l (put T dst (.lst (rows.take m))) S K) : OW Y fid ops none (⟨dst, .slice t x none (some hi) none, ty, pos, after, g0⟩ :: l) T S K := by
  subst hn
  refine ⟨A_op hg (v := .lst (rows.take m)) ?_ hk.of⟩
  have hf : frzC 0 6 (.lst rows) S = some (.lst rows, S) := frzC_pure rfl
  simp only [cop, cslice, h1, h2, h3, hx, hf, hh, Option.map_none, Option.map_some, bound]
  rw [if_pos (by omega)]
  simp only [Int.toNat_natCast]
  rw [if_pos ⟨by omega, hm, hz⟩]
  rfl
end
theorem brow1' (l : List UInt8) : (l.map brow).all (fun r => r.length == 1) = true := by simp
theorem k_spec_l6Open (bs : List UInt8) (S : St) : EvR Y spec_l6Open [BY bs] S (fun v S' => ∃ J k, S' = S ++ J ∧ v = .ptr k 1 0 0 ∧ S.length ≤ k ∧ S'[k]? = some (RD (bs.take 2000) 0)) := by
  by_cases h : bs.length ≤ 2000
  · have hn : ¬ (((bs.map brow).length : Int) > 2000) := by simp; omega
    rw [List.take_of_length_le h]
    refine E_startR (h := ?_)
    repeat' (first | refine c0 ?_ | refine c1 ?_ | refine c2 ?_ | refine c3 ?_ | refine c4 ?_ | refine c5 ?_ | refine c6 (h := ?_) | refine c7 ?_ | refine d2 ?_ | refine c8 ?_ | refine c9 ?_ | refine d0 ?_ | refine d1 ?_ | refine d4 ?_ | refine a0 (hk := ?_) | refine b0 (hk := ?_) | refine b1 (hk := ?_) | refine b2 (hk := ?_) | refine b3 (hk := ?_) | refine b4 (hk := ?_) | refine p1 (hk := ?_) | refine g0' (hk := ?_) | refine a1 (hk := ?_) | refine a2 (hk := ?_) | refine u1 (hk := ?_) | refine u2 (hk := ?_) | refine u3 (hk := ?_) | refine u4 (hk := ?_) | refine a3 (ht := ?_) (hf := ?_) | refine a4 (ht := ?_) (hf := ?_) | refine a5 (hk := ?_) | refine b5 (hk := ?_) | refine b6 (hk := ?_) | refine b8 (hk := ?_) | refine b9 (hk := ?_) | refine b7 (hk := ?_) | refine p0 (hk := ?_) | refine g1 (hw := ?_) | refine g2 (hw := ?_) | refine g3 (hw := ?_) | refine g4 (hw := ?_) | (with_reducible intro hc) | refine d6 (ht := ?_) | refine d7 (hf := ?_) | refine u5 (hk := ?_) | refine u6 (hk := ?_) | refine u7 (hk := ?_) | refine u8 (hk := ?_) | refine d8 (ht := ?_) (hf := ?_) | refine d9 (ht := ?_) (hf := ?_))
    exact ⟨_, _, rKeep, _, _, rfl, rfl, Nat.le_add_right _ _, get_own rfl⟩
  · have hn : ((bs.map brow).length : Int) > 2000 := by simp; omega
    refine E_startR (h := ?_)
    repeat' (first | refine c0 ?_ | refine c1 ?_ | refine c2 ?_ | refine c3 ?_ | refine c4 ?_ | refine c5 ?_ | refine c6 (h := ?_) | refine c7 ?_ | refine d2 ?_ | refine c8 ?_ | refine c9 ?_ | refine d0 ?_ | refine d1 ?_ | refine d4 ?_ | refine a0 (hk := ?_) | refine b0 (hk := ?_) | refine b1 (hk := ?_) | refine b2 (hk := ?_) | refine b3 (hk := ?_) | refine b4 (hk := ?_) | refine p1 (hk := ?_) | refine g0' (hk := ?_) | refine a1 (hk := ?_) | refine a2 (hk := ?_) | refine u1 (hk := ?_) | refine u2 (hk := ?_) | refine u3 (hk := ?_) | refine u4 (hk := ?_) | refine a3 (ht := ?_) (hf := ?_) | refine a4 (ht := ?_) (hf := ?_) | refine a5 (hk := ?_) | refine b5 (hk := ?_) | refine b6 (hk := ?_) | refine b8 (hk := ?_) | refine b9 (hk := ?_) | refine b7 (hk := ?_) | refine p0 (hk := ?_) | refine g1 (hw := ?_) | refine g2 (hw := ?_) | refine g3 (hw := ?_) | refine g4 (hw := ?_) | (with_reducible intro hc) | refine d6 (ht := ?_) | refine d7 (hf := ?_) | refine u5 (hk := ?_) | refine u6 (hk := ?_) | refine u7 (hk := ?_) | refine u8 (hk := ?_) | refine d8 (ht := ?_) (hf := ?_) | refine d9 (ht := ?_) (hf := ?_))
    refine sl1 (m := 2000) (hn := rfl) (hm := by simp; omega) (hz := brow1' bs) (hk := ?_)
    repeat' (first | refine c0 ?_ | refine c1 ?_ | refine c2 ?_ | refine c3 ?_ | refine c4 ?_ | refine c5 ?_ | refine c6 (h := ?_) | refine c7 ?_ | refine d2 ?_ | refine c8 ?_ | refine c9 ?_ | refine d0 ?_ | refine d1 ?_ | refine d4 ?_ | refine a0 (hk := ?_) | refine b0 (hk := ?_) | refine b1 (hk := ?_) | refine b2 (hk := ?_) | refine b3 (hk := ?_) | refine b4 (hk := ?_) | refine p1 (hk := ?_) | refine g0' (hk := ?_) | refine a1 (hk := ?_) | refine a2 (hk := ?_) | refine u1 (hk := ?_) | refine u2 (hk := ?_) | refine u3 (hk := ?_) | refine u4 (hk := ?_) | refine a3 (ht := ?_) (hf := ?_) | refine a4 (ht := ?_) (hf := ?_) | refine a5 (hk := ?_) | refine b5 (hk := ?_) | refine b6 (hk := ?_) | refine b8 (hk := ?_) | refine b9 (hk := ?_) | refine b7 (hk := ?_) | refine p0 (hk := ?_) | refine g1 (hw := ?_) | refine g2 (hw := ?_) | refine g3 (hw := ?_) | refine g4 (hw := ?_) | (with_reducible intro hc) | refine d6 (ht := ?_) | refine d7 (hf := ?_) | refine u5 (hk := ?_) | refine u6 (hk := ?_) | refine u7 (hk := ?_) | refine u8 (hk := ?_) | refine d8 (ht := ?_) (hf := ?_) | refine d9 (ht := ?_) (hf := ?_))
    refine ⟨_, _, rKeep, _, _, rfl, rfl, Nat.le_add_right _ _, ?_⟩
    have e : RD (bs.take 2000) 0 = .cells false [[.lst ((bs.map brow).take 2000), I ((0 : Nat) : Int)]] := by rw [RD, BY, List.map_take]
    rw [e]
    exact get_own rfl
end Go.Proofs.X
end
section
namespace Go.Proofs.X
open Go Go.Proofs.XVai Go.Proofs Go.Proofs.XN
set_option linter.unusedVariables false
set_option linter.unusedSimpArgs false
set_option maxHeartbeats 4000000
set_option maxRecDepth 100000
/-- A value out of a cell of one's own, and another one. -/
theorem rRunV {f : Nat} {fn : Func} {T' : Tm} {S0 S1 S2 : St} {v w u : HV} (hkp : Y.keep f = false := by rfl) {a bt : Tmp} {t : TypeId} (hres : fn.results.toList = [.cell a t, .tmp bt] := by rfl) {ti : TI} (h1 : Y.tab t = some ti := by rfl) {q n i of' : Nat} {fr : Bool} {rows : List (List HV)} {row : List HV}
    (h2 : T' a = .ptr q n i of' := by rfl) (h3 : S1[q]? = some (.cells fr rows)) (h4 : rows.length = n := by rfl) (h5 : rows[i]? = some row := by rfl) (h6 : XVai.part ti.agg ti.size row of' = some v := by rfl) (hb : T' bt = u := by rfl) (hz : frzV S0.length v S1 = some (w, S2)) (hu : frzV S0.length u S2 = some (u, S2) := by rfl) (hi : idR S0.length (.tup [w, u]) = true := by rfl)
    (hl : S0.length ≤ S2.length) (ho : ∀ j, j < S0.length → S2[j]? = S0[j]?) : RT Y f fn S0 (.tup [w, u]) S0 .ret T' S1 := by
  have hr : resVs Y T' S1 fn.results.toList = some [v, u] := by
    rw [hres]
    simp only [resVs, resV, cload, h1, getRow, h2, h3, h4, if_true, h5, Option.map_some, h6, hb]
  exact rG hkp hr (frzR_tup (fmS hz (fmS hu fm0))) hi hl ho
/-- What a draw's loop holds: the reader, the result, the program. -/
structure DI (S : St) (by' : List UInt8) (k a c : Nat) (S1 : St) (q : Nat) (ls : List Lab) (ss : Stps) : Prop where
  rd : S1[k]? = some (RD by' q)
  ca : ∃ z y, S1[a]? = some (.cells false [[z, y]])
  cc : S1[c]? = some (.cells false [[LS ls, .lst ss.rows]])
  old : ∀ j, j < S.length → S1[j]? = S[j]?
  le : S.length ≤ S1.length
  ak : a ≠ k
  ck : c ≠ k
  ac : a ≠ c
  ok : S.length ≤ k
  oa : S.length ≤ a
  oc : S.length ≤ c
def Drawn (S : St) (v : HV) (S' : St) : Prop := S' = S ∧ ∃ ls ss h, v = .tup [PR ls ss, I h] ∧ ss.sz ≤ 100 ∧ ls.length ≤ 100 ∧ -4 ≤ h ∧ h ≤ 4
theorem quo8 {x y : Int} (hx : 0 ≤ x ∧ x < 4) (hy : 0 ≤ y ∧ y < 9) : -4 ≤ IntKind.i64.wrap (x - IntKind.i64.wrap (y.tdiv 8)) ∧ IntKind.i64.wrap (x - IntKind.i64.wrap (y.tdiv 8)) ≤ 4 := by
  rw [Int.tdiv_eq_ediv_of_nonneg hy.1, i64_id (n := y / 8) (by omega) (by omega), i64_id (by omega) (by omega)]
  omega
theorem c8I {fid : Nat} {T : Tm} {S : St} {c : Code} {id : Nat} {K : Tm → St → Prop} {Q : Ex → Tm → St → Prop} (P : Tm → St → Prop) (h : CW Y fid c T S (Ib id (Th P Q))) (hp : ∀ T' S', P T' S' → K T' S') : CW Y fid c T S (Ib id (Th K Q)) := by
  refine CW_mono h fun ex T' S' h => ?_
  have h0 := h.of
  cases ex with
  | norm => exact c3 (c0 (hp _ _ (show Th P Q .norm T' S' from h0).of))
  | ret => exact c4 (c1 (show Th P Q .ret T' S' from h0).of)
  | exit j =>
    refine ⟨?_⟩
    simp only [InB] at h0 ⊢
    split
    · rename_i hj
      rw [if_pos hj] at h0
      exact ⟨hp _ _ h0.of⟩
    · rename_i hj
      rw [if_neg hj] at h0
      exact ⟨h0.of⟩
section
variable {S S1 : St} {by' : List UInt8} {k a c q q' : Nat} {ls ls' : List Lab} {ss ss' : Stps}
theorem DI.rdr (h : DI S by' k a c S1 q ls ss) : DI S by' k a c (S1.set k (RD by' q')) q' ls ss :=
  ⟨setE h.rd, by obtain ⟨z, y, e⟩ := h.ca; exact ⟨z, y, setN h.ak e⟩, setN h.ck h.cc, fun j hj => by rw [List.getElem?_set_ne (by have := h.ok; omega)]; exact h.old j hj, by simpa using h.le, h.ak, h.ck, h.ac, h.ok, h.oa, h.oc⟩
theorem DI.prg (h : DI S by' k a c S1 q ls ss) : DI S by' k a c (S1.set c (.cells false [[LS ls', .lst ss'.rows]])) q ls' ss' :=
  ⟨setN (Ne.symm h.ck) h.rd, by obtain ⟨z, y, e⟩ := h.ca; exact ⟨z, y, setN h.ac e⟩, setE h.cc, fun j hj => by rw [List.getElem?_set_ne (by have := h.oc; omega)]; exact h.old j hj, by simpa using h.le, h.ak, h.ck, h.ac, h.ok, h.oa, h.oc⟩
theorem DI.app {L : St} (h : DI S by' k a c S1 q ls ss) : DI S by' k a c (S1 ++ L) q ls ss :=
  ⟨get_old h.rd, by obtain ⟨z, y, e⟩ := h.ca; exact ⟨z, y, get_old e⟩, get_old h.cc, fun j hj => by rw [List.getElem?_append_left (by have := h.le; omega)]; exact h.old j hj, by have := h.le; simp; omega, h.ak, h.ck, h.ac, h.ok, h.oa, h.oc⟩
end
theorem k_DrawLeakOf (bs : List UInt8) (S : St) : EvR Y spec_DrawLeakOf [BY bs] S (Drawn S) := by
  refine E_startR (h := ?_)
  repeat' (first | refine c0 ?_ | refine c1 ?_ | refine c2 ?_ | refine c3 ?_ | refine c4 ?_ | refine c5 ?_ | refine c6 (h := ?_) | refine c7 ?_ | refine d2 ?_ | refine c8 ?_ | refine c9 ?_ | refine d0 ?_ | refine d1 ?_ | refine d4 ?_ | refine a0 (hk := ?_) | refine b0 (hk := ?_) | refine b1 (hk := ?_) | refine b2 (hk := ?_) | refine b3 (hk := ?_) | refine b4 (hk := ?_) | refine p1 (hk := ?_) | refine g0' (hk := ?_) | refine a1 (hk := ?_) | refine a2 (hk := ?_) | refine u1 (hk := ?_) | refine u2 (hk := ?_) | refine u3 (hk := ?_) | refine u4 (hk := ?_) | refine a3 (ht := ?_) (hf := ?_) | refine a4 (ht := ?_) (hf := ?_) | refine a5 (hk := ?_) | refine b5 (hk := ?_) | refine b6 (hk := ?_) | refine b8 (hk := ?_) | refine b9 (hk := ?_) | refine b7 (hk := ?_) | refine p0 (hk := ?_) | refine g1 (hw := ?_) | refine g2 (hw := ?_) | refine g3 (hw := ?_) | refine g4 (hw := ?_) | (with_reducible intro hc) | refine d6 (ht := ?_) | refine d7 (hf := ?_) | refine u5 (hk := ?_) | refine u6 (hk := ?_) | refine u7 (hk := ?_) | refine u8 (hk := ?_) | refine d8 (ht := ?_) (hf := ?_) | refine d9 (ht := ?_) (hf := ?_))
  refine kX (he := k_spec_l6Open bs _) (hk := ?_)
  rintro v S2 ⟨J, k, hJ, rfl, hk1, hk2⟩
  have hk3 : S.length + 1 ≤ k := by simpa using hk1
  have f0 : S2[S.length + 0]? = some (.cells false [[.nils, .nils]]) := by
    rw [hJ]; exact get_old (get_own rfl)
  have hold : ∀ j, j < S.length → S2[j]? = S[j]? := fun j hj => by rw [hJ, List.getElem?_append_left (by simp; omega), List.getElem?_append_left hj]
  have hb : (bs.take 2000).length ≤ 2000 := by simp; omega
  have hkl : k < S2.length := (List.getElem?_eq_some_iff.1 hk2).1
  have hl2 : S.length ≤ S2.length := by omega
  generalize bs.take 2000 = by' at *
  clear hk1 hJ
  rw [← List.append_nil S2]
  repeat' (first | refine c0 ?_ | refine c1 ?_ | refine c2 ?_ | refine c3 ?_ | refine c4 ?_ | refine c5 ?_ | refine c6 (h := ?_) | refine c7 ?_ | refine d2 ?_ | refine c8 ?_ | refine c9 ?_ | refine d0 ?_ | refine d1 ?_ | refine d4 ?_ | refine a0 (hk := ?_) | refine b0 (hk := ?_) | refine b1 (hk := ?_) | refine b2 (hk := ?_) | refine b3 (hk := ?_) | refine b4 (hk := ?_) | refine p1 (hk := ?_) | refine g0' (hk := ?_) | refine a1 (hk := ?_) | refine a2 (hk := ?_) | refine u1 (hk := ?_) | refine u2 (hk := ?_) | refine u3 (hk := ?_) | refine u4 (hk := ?_) | refine a3 (ht := ?_) (hf := ?_) | refine a4 (ht := ?_) (hf := ?_) | refine a5 (hk := ?_) | refine b5 (hk := ?_) | refine b6 (hk := ?_) | refine b8 (hk := ?_) | refine b9 (hk := ?_) | refine b7 (hk := ?_) | refine p0 (hk := ?_) | refine g1 (hw := ?_) | refine g2 (hw := ?_) | refine g3 (hw := ?_) | refine g4 (hw := ?_) | (with_reducible intro hc) | refine d6 (ht := ?_) | refine d7 (hf := ?_) | refine u5 (hk := ?_) | refine u6 (hk := ?_) | refine u7 (hk := ?_) | refine u8 (hk := ?_) | refine d8 (ht := ?_) (hf := ?_) | refine d9 (ht := ?_) (hf := ?_))
  refine kE (hd := d_l71Prog) (h0 := hk2) (hl := hb) (hp := by omega) (hk := ?_)
  rintro v q hq1 hq2 ⟨ls, ss, rfl, hok, hl1⟩
  obtain ⟨h1, h2, h3, h4⟩ := progOk_in hok
  repeat' (first | refine c0 ?_ | refine c1 ?_ | refine c2 ?_ | refine c3 ?_ | refine c4 ?_ | refine c5 ?_ | refine c6 (h := ?_) | refine c7 ?_ | refine d2 ?_ | refine c8 ?_ | refine c9 ?_ | refine d0 ?_ | refine d1 ?_ | refine d4 ?_ | refine a0 (hk := ?_) | refine k0 (he := (by first | exact k_pick' (by first | assumption | exact get_old (by assumption) | exact get_set (by assumption)) hb (by omega))) (hk := ?_) | refine k1 (he := (by first | exact k_pick' (by first | assumption | exact get_old (by assumption) | exact get_set (by assumption)) hb (by omega))) (hk := ?_) | refine b0 (hk := ?_) | refine b1 (hk := ?_) | refine b2 (hk := ?_) | refine b3 (hk := ?_) | refine b4 (hk := ?_) | refine p1 (hk := ?_) | refine g0' (hk := ?_) | refine a1 (hk := ?_) | refine a2 (hk := ?_) | refine u1 (hk := ?_) | refine u2 (hk := ?_) | refine u3 (hk := ?_) | refine u4 (hk := ?_) | refine a3 (ht := ?_) (hf := ?_) | refine a4 (ht := ?_) (hf := ?_) | refine a5 (hk := ?_) | refine b5 (hk := ?_) | refine b6 (hk := ?_) | refine b8 (hk := ?_) | refine b9 (hk := ?_) | refine b7 (hk := ?_) | refine p0 (hk := ?_) | refine g1 (hw := ?_) | refine g2 (hw := ?_) | refine g3 (hw := ?_) | refine g4 (hw := ?_) | (with_reducible intro hc) | refine d6 (ht := ?_) | refine d7 (hf := ?_) | refine u5 (hk := ?_) | refine u6 (hk := ?_) | refine u7 (hk := ?_) | refine u8 (hk := ?_) | refine d8 (ht := ?_) (hf := ?_) | refine d9 (ht := ?_) (hf := ?_))
  have hp1 := pickv_bd by' q 4
  have hp2 := pickv_bd by' (q + 1) 9
  have hqo := quo8 (x := pickv by' q 4) (y := pickv by' (q + 1) 9) ⟨hp1.1, hp1.2.1 (by omega)⟩ ⟨hp2.1, hp2.2.1 (by omega)⟩
  refine c8I (P := fun T' S' => ∃ (T0 : Tm) (S1 : St) (q c : Nat) (ls : List Lab) (ss : Stps) (h : Int), q ≤ 270000 ∧ DI S by' k (S.length + 0) c S1 q ls ss ∧ ss.sz ≤ 100 ∧ ls.length ≤ 100 ∧ -4 ≤ h ∧ h ≤ 4 ∧
      T' = putL T0 [(2, .ptr (S.length + 0) 1 0 0), (4, .ptr k 1 0 0), (5, .ptr c 1 0 0), (6, I h)] ∧ S' = S1 ++ []) ?_ ?_
  · refine C_loop (fun m T' S' => ∃ (T0 : Tm) (S1 : St) (i q c : Nat) (ls : List Lab) (ss : Stps) (h : Int), i + m = 20 ∧ q + m * 12010 ≤ 260000 ∧ DI S by' k (S.length + 0) c S1 q ls ss ∧ ss.sz ≤ 100 ∧ ls.length ≤ 100 ∧ -4 ≤ h ∧ h ≤ 4 ∧
        T' = putL T0 [(2, .ptr (S.length + 0) 1 0 0), (4, .ptr k 1 0 0), (5, .ptr c 1 0 0), (6, I h), (7, I i)] ∧ S' = S1 ++ []) 20
      ⟨_, _, 0, q + 1 + 1, S2.length + 0, ls, ss, _, rfl, by omega, ?_, by omega, by omega, hqo.1, hqo.2, at_mk ⟨rfl, rfl, by show HV.ptr _ _ _ _ = _; simp, rfl, rfl, trivial⟩, (List.append_nil _).symm⟩ ?_
    · refine ⟨get_set hk2, ⟨_, _, get_setN (by omega) f0⟩, by have := get_setO (S0 := S2) (k := k) (L := [Ob.cells false [[LS ls, .lst ss.rows]]]) (j := 0) (o' := RD by' (q + 1 + 1)) rfl; exact this, fun j hj => by rw [List.getElem?_append_left (by simp; omega), List.getElem?_set_ne (by omega), hold j hj], by simp; omega, by omega, by omega, by omega, by omega, by omega, by omega⟩
    clear hqo hp1 hp2 h1 h2 h3 h4 hl1 hok hq1 hq2 hk2 f0 hold hkl
    rintro m T' S' ⟨T0, S1, i, q, c, ls, ss, h, hi, hq, hD, hs, hl, hh1, hh2, rfl, rfl⟩
    have hrd := hD.rd
    have hcc := hD.cc
    obtain ⟨z, y, hca⟩ := hD.ca
    have hak := hD.ak
    have hck := hD.ck
    have hac := hD.ac
    have hca' : c ≠ S.length + 0 := Ne.symm hac
    have hle := hD.le
    have hoc := hD.oc
    have hin := incN (i := i) (by omega)
    cases m with
    | zero =>
      have hc0 : ¬ ((i : Int) < 20) := by omega
      repeat' (first | refine c0 ?_ | refine c1 ?_ | refine c2 ?_ | refine c3 ?_ | refine c4 ?_ | refine c5 ?_ | refine c6 (h := ?_) | refine c7 ?_ | refine d2 ?_ | refine c8 ?_ | refine c9 ?_ | refine d0 ?_ | refine d1 ?_ | refine d4 ?_ | refine a0 (hk := ?_) | refine b0 (hk := ?_) | refine b1 (hk := ?_) | refine b2 (hk := ?_) | refine b3 (hk := ?_) | refine b4 (hk := ?_) | refine p1 (hk := ?_) | refine g0' (hk := ?_) | refine a1 (hk := ?_) | refine a2 (hk := ?_) | refine u1 (hk := ?_) | refine u2 (hk := ?_) | refine u3 (hk := ?_) | refine u4 (hk := ?_) | refine a3 (ht := ?_) (hf := ?_) | refine a4 (ht := ?_) (hf := ?_) | refine a5 (hk := ?_) | refine b5 (hk := ?_) | refine b6 (hk := ?_) | refine b8 (hk := ?_) | refine b9 (hk := ?_) | refine b7 (hk := ?_) | refine p0 (hk := ?_) | refine g1 (hw := ?_) | refine g2 (hw := ?_) | refine g3 (hw := ?_) | refine g4 (hw := ?_) | (with_reducible intro hc) | refine d6 (ht := ?_) | refine d7 (hf := ?_) | refine u5 (hk := ?_) | refine u6 (hk := ?_) | refine u7 (hk := ?_) | refine u8 (hk := ?_) | refine d8 (ht := ?_) (hf := ?_) | refine d9 (ht := ?_) (hf := ?_))
      exact ⟨_, _, q, c, ls, ss, h, by omega, hD.app, hs, hl, hh1, hh2, at_mk ⟨rfl, rfl, rfl, rfl, trivial⟩, (List.append_nil _).symm⟩
    | succ m =>
      have hc0 : (i : Int) < 20 := by omega
      rw [Nat.succ_mul] at hq
      cases hr : leakOf ls ss h with
      | some p =>
        obtain ⟨k1, i1⟩ := p
        have hT : ∀ S, Ev Y spec_LeakOf [PR ls ss, I h] S (.tup [L (row2 k1 ls.length), L (row2 i1 ls.length), .bool true]) S := fun S => by
          have := k_spec_LeakOf ls ss h S (by omega) (by omega)
          rw [hr] at this; exact this
        repeat' (first | refine c0 ?_ | refine c1 ?_ | refine c2 ?_ | refine c3 ?_ | refine c4 ?_ | refine c5 ?_ | refine c6 (h := ?_) | refine c7 ?_ | refine d2 ?_ | refine c8 ?_ | refine c9 ?_ | refine d0 ?_ | refine d1 ?_ | refine d4 ?_ | refine a0 (hk := ?_) | refine k0 (he := (by first | exact k_pick' (by first | assumption | exact get_old (by assumption) | exact get_set (by assumption)) hb (by omega) | exact hT _)) (hk := ?_) | refine k1 (he := (by first | exact k_pick' (by first | assumption | exact get_old (by assumption) | exact get_set (by assumption)) hb (by omega) | exact hT _)) (hk := ?_) | refine b0 (hk := ?_) | refine b1 (hk := ?_) | refine b2 (hk := ?_) | refine b3 (hk := ?_) | refine b4 (hk := ?_) | refine p1 (hk := ?_) | refine g0' (hk := ?_) | refine a1 (hk := ?_) | refine a2 (hk := ?_) | refine u1 (hk := ?_) | refine u2 (hk := ?_) | refine u3 (hk := ?_) | refine u4 (hk := ?_) | refine a3 (ht := ?_) (hf := ?_) | refine a4 (ht := ?_) (hf := ?_) | refine a5 (hk := ?_) | refine b5 (hk := ?_) | refine b6 (hk := ?_) | refine b8 (hk := ?_) | refine b9 (hk := ?_) | refine b7 (hk := ?_) | refine p0 (hk := ?_) | refine g1 (hw := ?_) | refine g2 (hw := ?_) | refine g3 (hw := ?_) | refine g4 (hw := ?_) | (with_reducible intro hc) | refine d6 (ht := ?_) | refine d7 (hf := ?_) | refine u5 (hk := ?_) | refine u6 (hk := ?_) | refine u7 (hk := ?_) | refine u8 (hk := ?_) | refine d8 (ht := ?_) (hf := ?_) | refine d9 (ht := ?_) (hf := ?_))
        · refine ⟨_, _, rRunV (h3 := get_old (setE (setN hak hca))) (hz := rfl) (hl := by simp; omega) (ho := fun j hj => ?_), rfl, ls, ss, h, rfl, hs, hl, hh1, hh2⟩
          rw [List.getElem?_append_left (by simp; omega), List.getElem?_set_ne (by omega), List.getElem?_set_ne (by have := hD.ok; omega), hD.old j hj]
        · exact ⟨_, _, q + 1, c, ls, ss, h, by omega, hD.rdr.app, hs, hl, hh1, hh2, at_mk ⟨rfl, rfl, rfl, rfl, trivial⟩, (List.append_nil _).symm⟩
      | none =>
        have hT : ∀ S, Ev Y spec_LeakOf [PR ls ss, I h] S (.tup [L [], L [], .bool false]) S := fun S => by
          have := k_spec_LeakOf ls ss h S (by omega) (by omega)
          rw [hr] at this; exact this
        repeat' (first | refine c0 ?_ | refine c1 ?_ | refine c2 ?_ | refine c3 ?_ | refine c4 ?_ | refine c5 ?_ | refine c6 (h := ?_) | refine c7 ?_ | refine d2 ?_ | refine c8 ?_ | refine c9 ?_ | refine d0 ?_ | refine d1 ?_ | refine d4 ?_ | refine a0 (hk := ?_) | refine k0 (he := (by first | exact k_pick' (by first | assumption | exact get_old (by assumption) | exact get_set (by assumption)) hb (by omega) | exact hT _)) (hk := ?_) | refine k1 (he := (by first | exact k_pick' (by first | assumption | exact get_old (by assumption) | exact get_set (by assumption)) hb (by omega) | exact hT _)) (hk := ?_) | refine b0 (hk := ?_) | refine b1 (hk := ?_) | refine b2 (hk := ?_) | refine b3 (hk := ?_) | refine b4 (hk := ?_) | refine p1 (hk := ?_) | refine g0' (hk := ?_) | refine a1 (hk := ?_) | refine a2 (hk := ?_) | refine u1 (hk := ?_) | refine u2 (hk := ?_) | refine u3 (hk := ?_) | refine u4 (hk := ?_) | refine a3 (ht := ?_) (hf := ?_) | refine a4 (ht := ?_) (hf := ?_) | refine a5 (hk := ?_) | refine b5 (hk := ?_) | refine b6 (hk := ?_) | refine b8 (hk := ?_) | refine b9 (hk := ?_) | refine b7 (hk := ?_) | refine p0 (hk := ?_) | refine g1 (hw := ?_) | refine g2 (hw := ?_) | refine g3 (hw := ?_) | refine g4 (hw := ?_) | (with_reducible intro hc) | refine d6 (ht := ?_) | refine d7 (hf := ?_) | refine u5 (hk := ?_) | refine u6 (hk := ?_) | refine u7 (hk := ?_) | refine u8 (hk := ?_) | refine d8 (ht := ?_) (hf := ?_) | refine d9 (ht := ?_) (hf := ?_))
        · refine kD (hd := d_l71Prog) (h0 := ⟨_, hrd⟩) (hl := hb) (hp := by omega) (hk := ?_)
          rintro v q2 hq3 hq4 ⟨ls2, ss2, rfl, hok2, hl3⟩
          obtain ⟨e1, e2, e3, e4⟩ := progOk_in hok2
          refine b7 (h3 := get_setN hck hcc) (h10 := set_setN hcc) (hk := ?_)
          refine d4 ?_
          refine c0 ?_
          refine C_gen (fun T' S' => ∃ (T0 : Tm) (S1 : St), DI S by' k (S.length + 0) c S1 q2 ls2 ss2 ∧ T' = putL T0 [(2, .ptr (S.length + 0) 1 0 0), (4, .ptr k 1 0 0), (5, .ptr c 1 0 0), (6, I h), (7, I i)] ∧ S' = S1 ++ [])
            ⟨_, _, hD.rdr.prg.app, at_mk ⟨rfl, rfl, rfl, rfl, rfl, trivial⟩, (List.append_nil _).symm⟩ ?_
          clear hD hrd hcc hca hT hr hle
          rintro T' S' ⟨T0, S1, hD, rfl, rfl⟩
          have hrd := hD.rd
          obtain ⟨j, hj1, hj2⟩ := pick_nat by' q2 (n := 3) (by omega)
          have hj1 : pickv by' q2 3 = j := hj1
          repeat' (first | refine c0 ?_ | refine c1 ?_ | refine c2 ?_ | refine c3 ?_ | refine c4 ?_ | refine c5 ?_ | refine c6 (h := ?_) | refine c7 ?_ | refine d2 ?_ | refine c8 ?_ | refine c9 ?_ | refine d0 ?_ | refine d1 ?_ | refine d4 ?_ | refine a0 (hk := ?_) | refine k0 (he := (by first | exact k_pick' (by first | assumption | exact get_old (by assumption) | exact get_set (by assumption)) hb (by omega))) (hk := ?_) | refine k1 (he := (by first | exact k_pick' (by first | assumption | exact get_old (by assumption) | exact get_set (by assumption)) hb (by omega))) (hk := ?_) | refine b0 (hk := ?_) | refine b1 (hk := ?_) | refine b2 (hk := ?_) | refine b3 (hk := ?_) | refine b4 (hk := ?_) | refine p1 (hk := ?_) | refine g0' (hk := ?_) | refine a1 (hk := ?_) | refine a2 (hk := ?_) | refine u1 (hk := ?_) | refine u2 (hk := ?_) | refine u3 (hk := ?_) | refine u4 (hk := ?_) | refine a3 (ht := ?_) (hf := ?_) | refine a4 (ht := ?_) (hf := ?_) | refine a5 (hk := ?_) | refine b5 (hk := ?_) | refine b6 (hk := ?_) | refine b8 (hk := ?_) | refine b9 (hk := ?_) | refine b7 (hk := ?_) | refine p0 (hk := ?_) | refine g1 (hw := ?_) | refine g2 (hw := ?_) | refine g3 (hw := ?_) | refine g4 (hw := ?_) | (with_reducible intro hc) | refine d6 (ht := ?_) | refine d7 (hf := ?_) | refine u5 (hk := ?_) | refine u6 (hk := ?_) | refine u7 (hk := ?_) | refine u8 (hk := ?_) | refine d8 (ht := ?_) (hf := ?_) | refine d9 (ht := ?_) (hf := ?_))
          exact ⟨m, by omega, _, _, i + 1, q2 + 1, c, ls2, ss2, pickv by' q2 3, by omega, by omega, hD.rdr.app, by omega, by omega, by omega, by omega, at_mk ⟨rfl, rfl, rfl, rfl, hin, trivial⟩, (List.append_nil _).symm⟩
        · exact ⟨_, _, q + 1, c, ls, ss, h, by omega, hD.rdr.app, hs, hl, hh1, hh2, at_mk ⟨rfl, rfl, rfl, rfl, trivial⟩, (List.append_nil _).symm⟩
  · clear hqo hp1 hp2 h1 h2 h3 h4 hl1 hok hq1 hq2 hk2 f0 hold hkl
    rintro T' S' ⟨T0, S1, q, c, ls, ss, h, hq, hD, hs, hl, hh1, hh2, rfl, rfl⟩
    have hrd := hD.rd
    have hcc := hD.cc
    obtain ⟨z, y, hca⟩ := hD.ca
    have hak := hD.ak
    have hck := hD.ck
    have hac := hD.ac
    have hca' : c ≠ S.length + 0 := Ne.symm hac
    have hle := hD.le
    have hoc := hD.oc
    repeat' (first | refine c0 ?_ | refine c1 ?_ | refine c2 ?_ | refine c3 ?_ | refine c4 ?_ | refine c5 ?_ | refine c6 (h := ?_) | refine c7 ?_ | refine d2 ?_ | refine c8 ?_ | refine c9 ?_ | refine d0 ?_ | refine d1 ?_ | refine d4 ?_ | refine a0 (hk := ?_) | refine k0 (he := (by first | exact k_pick' (by first | assumption | exact get_old (by assumption) | exact get_set (by assumption)) hb (by omega))) (hk := ?_) | refine k1 (he := (by first | exact k_pick' (by first | assumption | exact get_old (by assumption) | exact get_set (by assumption)) hb (by omega))) (hk := ?_) | refine b0 (hk := ?_) | refine b1 (hk := ?_) | refine b2 (hk := ?_) | refine b3 (hk := ?_) | refine b4 (hk := ?_) | refine p1 (hk := ?_) | refine g0' (hk := ?_) | refine a1 (hk := ?_) | refine a2 (hk := ?_) | refine u1 (hk := ?_) | refine u2 (hk := ?_) | refine u3 (hk := ?_) | refine u4 (hk := ?_) | refine a3 (ht := ?_) (hf := ?_) | refine a4 (ht := ?_) (hf := ?_) | refine a5 (hk := ?_) | refine b5 (hk := ?_) | refine b6 (hk := ?_) | refine b8 (hk := ?_) | refine b9 (hk := ?_) | refine b7 (hk := ?_) | refine p0 (hk := ?_) | refine g1 (hw := ?_) | refine g2 (hw := ?_) | refine g3 (hw := ?_) | refine g4 (hw := ?_) | (with_reducible intro hc) | refine d6 (ht := ?_) | refine d7 (hf := ?_) | refine u5 (hk := ?_) | refine u6 (hk := ?_) | refine u7 (hk := ?_) | refine u8 (hk := ?_) | refine d8 (ht := ?_) (hf := ?_) | refine d9 (ht := ?_) (hf := ?_))
    · refine kD (hd := d_l71Any) (h0 := ⟨_, hrd⟩) (hl := hb) (hp := by omega) (hk := ?_)
      rintro v q2 hq3 hq4 ⟨ls2, ss2, rfl, hs2, hl2'⟩
      refine b7 (h3 := get_setN hck hcc) (h10 := set_setN hcc) (hk := ?_)
      refine d4 ?_
      refine c0 ?_
      refine C_gen (fun T' S' => ∃ (T0 : Tm) (S1 : St), DI S by' k (S.length + 0) c S1 q2 ls2 ss2 ∧ T' = putL T0 [(2, .ptr (S.length + 0) 1 0 0), (4, .ptr k 1 0 0), (5, .ptr c 1 0 0), (6, I h)] ∧ S' = S1 ++ [])
        ⟨_, _, hD.rdr.prg.app, at_mk ⟨rfl, rfl, rfl, rfl, trivial⟩, (List.append_nil _).symm⟩ ?_
      clear hD hrd hcc hca hle
      rintro T' S' ⟨T0, S1, hD, rfl, rfl⟩
      have hcc := hD.cc
      obtain ⟨z, y, hca⟩ := hD.ca
      have hle := hD.le
      repeat' (first | refine c0 ?_ | refine c1 ?_ | refine c2 ?_ | refine c3 ?_ | refine c4 ?_ | refine c5 ?_ | refine c6 (h := ?_) | refine c7 ?_ | refine d2 ?_ | refine c8 ?_ | refine c9 ?_ | refine d0 ?_ | refine d1 ?_ | refine d4 ?_ | refine a0 (hk := ?_) | refine b0 (hk := ?_) | refine b1 (hk := ?_) | refine b2 (hk := ?_) | refine b3 (hk := ?_) | refine b4 (hk := ?_) | refine p1 (hk := ?_) | refine g0' (hk := ?_) | refine a1 (hk := ?_) | refine a2 (hk := ?_) | refine u1 (hk := ?_) | refine u2 (hk := ?_) | refine u3 (hk := ?_) | refine u4 (hk := ?_) | refine a3 (ht := ?_) (hf := ?_) | refine a4 (ht := ?_) (hf := ?_) | refine a5 (hk := ?_) | refine b5 (hk := ?_) | refine b6 (hk := ?_) | refine b8 (hk := ?_) | refine b9 (hk := ?_) | refine b7 (hk := ?_) | refine p0 (hk := ?_) | refine g1 (hw := ?_) | refine g2 (hw := ?_) | refine g3 (hw := ?_) | refine g4 (hw := ?_) | (with_reducible intro hc) | refine d6 (ht := ?_) | refine d7 (hf := ?_) | refine u5 (hk := ?_) | refine u6 (hk := ?_) | refine u7 (hk := ?_) | refine u8 (hk := ?_) | refine d8 (ht := ?_) (hf := ?_) | refine d9 (ht := ?_) (hf := ?_))
      refine ⟨_, _, rRunV (h3 := get_old (setE hca)) (hz := rfl) (hl := by simp; omega) (ho := fun j hj => ?_), rfl, ls2, ss2, h, rfl, hs2, hl2', hh1, hh2⟩
      rw [List.getElem?_append_left (by simp; omega), List.getElem?_set_ne (by omega), hD.old j hj]
    · refine ⟨_, _, rRunV (h3 := get_old (setE (setN hak hca))) (hz := rfl) (hl := by simp; omega) (ho := fun j hj => ?_), rfl, ls, ss, h, rfl, hs, hl, hh1, hh2⟩
      rw [List.getElem?_append_left (by simp; omega), List.getElem?_set_ne (by omega), List.getElem?_set_ne (by have := hD.ok; omega), hD.old j hj]
end Go.Proofs.X
end
section
namespace Go.Proofs.X
open Go Go.Proofs.XVai Go.Proofs Go.Proofs.XN
set_option linter.unusedVariables false
set_option linter.unusedSimpArgs false
theorem run_consQ (k v : Int) (x : Vl) (h : Int) (t e rest : Stps) (r : Rn) : run (.cons k v x h t e rest) r = run rest (if k = 1 then ⟨r.nums.set v.toNat (valNum x r.nums), r.ws ++ [(v, valNum x r.nums)], r.ss⟩
      else if k = 3 then ⟨r.nums, r.ws, r.ss ++ [(h, nget r.nums v)]⟩ else if nget r.nums v ≠ 0 then run t r else run e r) := rfl
/-- To whom nothing is told, nothing is said. -/
theorem run_tells : ∀ (l : Stps) (h : Int) (r : Rn), tells l h = false → runTo (run l r).ss h = runTo r.ss h
  | .nil, _, _, _ => rfl
  | .cons k v x hh t e rest, h, r, ht => by
    simp only [tells, Bool.or_eq_false_iff] at ht
    obtain ⟨⟨h1, h2, h3⟩, h4⟩ := ht
    rw [run_consQ, run_tells rest h _ h4]
    split
    · rfl
    · split
      · rename_i k3
        have : hh ≠ h := by
          intro e
          simp [k3, e] at h1
        simp [runTo, this]
      · split
        · exact run_tells t h r h2
        · exact run_tells e h r h3
theorem leak_found {ls : List Lab} {ss : Stps} {h : Int} {k i : Nat} (hp : leakOf ls ss h = some (k, i)) : progOk ls ss = true ∧ inB h 0 2 = true ∧ k < i ∧ i < 2 ^ ls.length ∧ sameOn (row2 k ls.length) (row2 i ls.length) (knowsOf ls h) = true ∧
    (runTo (runOf ls ss (row2 k ls.length)).ss h == runTo (runOf ls ss (row2 i ls.length)).ss h) = false := by
  simp only [leakOf] at hp
  split at hp
  · rename_i h0
    rw [Bool.and_eq_true] at h0
    have h1 := List.find?_some hp
    have h2 := List.mem_of_find?_eq_some hp
    rw [pairs_mem] at h2
    simp only [leakAt, Bool.and_eq_true, Bool.not_eq_true'] at h1
    exact ⟨h0.1, h0.2, h2.1, h2.2, h1.1, h1.2⟩
  · cases hp
theorem runOf_tells {ls : List Lab} {ss : Stps} {h : Int} (ht : tells ss h = false) (a : List Int) : runTo (runOf ls ss a).ss h = [] := by
  unfold runOf
  split
  · rw [run_tells _ _ _ ht]; rfl
  · rfl
/-- Who is told nothing learns nothing. -/
theorem leak_told {ls : List Lab} {ss : Stps} {h : Int} {p : Nat × Nat} (hp : leakOf ls ss h = some p) : tells ss h = true ∧ inB h 0 2 = true := by
  obtain ⟨k, i⟩ := p
  obtain ⟨_, h1, _, _, _, h2⟩ := leak_found hp
  refine ⟨?_, h1⟩
  cases ht : tells ss h with
  | true => rfl
  | false =>
    rw [runOf_tells ht, runOf_tells ht] at h2
    simp at h2
end Go.Proofs.X
end
section
namespace Go.Proofs.X
open Go Go.Proofs.XVai Go.Proofs Go.Proofs.XN
set_option linter.unusedVariables false
set_option linter.unusedSimpArgs false
set_option maxHeartbeats 4000000
set_option maxRecDepth 100000
theorem law_LeakTold (bs : List UInt8) (S : St) : Ev Y laws_FnLeakTold [BY bs] S (.bool true) S := by
  by_cases hlen : bs.length > 1048576
  · have hc0 : ((bs.map brow).length : Int) > 1048576 := by simp; omega
    refine E_start (h := ?_)
    repeat' (first | refine c0 ?_ | refine c1 ?_ | refine c2 ?_ | refine c3 ?_ | refine c4 ?_ | refine c5 ?_ | refine c6 (h := ?_) | refine c7 ?_ | refine d2 ?_ | refine c8 ?_ | refine c9 ?_ | refine d0 ?_ | refine d1 ?_ | refine d4 ?_ | refine a0 (hk := ?_) | refine b0 (hk := ?_) | refine b1 (hk := ?_) | refine b2 (hk := ?_) | refine b3 (hk := ?_) | refine b4 (hk := ?_) | refine p1 (hk := ?_) | refine g0' (hk := ?_) | refine a1 (hk := ?_) | refine a2 (hk := ?_) | refine u1 (hk := ?_) | refine u2 (hk := ?_) | refine u3 (hk := ?_) | refine u4 (hk := ?_) | refine a3 (ht := ?_) (hf := ?_) | refine a4 (ht := ?_) (hf := ?_) | refine a5 (hk := ?_) | refine b5 (hk := ?_) | refine b6 (hk := ?_) | refine b8 (hk := ?_) | refine b9 (hk := ?_) | refine b7 (hk := ?_) | refine p0 (hk := ?_) | refine g1 (hw := ?_) | refine g2 (hw := ?_) | refine g3 (hw := ?_) | refine g4 (hw := ?_) | (with_reducible intro hc) | refine d6 (ht := ?_) | refine d7 (hf := ?_) | refine u5 (hk := ?_) | refine u6 (hk := ?_) | refine u7 (hk := ?_) | refine u8 (hk := ?_) | refine d8 (ht := ?_) (hf := ?_) | refine d9 (ht := ?_) (hf := ?_))
    exact rB (hv := rfl)
  · have hc0 : ¬ (((bs.map brow).length : Int) > 1048576) := by simp; omega
    refine E_start (h := ?_)
    repeat' (first | refine c0 ?_ | refine c1 ?_ | refine c2 ?_ | refine c3 ?_ | refine c4 ?_ | refine c5 ?_ | refine c6 (h := ?_) | refine c7 ?_ | refine d2 ?_ | refine c8 ?_ | refine c9 ?_ | refine d0 ?_ | refine d1 ?_ | refine d4 ?_ | refine a0 (hk := ?_) | refine b0 (hk := ?_) | refine b1 (hk := ?_) | refine b2 (hk := ?_) | refine b3 (hk := ?_) | refine b4 (hk := ?_) | refine p1 (hk := ?_) | refine g0' (hk := ?_) | refine a1 (hk := ?_) | refine a2 (hk := ?_) | refine u1 (hk := ?_) | refine u2 (hk := ?_) | refine u3 (hk := ?_) | refine u4 (hk := ?_) | refine a3 (ht := ?_) (hf := ?_) | refine a4 (ht := ?_) (hf := ?_) | refine a5 (hk := ?_) | refine b5 (hk := ?_) | refine b6 (hk := ?_) | refine b8 (hk := ?_) | refine b9 (hk := ?_) | refine b7 (hk := ?_) | refine p0 (hk := ?_) | refine g1 (hw := ?_) | refine g2 (hw := ?_) | refine g3 (hw := ?_) | refine g4 (hw := ?_) | (with_reducible intro hc) | refine d6 (ht := ?_) | refine d7 (hf := ?_) | refine u5 (hk := ?_) | refine u6 (hk := ?_) | refine u7 (hk := ?_) | refine u8 (hk := ?_) | refine d8 (ht := ?_) (hf := ?_) | refine d9 (ht := ?_) (hf := ?_))
    refine kX (he := k_DrawLeakOf bs _) (hk := ?_)
    rintro v S2 ⟨rfl, ls, ss, h, rfl, hs, hl, hh1, hh2⟩
    cases hr : leakOf ls ss h with
    | none =>
      have f1 : ∀ S, Ev Y spec_LeakOf [PR ls ss, I h] S (.tup [L [], L [], .bool false]) S := fun S => by
        have := k_spec_LeakOf ls ss h S (by omega) (by omega)
        rw [hr] at this; exact this
      have f2 : ∀ S, Ev Y impl_LeakOf [PR ls ss, I h] S (.tup [L [], L [], .bool false]) S := fun S => by
        have := k_impl_LeakOf ls ss h S (by omega) (by omega)
        rw [hr] at this; exact this
      repeat' (first | refine c0 ?_ | refine c1 ?_ | refine c2 ?_ | refine c3 ?_ | refine c4 ?_ | refine c5 ?_ | refine c6 (h := ?_) | refine c7 ?_ | refine d2 ?_ | refine c8 ?_ | refine c9 ?_ | refine d0 ?_ | refine d1 ?_ | refine d4 ?_ | refine a0 (hk := ?_) | refine k0 (he := (by first | exact f1 _ | exact f2 _ | exact lcInts_eq _ _ (by simp))) (hk := ?_) | refine k1 (he := (by first | exact f1 _ | exact f2 _ | exact lcInts_eq _ _ (by simp))) (hk := ?_) | refine b0 (hk := ?_) | refine b1 (hk := ?_) | refine b2 (hk := ?_) | refine b3 (hk := ?_) | refine b4 (hk := ?_) | refine p1 (hk := ?_) | refine g0' (hk := ?_) | refine a1 (hk := ?_) | refine a2 (hk := ?_) | refine u1 (hk := ?_) | refine u2 (hk := ?_) | refine u3 (hk := ?_) | refine u4 (hk := ?_) | refine a3 (ht := ?_) (hf := ?_) | refine a4 (ht := ?_) (hf := ?_) | refine a5 (hk := ?_) | refine b5 (hk := ?_) | refine b6 (hk := ?_) | refine b8 (hk := ?_) | refine b9 (hk := ?_) | refine b7 (hk := ?_) | refine p0 (hk := ?_) | refine g1 (hw := ?_) | refine g2 (hw := ?_) | refine g3 (hw := ?_) | refine g4 (hw := ?_) | (with_reducible intro hc) | refine d6 (ht := ?_) | refine d7 (hf := ?_) | refine u5 (hk := ?_) | refine u6 (hk := ?_) | refine u7 (hk := ?_) | refine u8 (hk := ?_) | refine d8 (ht := ?_) (hf := ?_) | refine d9 (ht := ?_) (hf := ?_))
      exact rB (hv := rfl)
    | some p =>
      obtain ⟨k, i⟩ := p
      obtain ⟨t1, t2⟩ := leak_told hr
      obtain ⟨g1, g2, g3, g4, g5, g6⟩ := leak_found hr
      obtain ⟨p1, p2, p3, p4⟩ := progOk_in g1
      have hrl := fun m => row2_len m ls.length
      have f1 : ∀ S, Ev Y spec_LeakOf [PR ls ss, I h] S (.tup [L (row2 k ls.length), L (row2 i ls.length), .bool true]) S := fun S => by
        have := k_spec_LeakOf ls ss h S (by omega) (by omega)
        rw [hr] at this; exact this
      have f2 : ∀ S, Ev Y impl_LeakOf [PR ls ss, I h] S (.tup [L (row2 k ls.length), L (row2 i ls.length), .bool true]) S := fun S => by
        have := k_impl_LeakOf ls ss h S (by omega) (by omega)
        rw [hr] at this; exact this
      have f3 : ∀ S, Ev Y laws_lcTells [.lst ss.rows, I h] S (.bool true) S := fun S => by
        have := k_laws_lcTells _ ss h S (Nat.le_refl _) (by omega)
        rwa [t1] at this
      have hin : 0 ≤ h ∧ h ≤ 2 := by simpa [inB] using t2
      have c1 : h ≥ 0 := hin.1
      have c2 : h < 3 := by omega
      repeat' (first | refine c0 ?_ | refine c1 ?_ | refine c2 ?_ | refine c3 ?_ | refine c4 ?_ | refine c5 ?_ | refine c6 (h := ?_) | refine c7 ?_ | refine d2 ?_ | refine c8 ?_ | refine c9 ?_ | refine d0 ?_ | refine d1 ?_ | refine d4 ?_ | refine a0 (hk := ?_) | refine k0 (he := (by first | exact f1 _ | exact f2 _ | exact lcInts_eq _ _ (by rw [hrl]; omega) | exact f3 _)) (hk := ?_) | refine k1 (he := (by first | exact f1 _ | exact f2 _ | exact lcInts_eq _ _ (by rw [hrl]; omega) | exact f3 _)) (hk := ?_) | refine b0 (hk := ?_) | refine b1 (hk := ?_) | refine b2 (hk := ?_) | refine b3 (hk := ?_) | refine b4 (hk := ?_) | refine p1 (hk := ?_) | refine g0' (hk := ?_) | refine a1 (hk := ?_) | refine a2 (hk := ?_) | refine u1 (hk := ?_) | refine u2 (hk := ?_) | refine u3 (hk := ?_) | refine u4 (hk := ?_) | refine a3 (ht := ?_) (hf := ?_) | refine a4 (ht := ?_) (hf := ?_) | refine a5 (hk := ?_) | refine b5 (hk := ?_) | refine b6 (hk := ?_) | refine b8 (hk := ?_) | refine b9 (hk := ?_) | refine b7 (hk := ?_) | refine p0 (hk := ?_) | refine g1 (hw := ?_) | refine g2 (hw := ?_) | refine g3 (hw := ?_) | refine g4 (hw := ?_) | (with_reducible intro hc) | refine d6 (ht := ?_) | refine d7 (hf := ?_) | refine u5 (hk := ?_) | refine u6 (hk := ?_) | refine u7 (hk := ?_) | refine u8 (hk := ?_) | refine d8 (ht := ?_) (hf := ?_) | refine d9 (ht := ?_) (hf := ?_))
      refine rB (hv := ?_)
      exact decide_eq_true c2
end Go.Proofs.X
end
