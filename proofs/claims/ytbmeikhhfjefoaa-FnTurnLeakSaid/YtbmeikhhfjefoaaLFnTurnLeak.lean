/- What the law FnTurnLeak, and what it alone calls, returns. Conditions: none. -/
import Derived.Test.YtbmeikhhfjefoaaA5
set_option linter.all false
section
namespace Go.Proofs.X
open Go Go.Proofs.XVai Go.Proofs Go.Proofs.XN
set_option linter.unusedVariables false
set_option linter.unusedSimpArgs false

/-- The new name of a host. -/
def sig (h : Int) : Int := if h = 0 then 1 else if h = 1 then 2 else if h = 2 then 0 else h
theorem sig_inj {a b : Int} : sig a = sig b ↔ a = b := by
  unfold sig
  constructor
  · intro h
    repeat' split at h
    all_goals omega
  · rintro rfl; rfl
theorem sig_in (h : Int) : inB (sig h) 0 2 = inB h 0 2 := by
  unfold sig inB
  rw [decide_eq_decide]
  repeat' split
  all_goals omega
def turnG (s : Int) : Int := (if hasG s 2 then 1 else 0) + (if hasG s 0 then 2 else 0) + (if hasG s 1 then 4 else 0)
theorem turn_has {s h : Int} (hh : inB h 0 2 = true) : hasG (turnG s) (sig h) = hasG s h := by
  obtain ⟨q0, q1, q2, _⟩ := hasG_bits (hasG s 2) (hasG s 0) (hasG s 1)
  have : h = 0 ∨ h = 1 ∨ h = 2 := by simp only [inB, decide_eq_true_eq] at hh; omega
  rcases this with rfl | rfl | rfl
  · exact q1
  · exact q2
  · exact q0
def turnL (l : Lab) : Lab := ⟨turnG l.k, turnG l.t⟩
theorem turnL_ok (l : Lab) : labOk (turnL l) = true := by
  have h1 := (hasG_bits (hasG l.k 2) (hasG l.k 0) (hasG l.k 1)).2.2.2
  have h2 := (hasG_bits (hasG l.t 2) (hasG l.t 0) (hasG l.t 1)).2.2.2
  show (setB (turnG l.k) && setB (turnG l.t)) = true
  rw [turnG, turnG, h1, h2]; rfl
def turnS : Stps → Stps
  | .nil => .nil
  | .cons k v x h t e r => .cons k v x (if k = 3 then sig h else h) (turnS t) (turnS e) (turnS r)
theorem turnS_len : ∀ l : Stps, (turnS l).len = l.len
  | .nil => rfl
  | .cons _ _ _ _ _ _ r => by simp [turnS, Stps.len, turnS_len r]
theorem turnS_sz : ∀ l : Stps, (turnS l).sz = l.sz
  | .nil => rfl
  | .cons _ _ _ _ t e r => by simp [turnS, Stps.sz, turnS_sz t, turnS_sz e, turnS_sz r]
theorem turnS_ok (n : Nat) : ∀ (l : Stps) (d : Int), stepsOk n (turnS l) d = stepsOk n l d
  | .nil, _ => rfl
  | .cons k v x h t e r, d => by
    simp only [turnS, stepsOk, turnS_ok n t, turnS_ok n e, turnS_ok n r, turnS_len]
    by_cases k1 : k = 1
    · subst k1; simp
    · by_cases k3 : k = 3
      · subst k3; simp [sig_in]
      · simp [k1, k3]
def tau (p : Int × Int) : Int × Int := (sig p.1, p.2)
theorem turn_run : ∀ (l : Stps) (r : Rn), run (turnS l) ⟨r.nums, r.ws, r.ss.map tau⟩ = ⟨(run l r).nums, (run l r).ws, (run l r).ss.map tau⟩
  | .nil, _ => rfl
  | .cons k v x h t e rest, r => by
    rw [turnS, run_consQ, run_consQ]
    by_cases k1 : k = 1
    · rw [if_pos k1, if_pos k1, ← turn_run rest]
    · rw [if_neg k1, if_neg k1]
      by_cases k3 : k = 3
      · rw [if_pos k3, if_pos k3, if_pos k3, ← turn_run rest]
        congr 2
        simp [tau]
      · rw [if_neg k3, if_neg k3]
        dsimp only
        by_cases hn : nget r.nums v ≠ 0
        · rw [if_pos hn, if_pos hn, turn_run t, turn_run rest]
        · rw [if_neg hn, if_neg hn, turn_run e, turn_run rest]
theorem turn_prog {ls : List Lab} {ss : Stps} (h : progOk ls ss = true) : progOk (ls.map turnL) (turnS ss) = true := by
  obtain ⟨h1, h2, h3, h4⟩ := progOk_in h
  simp only [progOk, List.length_map, turnS_ok, turnS_sz, Bool.and_eq_true, decide_eq_true_eq]
  refine ⟨⟨⟨h1, ?_⟩, h3⟩, h4⟩
  rw [List.all_map, List.all_eq_true]
  exact fun l _ => turnL_ok l
theorem turn_runOf {ls : List Lab} {ss : Stps} (h : progOk ls ss = true) (a : List Int) : (runOf (ls.map turnL) (turnS ss) a).ss = (runOf ls ss a).ss.map tau := by
  have e : numsOk (ls.map turnL) (turnS ss) a = numsOk ls ss a := by simp only [numsOk, h, turn_prog h, List.length_map]
  unfold runOf
  rw [e]
  split
  · have := turn_run ss ⟨a, [], []⟩
    simp only [List.map_nil] at this
    rw [this]
  · rfl
theorem turn_to (ss : List (Int × Int)) (h : Int) : runTo (ss.map tau) (sig h) = runTo ss h := by
  unfold runTo
  rw [List.filter_map, List.map_map]
  have : ((fun s : Int × Int => s.1 == sig h) ∘ tau) = fun s => s.1 == h := by
    funext s
    rw [Bool.eq_iff_iff]
    simp [tau, sig_inj]
  rw [this]
  rfl
/-- A turned program tells turned hosts too much with the same rows. -/
theorem turn_leak {ls : List Lab} {ss : Stps} {h : Int} (hok : progOk ls ss = true) (hh : inB h 0 2 = true) : leakOf (ls.map turnL) (turnS ss) (sig h) = leakOf ls ss h := by
  have ek : knowsOf (ls.map turnL) (sig h) = knowsOf ls h := by
    simp only [knowsOf, List.map_map]
    exact List.map_congr_left fun l _ => turn_has hh
  have ea : leakAt (ls.map turnL) (turnS ss) (sig h) = leakAt ls ss h := by
    funext p
    simp only [leakAt, ek, List.length_map, turn_runOf hok, turn_to]
  simp only [leakOf, turn_prog hok, hok, sig_in, hh, ea, List.length_map]
theorem sig_next {h : Int} (hh : inB h 0 2 = true) : (IntKind.i64.wrap (h + 1)).tmod 3 = sig h := by
  have : h = 0 ∨ h = 1 ∨ h = 2 := by simp only [inB, decide_eq_true_eq] at hh; omega
  rcases this with rfl | rfl | rfl <;> decide
end Go.Proofs.X
end
section
namespace Go.Proofs.X
open Go Go.Proofs.XVai Go.Proofs Go.Proofs.XN
set_option linter.unusedVariables false
set_option linter.unusedSimpArgs false
set_option maxHeartbeats 40000000
set_option maxRecDepth 100000

theorem k_Index0 (v : Int) (S : St) : Ev Y slices_Index_int [L [], I v] S (I (-1)) S := by
  refine E_start (h := ?_)
  repeat' (first | refine c0 ?_ | refine c2 ?_ | refine c5 ?_ | refine c7 ?_ | refine d2 ?_ | refine c8 ?_ | refine c9 ?_ | refine d1 ?_ | refine d4 ?_ | refine d5 ?_ | refine a5 (hk := ?_) | refine d7 (hf := ?_))
  exact rI (hv := rfl)
theorem k_Index1 (S : St) : Ev Y slices_Index_int [L [1], I 2] S (I (-1)) S := by
  refine E_start (h := ?_)
  repeat' (first | refine c0 ?_ | refine c2 ?_ | refine c3 ?_ | refine c5 ?_ | refine c7 ?_ | refine d2 ?_ | refine c8 ?_ | refine c9 ?_ | refine d0 ?_ | refine d1 ?_ | refine d4 ?_ | refine d5 ?_ | refine a5 (hk := ?_) | refine d6 (ht := ?_) | refine d7 (hf := ?_))
  exact rI (hv := rfl)
theorem k_Index2 (S : St) : Ev Y slices_Index_int [L [1, 2], I 0] S (I (-1)) S := by
  refine E_start (h := ?_)
  repeat' (first | refine c0 ?_ | refine c2 ?_ | refine c3 ?_ | refine c5 ?_ | refine c7 ?_ | refine d2 ?_ | refine c8 ?_ | refine c9 ?_ | refine d0 ?_ | refine d1 ?_ | refine d4 ?_ | refine d5 ?_ | refine a5 (hk := ?_) | refine d6 (ht := ?_) | refine d7 (hf := ?_))
  exact rI (hv := rfl)
theorem k_Contains0 (S : St) : Ev Y slices_Contains_int [L [], I 1] S (.bool false) S := by
  refine E_start (h := ?_)
  repeat' (first | refine c0 ?_ | refine c7 ?_ | refine d2 ?_ | refine c9 ?_ | refine d4 ?_ | refine k0 (he := (by first | exact k_Index0 _ _)) (hk := ?_) | refine a5 (hk := ?_))
  exact rB (hv := rfl)
theorem k_Contains1 (S : St) : Ev Y slices_Contains_int [L [1], I 2] S (.bool false) S := by
  refine E_start (h := ?_)
  repeat' (first | refine c0 ?_ | refine c7 ?_ | refine d2 ?_ | refine c9 ?_ | refine d4 ?_ | refine k0 (he := (by first | exact k_Index1 _)) (hk := ?_) | refine a5 (hk := ?_))
  exact rB (hv := rfl)
theorem k_Contains2 (S : St) : Ev Y slices_Contains_int [L [1, 2], I 0] S (.bool false) S := by
  refine E_start (h := ?_)
  repeat' (first | refine c0 ?_ | refine c7 ?_ | refine d2 ?_ | refine c9 ?_ | refine d4 ?_ | refine k0 (he := (by first | exact k_Index2 _)) (hk := ?_) | refine a5 (hk := ?_))
  exact rB (hv := rfl)
theorem in3 (a : Int) (h : 0 ≤ a ∧ a ≤ 2) (S : St) : Ev Y impl_in [I a, I 0, I 2] S (.bool true) S := by
  have := k_impl_in a 0 2 S
  rwa [show inB a 0 2 = true by simpa [inB] using h] at this
theorem k_impl_isRow (S : St) : Ev Y impl_isRow [L [1, 2, 0], I 3] S (.bool true) S := by
  refine E_start (h := ?_)
  repeat' (first | refine c0 ?_ | refine c2 ?_ | refine c3 ?_ | refine c5 ?_ | refine c7 ?_ | refine d2 ?_ | refine c8 ?_ | refine c9 ?_ | refine d0 ?_ | refine d1 ?_ | refine d4 ?_ | refine d5 ?_ | refine k0 (he := (by first | exact in3 _ (by decide) _ | exact k_Contains0 _ | exact k_Contains1 _ | exact k_Contains2 _)) (hk := ?_) | refine a2 (hk := ?_) | refine a5 (hk := ?_) | refine d6 (ht := ?_) | refine d7 (hf := ?_))
  exact rB (hv := rfl)
theorem k_impl_turned (s : Int) (S : St) (hs : setB s = true) : Ev Y impl_turned [I s, L [1, 2, 0]] S (I (turnG s)) S := by
  have hh : ∀ i S, Ev Y impl_has [I s, I i] S (.bool (hasG s i)) S := fun i S => by
    rw [← has_eq hs i]
    exact k_impl_has s i S
  have e : turnG s = (if hasG s 2 then 1 else 0) + (if hasG s 0 then 2 else 0) + (if hasG s 1 then 4 else 0) := rfl
  rw [e]
  have q0 := hh 0
  have q1 := hh 1
  have q2 := hh 2
  clear hh e
  generalize hasG s 0 = x0 at *
  generalize hasG s 1 = x1 at *
  generalize hasG s 2 = x2 at *
  cases x0 <;> cases x1 <;> cases x2
  all_goals refine E_start (h := ?_)
  · repeat' (first | refine c0 ?_ | refine c2 ?_ | refine c3 ?_ | refine c5 ?_ | refine c7 ?_ | refine d2 ?_ | refine c8 ?_ | refine c9 ?_ | refine d0 ?_ | refine d1 ?_ | refine d4 ?_ | refine d5 ?_ | refine k0 (he := (by first | exact q0 _ | exact q1 _ | exact q2 _)) (hk := ?_) | refine a5 (hk := ?_) | refine d6 (ht := ?_) | refine d7 (hf := ?_))
    exact rI (hv := rfl)
  · repeat' (first | refine c0 ?_ | refine c2 ?_ | refine c3 ?_ | refine c5 ?_ | refine c7 ?_ | refine d2 ?_ | refine c8 ?_ | refine c9 ?_ | refine d0 ?_ | refine d1 ?_ | refine d4 ?_ | refine d5 ?_ | refine k0 (he := (by first | exact q0 _ | exact q1 _ | exact q2 _)) (hk := ?_) | refine a5 (hk := ?_) | refine d6 (ht := ?_) | refine d7 (hf := ?_))
    exact rI (hv := rfl)
  · repeat' (first | refine c0 ?_ | refine c2 ?_ | refine c3 ?_ | refine c5 ?_ | refine c7 ?_ | refine d2 ?_ | refine c8 ?_ | refine c9 ?_ | refine d0 ?_ | refine d1 ?_ | refine d4 ?_ | refine d5 ?_ | refine k0 (he := (by first | exact q0 _ | exact q1 _ | exact q2 _)) (hk := ?_) | refine a5 (hk := ?_) | refine d6 (ht := ?_) | refine d7 (hf := ?_))
    exact rI (hv := rfl)
  · repeat' (first | refine c0 ?_ | refine c2 ?_ | refine c3 ?_ | refine c5 ?_ | refine c7 ?_ | refine d2 ?_ | refine c8 ?_ | refine c9 ?_ | refine d0 ?_ | refine d1 ?_ | refine d4 ?_ | refine d5 ?_ | refine k0 (he := (by first | exact q0 _ | exact q1 _ | exact q2 _)) (hk := ?_) | refine a5 (hk := ?_) | refine d6 (ht := ?_) | refine d7 (hf := ?_))
    exact rI (hv := rfl)
  · repeat' (first | refine c0 ?_ | refine c2 ?_ | refine c3 ?_ | refine c5 ?_ | refine c7 ?_ | refine d2 ?_ | refine c8 ?_ | refine c9 ?_ | refine d0 ?_ | refine d1 ?_ | refine d4 ?_ | refine d5 ?_ | refine k0 (he := (by first | exact q0 _ | exact q1 _ | exact q2 _)) (hk := ?_) | refine a5 (hk := ?_) | refine d6 (ht := ?_) | refine d7 (hf := ?_))
    exact rI (hv := rfl)
  · repeat' (first | refine c0 ?_ | refine c2 ?_ | refine c3 ?_ | refine c5 ?_ | refine c7 ?_ | refine d2 ?_ | refine c8 ?_ | refine c9 ?_ | refine d0 ?_ | refine d1 ?_ | refine d4 ?_ | refine d5 ?_ | refine k0 (he := (by first | exact q0 _ | exact q1 _ | exact q2 _)) (hk := ?_) | refine a5 (hk := ?_) | refine d6 (ht := ?_) | refine d7 (hf := ?_))
    exact rI (hv := rfl)
  · repeat' (first | refine c0 ?_ | refine c2 ?_ | refine c3 ?_ | refine c5 ?_ | refine c7 ?_ | refine d2 ?_ | refine c8 ?_ | refine c9 ?_ | refine d0 ?_ | refine d1 ?_ | refine d4 ?_ | refine d5 ?_ | refine k0 (he := (by first | exact q0 _ | exact q1 _ | exact q2 _)) (hk := ?_) | refine a5 (hk := ?_) | refine d6 (ht := ?_) | refine d7 (hf := ?_))
    exact rI (hv := rfl)
  · repeat' (first | refine c0 ?_ | refine c2 ?_ | refine c3 ?_ | refine c5 ?_ | refine c7 ?_ | refine d2 ?_ | refine c8 ?_ | refine c9 ?_ | refine d0 ?_ | refine d1 ?_ | refine d4 ?_ | refine d5 ?_ | refine k0 (he := (by first | exact q0 _ | exact q1 _ | exact q2 _)) (hk := ?_) | refine a5 (hk := ?_) | refine d6 (ht := ?_) | refine d7 (hf := ?_))
    exact rI (hv := rfl)
/-! ### steps in rows of one's own -/
/-- The rows of steps, and below them rows of one's own, all from lo to hi. -/
def Tr (S : St) : Nat → Nat → Stps → List (List HV) → Prop
  | lo, hi, .nil, rows => rows = [] ∧ lo ≤ hi
  | lo, hi, .cons k v x h t e r, rows => ∃ (qt qe m1 m2 : Nat) (rt re rs : List (List HV)), rows = ([I k, I v, I x.kind, I x.a, I x.b, I h, .sl qt t.len, .sl qe e.len] : List HV) :: rs ∧
      (lo ≤ qt ∧ S[qt]? = some (.cells false rt) ∧ Tr S (qt + 1) m1 t rt) ∧ (m1 ≤ qe ∧ S[qe]? = some (.cells false re) ∧ Tr S (qe + 1) m2 e re) ∧ Tr S m2 hi r rs
def Node (S : St) (lo hi : Nat) (c : HV) (l : Stps) : Prop := ∃ q rows, c = .sl q l.len ∧ lo ≤ q ∧ S[q]? = some (.cells false rows) ∧ Tr S (q + 1) hi l rows
theorem Tr.le {S : St} : ∀ {lo hi : Nat} {l : Stps} {rows : List (List HV)}, Tr S lo hi l rows → lo ≤ hi
  | _, _, .nil, _, h => h.2
  | lo, hi, .cons k v x hh t e r, _, h => by
    obtain ⟨qt, qe, m1, m2, rt, re, rs, _, ⟨h1, _, h2⟩, ⟨h3, _, h4⟩, h5⟩ := h
    have := h2.le
    have := h4.le
    have := h5.le
    omega
theorem Tr.keep {S S' : St} : ∀ {lo hi : Nat} {l : Stps} {rows : List (List HV)}, Tr S lo hi l rows → (∀ j, lo ≤ j → j < hi → S'[j]? = S[j]?) → Tr S' lo hi l rows
  | _, _, .nil, _, h, _ => h
  | lo, hi, .cons k v x hh t e r, _, h, hf => by
    obtain ⟨qt, qe, m1, m2, rt, re, rs, h0, ⟨h1, g1, h2⟩, ⟨h3, g2, h4⟩, h5⟩ := h
    have l2 := h2.le
    have l4 := h4.le
    have l5 := h5.le
    exact ⟨qt, qe, m1, m2, rt, re, rs, h0, ⟨h1, by rw [hf _ (by omega) (by omega), g1], h2.keep fun j _ _ => hf j (by omega) (by omega)⟩, ⟨h3, by rw [hf _ (by omega) (by omega), g2], h4.keep fun j _ _ => hf j (by omega) (by omega)⟩, h5.keep fun j _ _ => hf j (by omega) (by omega)⟩
theorem Tr.wide {S : St} : ∀ {lo hi lo' hi' : Nat} {l : Stps} {rows : List (List HV)}, Tr S lo hi l rows → lo' ≤ lo → hi ≤ hi' → Tr S lo' hi' l rows
  | _, _, _, _, .nil, _, h, h1, h2 => ⟨h.1, by have := h.2; omega⟩
  | lo, hi, _, _, .cons k v x hh t e r, _, h, w1, w2 => by
    obtain ⟨qt, qe, m1, m2, rt, re, rs, h0, ⟨h1, g1, h2⟩, ⟨h3, g2, h4⟩, h5⟩ := h
    exact ⟨qt, qe, m1, m2, rt, re, rs, h0, ⟨by omega, g1, h2⟩, ⟨h3, g2, h4⟩, h5.wide (Nat.le_refl _) w2⟩
theorem Tr.len {S : St} : ∀ {lo hi : Nat} {l : Stps} {rows : List (List HV)}, Tr S lo hi l rows → rows.length = l.len
  | _, _, .nil, _, h => by rw [h.1]; rfl
  | lo, hi, .cons k v x hh t e r, _, h => by
    obtain ⟨qt, qe, m1, m2, rt, re, rs, rfl, _, _, h5⟩ := h
    simp [Stps.len, h5.len]
theorem Tr.eight {S : St} : ∀ {lo hi : Nat} {l : Stps} {rows : List (List HV)}, Tr S lo hi l rows → rows.all (fun r => r.length == 8) = true
  | _, _, .nil, _, h => by rw [h.1]; rfl
  | lo, hi, .cons k v x hh t e r, _, h => by
    obtain ⟨qt, qe, m1, m2, rt, re, rs, rfl, _, _, h5⟩ := h
    simp [h5.eight]
theorem Tr.app {S : St} : ∀ {lo m hi : Nat} {a b : Stps} {ra rb : List (List HV)}, Tr S lo m a ra → Tr S m hi b rb → Tr S lo hi (a.app b) (ra ++ rb)
  | lo, m, hi, .nil, b, _, _, ha, hb => by
    rw [ha.1]
    exact hb.wide ha.2 (Nat.le_refl _)
  | lo, m, hi, .cons k v x hh t e r, b, _, _, ha, hb => by
    obtain ⟨qt, qe, m1, m2, rt, re, rs, rfl, h1, h2, h5⟩ := ha
    exact ⟨qt, qe, m1, m2, rt, re, rs ++ _, rfl, h1, h2, h5.app hb⟩
section
variable {fid : Nat} {T : Tm} {S : St} {K : Tm → St → Prop} {ops : Array Oper} {l : List Oper} {dst : Option Tmp} {ty : TypeId} {pos : String} {after : Array Edge} {g0 : Option (Nat × Bool)}
/-- A slice of one value becomes a row of one's own. -/
theorem bs2 {t el : Nat} {x : Operand} {ti te : TI} {cs : List HV} (hg : wantG ops g0 T = true := by rfl) (h1 : Y.tab t = some ti := by rfl) (h2 : ti.sh = .slice el := by rfl) (h3 : Y.tab el = some te := by rfl) (hm : Y.muta fid 1002 = true := by rfl) (hx : ev T x = .agg cs := by rfl) (hl : cs.length = te.size := by rfl) (hz : 1 * te.size ≤ 16777216 := by decide)
    (hc : cs.all isCell = true := by rfl) (hk : OW Y fid ops none l (put T dst (.sl S.length 1)) (S ++ [.cells (!Y.muta fid 1000) [cs]]) K) : OW Y fid ops none (⟨dst, .buildSlice t 1 #[(0, x)], ty, pos, after, g0⟩ :: l) T S K := by
  refine ⟨A_op hg (v := .sl S.length 1) ?_ hk.of⟩
  have hz' : te.size ≤ 16777216 := by omega
  simp [cop, h1, h2, h3, fillS, hx, HV.cells, hl, hz', hm, hc]
end
theorem rowsOf_sl {S : St} {k n : Nat} {fr : Bool} {rows : List (List HV)} {x : HV} (hx : x = .sl k n) (h : S[k]? = some (.cells fr rows)) (hn : rows.length = n) : rowsOf S x = some rows := by
  subst hx
  simp [rowsOf, h, hn]
/-- A copy of steps in rows of one's own. -/
def Cloned (l : Stps) (S : St) (v : HV) (S' : St) : Prop := ∃ J, S' = S ++ J ∧ Node S' S.length S'.length v l
end Go.Proofs.X
end
section
namespace Go.Proofs.X
open Go Go.Proofs.XVai Go.Proofs Go.Proofs.XN
set_option linter.unusedVariables false
set_option linter.unusedSimpArgs false
set_option maxHeartbeats 40000000
set_option maxRecDepth 100000

theorem get_last {S : St} {o : Ob} : (S ++ [o])[S.length]? = some o := by simp
theorem keepA {S1 X B Z : St} {q : Nat} {o : Ob} (h : ∀ i, X.length ≤ i → i < B.length → Z[i]? = B[i]?) : ∀ j, (S1 ++ X).length ≤ j → j < (S1 ++ B).length → (S1.set q o ++ Z)[j]? = (S1 ++ B)[j]? := by
  intro j h1 h2
  rw [List.length_append] at h1 h2
  rw [List.getElem?_append_right (by simp; omega), List.getElem?_append_right (by omega), List.length_set]
  exact h _ (by omega) (by omega)
theorem k_impl_cloneSteps (n : Nat) : ∀ (l : Stps) (S : St), l.sz ≤ n → l.sz ≤ 100000 → EvR Y impl_cloneSteps [.lst l.rows] S (Cloned l S) := by
  induction n using Nat.strongRecOn with
  | _ n ih =>
    intro l S h hb
    refine E_startR (h := ?_)
    repeat' (first | refine c0 ?_ | refine c7 ?_ | refine d2 ?_ | refine c8 ?_ | refine d4 ?_ | refine b3 (hk := ?_) | refine a5 (hk := ?_))
    refine C_stps l (fun pre r T' S' => ∃ (T0 : Tm) (S1 : St) (d : Stps) (rows : List (List HV)), l = d.app r ∧ Ext S S1 ∧ S.length + 2 ≤ S1.length ∧ S1[S.length + 1]? = some (.cells false rows) ∧ Tr S1 (S.length + 2) S1.length d rows ∧ d.len = pre.length ∧
        T' = putL T0 [(3, .sl (S.length + 1) pre.length), (6, .lst l.rows), (7, I l.rows.length), (8, I pre.length)] ∧ S' = S1 ++ [])
      ⟨_, _, .nil, [], rfl, ex0, by simp, get_own rfl, ⟨rfl, by simp⟩, rfl, at_mk ⟨rfl, rfl, rfl, rfl, trivial⟩, (List.append_nil _).symm⟩ ?_ ?_
    · rintro pre k v x hh t e r T' S' hl hz ⟨T0, S1, d, rows, hq, hE, hl2, fO, hT, hd, rfl, rfl⟩
      have hg := mid hl
      have hp := mid_lt hl
      have := l.rows_len
      have := l.len_sz
      have hlt : (pre.length : Int) < (l.rows.length : Int) := by omega
      repeat' (first | refine c0 ?_ | refine c7 ?_ | refine d2 ?_ | refine c8 ?_ | refine d0 ?_ | refine d4 ?_ | refine d3' (h := ?_) | refine b0 (hk := ?_) | refine a5 (hk := ?_) | refine b6 (hk := ?_) | refine b8 (hk := ?_) | refine b7 (hk := ?_) | refine e5' (hk := ?_) | refine f5' (hk := ?_) | refine u7 (hk := ?_))
      refine kX' (he := ih t.sz (by omega) t _ (Nat.le_refl _) (by omega)) (hx := fun v S' ⟨J, h, _⟩ => ⟨J, h⟩) (hk := ?_)
      rintro v1 J1 ⟨J1', hJ1, qt, rt, rfl, ht1, ht2, ht3⟩
      rw [List.append_assoc S1] at ht2 ht3 ⊢
      repeat' (first | refine e5' (hk := ?_) | refine f5' (hk := ?_))
      refine kX' (he := ih e.sz (by omega) e _ (Nat.le_refl _) (by omega)) (hx := fun v S' ⟨J, h, _⟩ => ⟨J, h⟩) (hk := ?_)
      rintro v2 J2 ⟨J2', hJ2, qe, re, rfl, he1, he2, he3⟩
      rw [List.append_assoc S1] at he2 he3 ⊢
      repeat' (first | refine c0 ?_ | refine d2 ?_ | refine d4' ?_ | refine a5 (hk := ?_) | refine b5 (hk := ?_) | refine e5' (hk := ?_) | refine b7' (hk := ?_))
      refine p0 (rows := rows) (rs := [[I k, I v, I x.kind, I x.a, I x.b, I hh, .sl qt t.len, .sl qe e.len]]) (hr := rowsOf_sl rfl get_last rfl) (hS := get_old (get_old fO)) (hn := by rw [hT.len, hd]) (hz' := hT.eight) (h10 := (congrArg (fun s => List.set s _ _) (List.append_assoc S1 _ _)).trans (set_old fO)) (hk := ?_)
      repeat' (first | refine c0 ?_ | refine c3 ?_ | refine d2 ?_ | refine d4 ?_ | refine a5 (hk := ?_))
      refine ⟨_, _, d.app (.cons k v x hh t e .nil), rows ++ [[I k, I v, I x.kind, I x.a, I x.b, I hh, .sl qt t.len, .sl qe e.len]], by rw [hq, Stps.app_assoc]; rfl, ex1 (ex2 hE (by omega)), by simp; omega, get_old (setE fO), ?_, by simp [Stps.app_len, Stps.len, hd], at_mk ⟨by show HV.sl _ _ = _; simp, rfl, rfl, inc (by omega), trivial⟩, (List.append_nil _).symm⟩
      refine Tr.app (m := S1.length) (hT.keep fun j j1 j2 => by rw [List.getElem?_append_left (by simpa using j2), List.getElem?_set_ne (by omega)]) ?_
      have l3 := ht3.le
      have l4 := he3.le
      refine ⟨qt, qe, _, _, rt, re, [], rfl, ⟨by simp at ht1; omega, ?_, ht3.keep ?_⟩, ⟨he1, ?_, he3.keep ?_⟩, ⟨rfl, by simp <;> omega⟩⟩
      · refine (keepA (fun i i1 i2 => ?_) _ ht1 (List.getElem?_eq_some_iff.1 ht2).1).trans ht2
        simp at i1
        rw [List.getElem?_append_left (by simp; simp at i2; omega), List.getElem?_set_ne (by omega), List.getElem?_set_ne (by omega), List.getElem?_append_left i2]
      · refine fun j j1 j2 => keepA (fun i i1 i2 => ?_) j (Nat.le_trans ht1 (by omega)) j2
        simp at i1
        rw [List.getElem?_append_left (by simp; simp at i2; omega), List.getElem?_set_ne (by omega), List.getElem?_set_ne (by omega), List.getElem?_append_left i2]
      · refine (keepA (fun i i1 i2 => ?_) _ he1 (List.getElem?_eq_some_iff.1 he2).1).trans he2
        simp at i1
        rw [List.getElem?_append_left (by simpa using i2), List.getElem?_set_ne (by omega), List.getElem?_set_ne (by omega)]
      · refine fun j j1 j2 => keepA (fun i i1 i2 => ?_) j (Nat.le_trans he1 (by omega)) j2
        simp at i1
        rw [List.getElem?_append_left (by simpa using i2), List.getElem?_set_ne (by omega), List.getElem?_set_ne (by omega)]
    · rintro pre T' S' hl ⟨T0, S1, d, rows, hq, hE, hl2, fO, hT, hd, rfl, rfl⟩
      have hlt : ¬ ((pre.length : Int) < (l.rows.length : Int)) := by rw [hl]; omega
      repeat' (first | refine c0 ?_ | refine c2 ?_ | refine c5 ?_ | refine c7 ?_ | refine d2 ?_ | refine c9 ?_ | refine d1 ?_ | refine d4 ?_ | refine a5 (hk := ?_) | refine u8 (hk := ?_))
      obtain ⟨J, rfl⟩ := hE
      rw [Stps.app_nil] at hq
      subst hq
      refine ⟨.sl (S.length + 1) pre.length, _, rKeep, J ++ [], by rw [List.append_assoc], S.length + 1, rows, by rw [hd], by omega, get_old fO, ?_⟩
      rw [List.append_nil]
      exact hT
end Go.Proofs.X
end
section
namespace Go.Proofs.X
open Go Go.Proofs.XVai Go.Proofs Go.Proofs.XN
set_option linter.unusedVariables false
set_option linter.unusedSimpArgs false
set_option maxHeartbeats 40000000
set_option maxRecDepth 100000

section
variable {fid : Nat} {T : Tm} {S : St} {K : Tm → St → Prop} {ops : Array Oper} {l : List Oper} {dst : Option Tmp} {ty : TypeId} {pos : String} {after : Array Edge} {g0 : Option (Nat × Bool)}
/-- A call of a value, that gets its rows as they are, and keeps what it made. -/
theorem kC {f : Operand} {args : Array Operand} {ats : Array TypeId} {g : Nat} {caps args' : List HV} {R : HV → St → Prop} (hg : wantG ops g0 T = true := by rfl) (hf : ev T f = .fn g caps := by rfl) (hb : Y.byref g = true := by rfl)
    (ha : args.toList.map (ev T) ++ caps = args' := by rfl) (he : EvR Y g args' S R) (hk : ∀ v S', R v S' → OW Y fid ops none l (put T dst v) S' K) : OW Y fid ops none (⟨dst, .call ⟨.value f, args, ats⟩, ty, pos, after, g0⟩ :: l) T S K := by
  obtain ⟨v, S', h1, h2⟩ := he
  exact k1 hg hf hb ha h1 rfl (by rw [fv_eq]; exact hk v S' h2)
end
abbrev RW : Ob := .cells false [[L [1, 2, 0]]]
theorem k_TurnProg_1 (k n i q : Nat) (kk v a b c h : Int) (ct ce : HV) (rows : List (List HV)) (S : St) (hS : S[k]? = some (.cells false rows)) (hn : rows.length = n) (hr : rows[i]? = some [I kk, I v, I a, I b, I c, I h, ct, ce]) (hq : S[q]? = some RW) (hkq : k ≠ q) (hh : kk = 3 → inB h 0 2 = true) :
    EvR Y impl_TurnProg_1 [.ptr k n i 0, .ptr q 1 0 0] S (fun w S' => w = .tup [] ∧ ∃ J, S' = S.set k (.cells false (rows.set i [I kk, I v, I a, I b, I c, I (if kk = 3 then sig h else h), ct, ce])) ++ J) := by
  by_cases k3 : kk = 3
  · subst k3
    obtain ⟨j, hj, hj3⟩ : ∃ j : Nat, h = j ∧ j < 3 := by
      have := hh rfl
      simp only [inB, decide_eq_true_eq] at this
      exact ⟨h.toNat, by omega, by omega⟩
    subst hj
    have hg : ([1, 2, 0].map irow)[j]? = some (irow (sig j)) := by
      have : j = 0 ∨ j = 1 ∨ j = 2 := by omega
      rcases this with rfl | rfl | rfl <;> rfl
    refine E_startR (h := ?_)
    repeat' (first | refine c0 ?_ | refine c7 ?_ | refine d2 ?_ | refine d4 ?_ | refine d3' (h := ?_) | refine d4' ?_ | refine a5 (hk := ?_) | refine b5 (hk := ?_) | refine e5' (hk := ?_) | refine f5' (hk := ?_) | refine f6' (hk := ?_) | refine f8' (hk := ?_) | refine b7' (hk := ?_) | refine d6 (ht := ?_))
    refine ⟨_, _, rKeepN, rfl, _, rfl⟩
  · have kb : (kk == 3) = false := by simpa using k3
    refine E_startR (h := ?_)
    repeat' (first | refine c0 ?_ | refine c7 ?_ | refine d2 ?_ | refine d0 ?_ | refine d4 ?_ | refine a5 (hk := ?_) | refine b5 (hk := ?_) | refine u6 (hk := ?_))
    refine ⟨_, _, rKeepN, rfl, [], ?_⟩
    have hi : i < rows.length := (List.getElem?_eq_some_iff.1 hr).1
    rw [if_neg k3]
    have e : rows.set i [I kk, I v, I a, I b, I c, I h, ct, ce] = rows := by
      refine List.ext_getElem? fun j => ?_
      rw [List.getElem?_set]
      split
      · rename_i hji; subst hji; simp [hi, hr]
        rw [List.getElem?_eq_getElem hi] at hr
        exact (Option.some.inj hr).symm
      · rfl
    rw [e, set_self hS]
def hOk : Stps → Bool
  | .nil => true
  | .cons k _ _ h t e r => (k != 3 || inB h 0 2) && (hOk t && (hOk e && hOk r))
theorem hOk_of {n : Nat} : ∀ (l : Stps) (d : Int), stepsOk n l d = true → hOk l = true
  | .nil, _, _ => rfl
  | .cons k v x h t e r, d, hs => by
    rw [stepsOk_cons, Bool.and_eq_true] at hs
    obtain ⟨_, _, h3, ⟨ht, he⟩, _⟩ := stepOk_in hs.1
    simp only [hOk, hOk_of t _ ht, hOk_of e _ he, hOk_of r _ hs.2, Bool.and_true]
    by_cases k3 : k = 3
    · simp [h3 k3]
    · simp [k3]
theorem turnS_app : ∀ a b : Stps, turnS (a.app b) = (turnS a).app (turnS b)
  | .nil, _ => rfl
  | .cons _ _ _ _ _ _ r, b => by simp [turnS, Stps.app, turnS_app r b]
/-- All that was there is as it was, but for what lies between two places. -/
def Fr (S S' : St) (a b : Nat) : Prop := S.length ≤ S'.length ∧ ∀ j, j < S.length → (j < a ∨ b ≤ j) → S'[j]? = S[j]?
theorem Fr.refl {S : St} {a b : Nat} : Fr S S a b := ⟨Nat.le_refl _, fun _ _ _ => rfl⟩
theorem Fr.trans {S S1 S2 : St} {a b a' b' : Nat} (h : Fr S S1 a b) (h' : Fr S1 S2 a' b') (ha : a ≤ a') (hb : b' ≤ b) : Fr S S2 a b :=
  ⟨Nat.le_trans h.1 h'.1, fun j hj hc => by rw [h'.2 j (by have := h.1; omega) (by omega), h.2 j hj hc]⟩
theorem Fr.app {S S1 L : St} {a b : Nat} (h : Fr S S1 a b) : Fr S (S1 ++ L) a b :=
  ⟨by have := h.1; simp; omega, fun j hj hc => by rw [List.getElem?_append_left (by have := h.1; omega), h.2 j hj hc]⟩
theorem mid3 {a b : List (List HV)} {x : List HV} {n : Nat} (h : a.length = n) : (a ++ x :: b)[n]? = some x := by
  subst h; simp
theorem set3 {a b : List (List HV)} {x y : List HV} {n : Nat} (h : a.length = n) : (a ++ x :: b).set n y = a ++ y :: b := by
  subst h; simp
theorem k_impl_change (N : Nat) (q : Nat) : ∀ (l : Stps) (S : St) (hi qr : Nat) (rows : List (List HV)), l.sz ≤ N → l.sz ≤ 100000 → hOk l = true → S[qr]? = some (.cells false rows) → Tr S (qr + 1) hi l rows → hi ≤ S.length → S[q]? = some RW → (q < qr ∨ hi ≤ q) →
    EvR Y impl_change [.sl qr l.len, .fn impl_TurnProg_1 [.ptr q 1 0 0]] S (fun v S' => v = .tup [] ∧ Fr S S' qr hi ∧ ∃ rows', S'[qr]? = some (.cells false rows') ∧ Tr S' (qr + 1) hi (turnS l) rows') := by
  induction N using Nat.strongRecOn with
  | _ N ih =>
    intro l S hi qr rows hN hb hh fR hT hhi fQ hq
    have hlz := l.len_sz
    have hqr := (List.getElem?_eq_some_iff.1 fR).1
    have hTl := hT.le
    refine E_startR (h := ?_)
    repeat' (first | refine c0 ?_ | refine c7 ?_ | refine d2 ?_ | refine c8 ?_ | refine d4 ?_ | refine a5 (hk := ?_))
    refine C_loop (fun n T' S' => ∃ (T0 : Tm) (S1 : St) (d r : Stps) (r1 r2 : List (List HV)) (m : Nat), n = r.len ∧ l = d.app r ∧ r.sz ≤ l.sz ∧ hOk r = true ∧ S1[qr]? = some (.cells false (r1 ++ r2)) ∧ Tr S1 (qr + 1) m (turnS d) r1 ∧ Tr S1 m hi r r2 ∧ Fr S S1 qr hi ∧
        T' = putL T0 [(0, .sl qr l.len), (1, .fn impl_TurnProg_1 [.ptr q 1 0 0]), (6, I l.len), (7, I d.len)] ∧ S' = S1 ++ []) l.len
      ⟨_, _, .nil, l, [], rows, qr + 1, rfl, rfl, Nat.le_refl _, hh, fR, ⟨rfl, Nat.le_refl _⟩, hT, Fr.refl, at_mk ⟨rfl, rfl, rfl, rfl, trivial⟩, rfl⟩ ?_
    rintro n T' S' ⟨T0, S1, d, r, r1, r2, m, rfl, hl, hrz, hh, fR, hT1, hT2, hF, rfl, rfl⟩
    have ldl : d.len + r.len = l.len := by rw [hl, Stps.app_len]
    have hT1l := hT1.le
    have hle1 := hF.1
    cases r with
    | nil =>
      have hc0 : ¬ ((d.len : Int) < (l.len : Int)) := by simp [Stps.len] at ldl; omega
      repeat' (first | refine c0 ?_ | refine c2 ?_ | refine c5 ?_ | refine c7 ?_ | refine d2 ?_ | refine d1 ?_ | refine d4 ?_ | refine a5 (hk := ?_) | refine u8 (hk := ?_))
      refine ⟨_, _, rKeepN, rfl, hF.app, r1 ++ r2, get_old fR, ?_⟩
      rw [hl, turnS_app]
      exact (hT1.app (b := turnS .nil) ⟨hT2.1, hT2.2⟩).keep fun j _ j2 => List.getElem?_append_left (by omega)
    | cons k v x h t e r =>
      obtain ⟨qt, qe, m1, m2, rt, re, rs, rfl, ⟨t1, t2, t3⟩, ⟨s1, s2, s3⟩, hT5⟩ := hT2
      simp only [Stps.len] at ldl
      have l3 := t3.le
      have l4 := s3.le
      have l5 := hT5.le
      simp only [hOk, Bool.and_eq_true] at hh
      obtain ⟨x1, x2, x3, x4⟩ := hh
      simp only [Stps.sz] at hrz
      have hc0 : (d.len : Int) < (l.len : Int) := by omega
      have el1 : r1.length = d.len := by rw [hT1.len, turnS_len]
      have elr := hT5.len
      have hrow : (r1 ++ [I k, I v, I x.kind, I x.a, I x.b, I h, .sl qt t.len, .sl qe e.len] :: rs)[d.len]? = some [I k, I v, I x.kind, I x.a, I x.b, I h, .sl qt t.len, .sl qe e.len] := mid3 el1
      have hrl : (r1 ++ [I k, I v, I x.kind, I x.a, I x.b, I h, .sl qt t.len, .sl qe e.len] :: rs).length = l.len := by simp; omega
      have fQ1 : S1[q]? = some RW := by rw [hF.2 q (List.getElem?_eq_some_iff.1 fQ).1 hq, fQ]
      repeat' (first | refine c0 ?_ | refine c7 ?_ | refine d2 ?_ | refine c8 ?_ | refine d0 ?_ | refine d4 ?_ | refine a5 (hk := ?_) | refine b9 (hk := ?_) | refine u7 (hk := ?_))
      refine kC (he := k_TurnProg_1 qr l.len d.len q k v x.kind x.a x.b h (.sl qt t.len) (.sl qe e.len) _ _ (get_old fR) hrl hrow (get_old fQ1) (by omega) (fun e => by subst e; simpa using x1)) (hk := ?_)
      rintro w S2 ⟨rfl, J, hS2⟩
      rw [List.append_nil, set3 el1] at hS2
      have ql1 := (List.getElem?_eq_some_iff.1 fR).1
      have f2 : Fr S1 S2 qr (qr + 1) := ⟨by rw [hS2]; simp, fun j hj hc => by rw [hS2, List.getElem?_append_left (by simpa using hj), List.getElem?_set_ne (by omega)]⟩
      have fR2 : S2[qr]? = some (.cells false (r1 ++ [I k, I v, I x.kind, I x.a, I x.b, I (if k = 3 then sig h else h), .sl qt t.len, .sl qe e.len] :: rs)) := by rw [hS2]; exact get_set fR
      have hrow2 : (r1 ++ [I k, I v, I x.kind, I x.a, I x.b, I (if k = 3 then sig h else h), .sl qt t.len, .sl qe e.len] :: rs)[d.len]? = some [I k, I v, I x.kind, I x.a, I x.b, I (if k = 3 then sig h else h), .sl qt t.len, .sl qe e.len] := mid3 el1
      have hrl2 : (r1 ++ [I k, I v, I x.kind, I x.a, I x.b, I (if k = 3 then sig h else h), .sl qt t.len, .sl qe e.len] :: rs).length = l.len := by simp; omega
      clear hS2
      have le2 := f2.1
      have fQ2 : S2[q]? = some RW := by rw [f2.2 q (List.getElem?_eq_some_iff.1 fQ1).1 (by omega), fQ1]
      have fT2 : S2[qt]? = some (.cells false rt) := by rw [f2.2 qt (List.getElem?_eq_some_iff.1 t2).1 (by omega), t2]
      rw [← List.append_nil S2]
      repeat' (first | refine c0 ?_ | refine c7 ?_ | refine d2 ?_ | refine d4 ?_ | refine a5 (hk := ?_) | refine b5 (hk := ?_) | refine b9 (hk := ?_))
      refine kC (he := ih t.sz (by omega) t (S2 ++ []) m1 qt rt (Nat.le_refl _) (by omega) x2 (get_old fT2) ((t3.keep fun j j1 j2 => f2.2 j (by omega) (by omega)).keep fun j j1 j2 => List.getElem?_append_left (by omega)) (by simp; omega) (get_old fQ2) (by omega)) (hk := ?_)
      rintro w S3 ⟨rfl, f3, rt', gt, ht'⟩
      rw [List.append_nil] at f3
      have le3 := f3.1
      have fR3 : S3[qr]? = some (.cells false (r1 ++ [I k, I v, I x.kind, I x.a, I x.b, I (if k = 3 then sig h else h), .sl qt t.len, .sl qe e.len] :: rs)) := by rw [f3.2 qr (by omega) (by omega), fR2]
      have fQ3 : S3[q]? = some RW := by rw [f3.2 q (List.getElem?_eq_some_iff.1 fQ2).1 (by omega), fQ2]
      have fE3 : S3[qe]? = some (.cells false re) := by rw [f3.2 qe (by have := (List.getElem?_eq_some_iff.1 s2).1; omega) (by omega), f2.2 qe (List.getElem?_eq_some_iff.1 s2).1 (by omega), s2]
      rw [← List.append_nil S3]
      repeat' (first | refine c0 ?_ | refine d2 ?_ | refine d4 ?_ | refine a5 (hk := ?_) | refine b5 (hk := ?_) | refine b9 (hk := ?_))
      refine kC (he := ih e.sz (by omega) e (S3 ++ []) m2 qe re (Nat.le_refl _) (by omega) x3 (get_old fE3) ((s3.keep fun j j1 j2 => by rw [f3.2 j (by omega) (by omega), f2.2 j (by omega) (by omega)]).keep fun j j1 j2 => List.getElem?_append_left (by omega)) (by simp; omega) (get_old fQ3) (by omega)) (hk := ?_)
      rintro w S4 ⟨rfl, f4, re', ge, he'⟩
      rw [List.append_nil] at f4
      have le4 := f4.1
      have f14 : ∀ j, j < S1.length → j ≠ qr → (j < qt ∨ m1 ≤ j) → (j < qe ∨ m2 ≤ j) → S4[j]? = S1[j]? := fun j j0 j1 j2 j3 => by rw [f4.2 j (by omega) j3, f3.2 j (by omega) j2, f2.2 j j0 (by omega)]
      rw [← List.append_nil S4]
      repeat' (first | refine c0 ?_ | refine c3 ?_ | refine d2 ?_ | refine d4 ?_ | refine a5 (hk := ?_))
      refine ⟨r.len, by simp [Stps.len], _, _, d.app (.cons k v x h t e .nil), r, r1 ++ [[I k, I v, I x.kind, I x.a, I x.b, I (if k = 3 then sig h else h), .sl qt t.len, .sl qe e.len]], rs, m2, rfl, by rw [hl, Stps.app_assoc]; rfl, by omega, x4, ?_, ?_, ?_, ?_, at_mk ⟨rfl, rfl, rfl, ?_, trivial⟩, rfl⟩
      · rw [f4.2 qr (by omega) (by omega), fR3]; simp
      · rw [turnS_app]
        refine (hT1.keep fun j j1 j2 => f14 j (by omega) (by omega) (by omega) (by omega)).app ⟨qt, qe, m1, m2, rt', re', [], by rw [turnS_len, turnS_len], ⟨t1, ?_, ?_⟩, ⟨s1, ge, he'⟩, ⟨rfl, Nat.le_refl _⟩⟩
        · rw [f4.2 qt (by have := (List.getElem?_eq_some_iff.1 t2).1; omega) (by omega), gt]
        · exact ht'.keep fun j j1 j2 => f4.2 j (by omega) (by omega)
      · exact hT5.keep fun j j1 j2 => f14 j (by omega) (by omega) (by omega) (by omega)
      · exact ((hF.trans f2 (Nat.le_refl _) (by omega)).trans f3 (by omega) (by omega)).trans f4 (by omega) (by omega)
      · show HV.int _ _ = _
        rw [i64_id (by omega) (by omega), Stps.app_len]; simp [Stps.len]
end Go.Proofs.X
end
section
namespace Go.Proofs.X
open Go Go.Proofs.XVai Go.Proofs Go.Proofs.XN
set_option linter.unusedVariables false
set_option linter.unusedSimpArgs false
set_option maxHeartbeats 40000000
set_option maxRecDepth 100000

abbrev andI (a b : Int) : Int := IntKind.i64.wrap (BitVec.ofInt IntKind.i64.bits a &&& BitVec.ofInt IntKind.i64.bits b).toNat
abbrev andNotI (a b : Int) : Int := IntKind.i64.wrap (BitVec.ofInt IntKind.i64.bits a &&& ~~~BitVec.ofInt IntKind.i64.bits b).toNat
theorem set8 {a : Int} (h : setB a = true) : ∃ n : Nat, n < 8 ∧ a = n := by
  simp only [setB, inB, decide_eq_true_eq] at h
  exact ⟨a.toNat, by omega, by omega⟩
theorem and8 : ∀ a : Nat, a < 8 → ∀ b : Nat, b < 8 → andI a b = bothG a b := by decide +kernel
theorem andNot8 : ∀ a : Nat, a < 8 → ∀ b : Nat, b < 8 → (andNotI a b == 0) = withinG a b := by decide +kernel
theorem both_any8 : ∀ a : Nat, a < 8 → bothG 7 a = a ∧ bothG a 7 = a := by decide +kernel
theorem both_assoc8 : ∀ a : Nat, a < 8 → ∀ b : Nat, b < 8 → ∀ c : Nat, c < 8 → bothG (bothG a b) c = bothG a (bothG b c) := by decide +kernel
theorem labOk_in {a : Lab} (h : labOk a = true) : setB a.k = true ∧ setB a.t = true := by simpa [labOk] using h
theorem lboth_ok {a b : Lab} (ha : labOk a = true) (hb : labOk b = true) : lboth a b = ⟨bothG a.k b.k, bothG a.t b.t⟩ := by simp [lboth, ha, hb]
theorem lboth_any {a : Lab} (ha : labOk a = true) : lboth lany a = a ∧ lboth a lany = a := by
  obtain ⟨h1, h2⟩ := labOk_in ha
  obtain ⟨k, t⟩ := a
  obtain ⟨n, hn, rfl⟩ := set8 h1
  obtain ⟨m, hm, rfl⟩ := set8 h2
  rw [lboth_ok labOk_any ha, lboth_ok ha labOk_any]
  have e1 := both_any8 n hn
  have e2 := both_any8 m hm
  exact ⟨by rw [Lab.mk.injEq]; exact ⟨e1.1, e2.1⟩, by rw [Lab.mk.injEq]; exact ⟨e1.2, e2.2⟩⟩
theorem lboth_assoc {a b c : Lab} (ha : labOk a = true) (hb : labOk b = true) (hc : labOk c = true) : lboth (lboth a b) c = lboth a (lboth b c) := by
  rw [lboth_ok (labOk_both a b) hc, lboth_ok ha (labOk_both b c), lboth_ok ha hb, lboth_ok hb hc]
  obtain ⟨la1, la2⟩ := labOk_in ha
  obtain ⟨lb1, lb2⟩ := labOk_in hb
  obtain ⟨lc1, lc2⟩ := labOk_in hc
  obtain ⟨ak, at'⟩ := a
  obtain ⟨bk, bt⟩ := b
  obtain ⟨ck, ct⟩ := c
  obtain ⟨n1, h1, rfl⟩ := set8 la1
  obtain ⟨n2, h2, rfl⟩ := set8 la2
  obtain ⟨m1, h3, rfl⟩ := set8 lb1
  obtain ⟨m2, h4, rfl⟩ := set8 lb2
  obtain ⟨o1, h5, rfl⟩ := set8 lc1
  obtain ⟨o2, h6, rfl⟩ := set8 lc2
  rw [Lab.mk.injEq]
  exact ⟨both_assoc8 n1 h1 m1 h3 o1 h5, both_assoc8 n2 h2 m2 h4 o2 h6⟩
theorem k_impl_everybody (S : St) : Ev Y impl_everybody [] S (.agg (lrow lany)) S := by
  refine E_start (h := ?_)
  repeat' (first | refine c0 ?_ | refine c7 ?_ | refine d2 ?_ | refine c9 ?_ | refine d4 ?_ | refine b0 (hk := ?_) | refine a5 (hk := ?_) | refine b7 (hk := ?_))
  exact rC
theorem k_impl_within (a b : Int) (S : St) (ha : setB a = true) (hb : setB b = true) : Ev Y impl_within [I a, I b] S (.bool (withinG a b)) S := by
  obtain ⟨n, hn, rfl⟩ := set8 ha
  obtain ⟨m, hm, rfl⟩ := set8 hb
  refine E_start (h := ?_)
  repeat' (first | refine c0 ?_ | refine c7 ?_ | refine d2 ?_ | refine c9 ?_ | refine d4 ?_ | refine a5 (hk := ?_))
  exact rB (hv := andNot8 n hn m hm)
theorem k_impl_Label_both (a b : Lab) (S : St) (ha : labOk a = true) (hb : labOk b = true) : Ev Y impl_Label_both [.agg (lrow a), .agg (lrow b)] S (.agg (lrow (lboth a b))) S := by
  rw [lboth_ok ha hb]
  obtain ⟨la1, la2⟩ := labOk_in ha
  obtain ⟨lb1, lb2⟩ := labOk_in hb
  obtain ⟨ak, at'⟩ := a
  obtain ⟨bk, bt⟩ := b
  obtain ⟨n1, h1, rfl⟩ := set8 la1
  obtain ⟨n2, h2, rfl⟩ := set8 la2
  obtain ⟨m1, h3, rfl⟩ := set8 lb1
  obtain ⟨m2, h4, rfl⟩ := set8 lb2
  rw [← and8 n1 h1 m1 h3, ← and8 n2 h2 m2 h4]
  refine E_start (h := ?_)
  repeat' (first | refine c0 ?_ | refine c7 ?_ | refine d2 ?_ | refine c9 ?_ | refine d4 ?_ | refine b0 (hk := ?_) | refine b1 (hk := ?_) | refine a5 (hk := ?_) | refine b5 (hk := ?_) | refine b7 (hk := ?_))
  exact rC
theorem k_impl_Label_flows (a b : Lab) (S : St) (ha : labOk a = true) (hb : labOk b = true) : Ev Y impl_Label_flows [.agg (lrow a), .agg (lrow b)] S (.bool (flowsG a b)) S := by
  obtain ⟨la1, la2⟩ := labOk_in ha
  obtain ⟨lb1, lb2⟩ := labOk_in hb
  refine E_start (h := ?_)
  repeat' (first | refine c0 ?_ | refine c7 ?_ | refine d2 ?_ | refine c9 ?_ | refine d4 ?_ | refine a0 (hk := ?_) | refine k0 (he := (by first | exact k_impl_within _ _ _ lb1 la1 | exact k_impl_within _ _ _ lb2 la2)) (hk := ?_) | refine b1 (hk := ?_) | refine a4 (ht := ?_) (hf := ?_) | refine a5 (hk := ?_) | refine b5 (hk := ?_) | (with_reducible intro hc))
  all_goals (refine rB (hv := ?_); simp_all [flowsG])
theorem k_impl_all (n : Nat) : ∀ (l : Stps) (S : St), l.sz ≤ n → l.sz ≤ 1048576 → Ev Y impl_all [.lst l.rows] S (.lst l.all.rows) S := by
  induction n with
  | zero =>
    intro l S h _
    cases l with
    | cons => simp [Stps.sz] at h
    | nil =>
      refine E_start (h := ?_)
      repeat' (first | refine c0 ?_ | refine c7 ?_ | refine d2 ?_ | refine c8 ?_ | refine d4 ?_ | refine b3 (hk := ?_) | refine a5 (hk := ?_))
      refine d5 ?_
      repeat' (first | refine c0 ?_ | refine c2 ?_ | refine c5 ?_ | refine c7 ?_ | refine d2 ?_ | refine c9 ?_ | refine d1 ?_ | refine d4 ?_ | refine a5 (hk := ?_) | refine d7 (hf := ?_))
      exact rL (hp := rfl) (hv := rfl)
  | succ n ih =>
    intro l S h hb
    refine E_start (h := ?_)
    repeat' (first | refine c0 ?_ | refine c7 ?_ | refine d2 ?_ | refine c8 ?_ | refine d4 ?_ | refine b3 (hk := ?_) | refine a5 (hk := ?_))
    refine C_stps l (fun pre r T' S' => ∃ (T0 : Tm) (S1 : St) (d : Stps), l.all = d.app r.all ∧ Ext S S1 ∧ S1[S.length + 1]? = some (.cells true d.rows) ∧ T' = putL T0 [(3, .sl (S.length + 1) d.rows.length), (6, .lst l.rows), (7, I l.rows.length), (8, I pre.length)] ∧ S' = S1 ++ [])
      ⟨_, _, .nil, rfl, ex0, get_own rfl, at_mk ⟨rfl, rfl, rfl, rfl, trivial⟩, (List.append_nil _).symm⟩ ?_ ?_
    · rintro pre k v x hh t e r T' S' hl hz ⟨T0, S1, d, hq, hE, h0, rfl, rfl⟩
      have hg := mid hl
      have hp := mid_lt hl
      have := l.rows_len
      have hlt' : (pre.length : Int) < (l.rows.length : Int) := by omega
      have := l.len_sz
      have q1 := t.all.rows_cells
      have q2 := e.all.rows_cells
      have q3 := d.rows_eight
      have q4 := t.all.rows_eight
      have q5 := all8 (all8 q3 (b := [srow k v x hh t e]) rfl) q4
      have q6 := all8 q3 (b := [srow k v x hh t e]) rfl
      have z0 := l.all_len
      have z1 := t.all_len
      have z2 := e.all_len
      have z3 := congrArg Stps.len hq
      rw [Stps.app_len] at z3
      have z4 := d.rows_len
      have z5 := t.all.rows_len
      have z6 := e.all.rows_len
      repeat' (first | refine c0 ?_ | refine c3 ?_ | refine c7 ?_ | refine d2 ?_ | refine c8 ?_ | refine d0 ?_ | refine d4 ?_ | refine k0 (he := (by first | exact ih t _ (by omega) (by omega) | exact ih e _ (by omega) (by omega))) (hk := ?_) | refine b0 (hk := ?_) | refine a5 (hk := ?_) | refine b5 (hk := ?_) | refine b6 (hk := ?_) | refine b8 (hk := ?_) | refine b7 (hk := ?_) | refine p0 (hk := ?_) | refine u7 (hk := ?_))
      · refine ⟨_, _, d.app (.cons k v x hh t e (t.all.app e.all)), ?_, ex1 (ex2 hE (Nat.le_add_right _ _)), ?_, at_mk ⟨?_, rfl, rfl, inc (by omega), trivial⟩, (List.append_nil _).symm⟩
        · rw [hq]; simp [Stps.all, Stps.app_assoc, Stps.app]
        · rw [get_set (h0)]; simp [Stps.app_rows, Stps.rows]
        · show HV.sl _ _ = _
          simp [Stps.app_rows, Stps.rows]; omega
    · rintro pre T' S' hl ⟨T0, S1, d, hq, hE, h0, rfl, rfl⟩
      repeat' (first | refine c0 ?_ | refine c2 ?_ | refine c5 ?_ | refine c7 ?_ | refine d2 ?_ | refine c8 ?_ | refine c9 ?_ | refine d0 ?_ | refine d1 ?_ | refine d4 ?_ | refine a5 (hk := ?_) | (with_reducible intro hc) | refine d8 (ht := ?_) (hf := ?_))
      · simp [hl] at hc
      · exact rLx hE (hp := d.rows_pure) (hv := by rw [hq]; simp [Stps.all, Stps.app_nil])
theorem k_impl_labels (n : Nat) (ls : List Lab) (ss : Stps) (hls : ls.all labOk = true) : ∀ (l : Stps) (here : Lab) (rows : List (List HV)) (m k : Nat) (S : St), l.sz ≤ n → l.sz ≤ 1048576 → varsOk ls.length l = true → S[k]? = some (.cells true rows) → rows.length = m → rows.all (fun r => r.length == 2) = true → rows.all (fun r => r.all pureC) = true → m + l.sz ≤ 2097152 → labOk here = true →
    Ev Y impl_Prog_labels [PR ls ss, .lst l.rows, .agg (lrow here), .sl k m] S (.sl k (m + l.sz)) (S.set k (.cells true (rows ++ (ats ls l here).map lrow))) := by
  induction n with
  | zero =>
    intro l here rows m k S h _ hv hS hm h2 hp hb hok
    cases l with
    | cons => simp [Stps.sz] at h
    | nil =>
      refine E_start (h := ?_)
      repeat' (first | refine c0 ?_ | refine c7 ?_ | refine d2 ?_ | refine c8 ?_ | refine d4 ?_ | refine b1 (hk := ?_) | refine b3 (hk := ?_) | refine a5 (hk := ?_))
      refine d5 ?_
      repeat' (first | refine c0 ?_ | refine c2 ?_ | refine c5 ?_ | refine c7 ?_ | refine d2 ?_ | refine c9 ?_ | refine d1 ?_ | refine d4 ?_ | refine a5 (hk := ?_) | refine d7 (hf := ?_))
      rw [show rows ++ (ats ls .nil here).map lrow = rows by simp [ats]]
      exact rK hS (S1 := S) ⟨[], by rw [set_self hS, List.append_nil]⟩ hp (hv := rfl)
  | succ n ih =>
    intro l here rows m k S h hsz hv hS hm h2 hp hb hok
    have hkl : k < S.length := (List.getElem?_eq_some_iff.1 hS).1
    refine E_start (h := ?_)
    repeat' (first | refine c0 ?_ | refine c7 ?_ | refine d2 ?_ | refine c8 ?_ | refine d4 ?_ | refine b1 (hk := ?_) | refine b3 (hk := ?_) | refine a5 (hk := ?_))
    refine C_stps l (fun pre r T' S' => ∃ (T0 : Tm) (S1 : St) (d : List Lab), varsOk ls.length r = true ∧ ats ls l here = d ++ ats ls r here ∧ ExtK S k (.cells true (rows ++ d.map lrow)) S1 ∧ S1[S.length + 0]? = some (.cells false [[LS ls, .lst ss.rows]]) ∧ S1[S.length + 1]? = some (.cells false [lrow here]) ∧
        T' = putL T0 [(3, .sl k (m + d.length)), (4, .ptr (S.length + 0) 1 0 0), (6, .ptr (S.length + 1) 1 0 0), (12, .lst l.rows), (13, I l.rows.length), (14, I pre.length)] ∧ S' = S1 ++ [])
      ⟨_, _, [], hv, rfl, (by simp only [List.map_nil, List.append_nil]; exact xk0 hS), get_own rfl, get_own rfl, at_mk ⟨rfl, rfl, rfl, rfl, rfl, rfl, trivial⟩, (List.append_nil _).symm⟩ ?_ ?_
    · rintro pre kk v x hh t e r T' S' hl hz ⟨T0, S1, d, hvr, hq, hE, h0, h1, rfl, rfl⟩
      have hg := mid hl
      have hlt := mid_lt hl
      have := l.rows_len
      have := l.len_sz
      have hlt' : (pre.length : Int) < (l.rows.length : Int) := by omega
      simp only [varsOk, Bool.and_eq_true] at hvr
      obtain ⟨hv0, hvt, hve, hvr⟩ := hvr
      obtain ⟨j, rfl, hj⟩ := vOk_at hv0
      have hcur := xk_get hS hE
      have n0 : S.length + 0 ≠ k := by omega
      have n1 : S.length + 1 ≠ k := by omega
      have z0 := ats_len ls l here
      have z1 := congrArg List.length hq
      simp only [ats, List.length_append, List.length_cons, ats_len] at z1
      have e0 : (rows ++ d.map lrow).length = m + d.length := by simp [hm]
      have e1 : (rows ++ d.map lrow).all (fun r => r.length == 2) = true := all2 h2 (lrow2 d)
      have p1 : (rows ++ d.map lrow).all (fun r => r.all pureC) = true := allP hp (lrow_pure d)
      repeat' (first | refine c0 ?_ | refine c3 ?_ | refine c7 ?_ | refine d2 ?_ | refine c8 ?_ | refine d0 ?_ | refine d4 ?_ | refine d3' (h := ?_) | refine d4' ?_ | refine k1 (he := (by first | exact k_impl_Label_both _ _ _ hok (labAt_ok hls _) | exact ih t _ _ _ _ _ (by omega) (by omega) hvt (get_set (by assumption)) (by first | omega | (simp only [List.length_append, List.length_cons, List.length_nil, List.length_map, ats_len]; omega)) (all2 e1 rfl) (allP p1 rfl) (by first | omega | (simp only [List.length_append, List.length_cons, List.length_nil, List.length_map, ats_len]; omega)) (labOk_both _ _) | exact ih e _ _ _ _ _ (by omega) (by omega) hve (get_set (by assumption)) (by first | omega | (simp only [List.length_append, List.length_cons, List.length_nil, List.length_map, ats_len]; omega)) (all2 (all2 e1 rfl) (lrow2 _)) (allP (allP p1 rfl) (lrow_pure _)) (by first | omega | (simp only [List.length_append, List.length_cons, List.length_nil, List.length_map, ats_len]; omega)) (labOk_both _ _))) (hk := ?_) | refine k0' (he := (by first | exact k_impl_Label_both _ _ _ hok (labAt_ok hls _) | exact ih t _ _ _ _ _ (by omega) (by omega) hvt (get_set (by assumption)) (by first | omega | (simp only [List.length_append, List.length_cons, List.length_nil, List.length_map, ats_len]; omega)) (all2 e1 rfl) (allP p1 rfl) (by first | omega | (simp only [List.length_append, List.length_cons, List.length_nil, List.length_map, ats_len]; omega)) (labOk_both _ _) | exact ih e _ _ _ _ _ (by omega) (by omega) hve (get_set (by assumption)) (by first | omega | (simp only [List.length_append, List.length_cons, List.length_nil, List.length_map, ats_len]; omega)) (all2 (all2 e1 rfl) (lrow2 _)) (allP (allP p1 rfl) (lrow_pure _)) (by first | omega | (simp only [List.length_append, List.length_cons, List.length_nil, List.length_map, ats_len]; omega)) (labOk_both _ _))) (hk := ?_) | refine b0 (hk := ?_) | refine a5 (hk := ?_) | refine b5 (hk := ?_) | refine b6 (hk := ?_) | refine b8 (hk := ?_) | refine b7 (hk := ?_) | refine p0 (hk := ?_) | refine b0' (hk := ?_) | refine e5' (hk := ?_) | refine f5' (hk := ?_) | refine f6' (hk := ?_) | refine f8' (hk := ?_) | refine b7' (hk := ?_) | refine u7 (hk := ?_))
      · refine ⟨_, _, d ++ here :: (ats ls t (lboth here (labAt ls j)) ++ ats ls e (lboth here (labAt ls j))), hvr, ?_, ?_, get_setN n0 h0, get_setN n1 h1, at_mk ⟨?_, rfl, rfl, rfl, rfl, inc (by omega), trivial⟩, (List.append_nil _).symm⟩
        · rw [hq]; simp [ats]
        · have := xk1 (o' := .cells true (rows ++ d.map lrow ++ [lrow here] ++ (ats ls t (lboth here (labAt ls j))).map lrow ++ (ats ls e (lboth here (labAt ls j))).map lrow)) (L := []) hS hE
          simp only [List.map_append, List.map_cons, List.append_assoc, List.cons_append, List.nil_append] at this ⊢
          exact xk2 (by simpa using this)
        · show HV.sl _ _ = _
          simp [ats_len]; omega
    · rintro pre T' S' hl ⟨T0, S1, d, hvr, hq, hE, h0, h1, rfl, rfl⟩
      repeat' (first | refine c0 ?_ | refine c2 ?_ | refine c5 ?_ | refine c7 ?_ | refine d2 ?_ | refine c8 ?_ | refine c9 ?_ | refine d0 ?_ | refine d1 ?_ | refine d4 ?_ | refine a5 (hk := ?_) | (with_reducible intro hc) | refine d8 (ht := ?_) (hf := ?_))
      · simp [hl] at hc
      · rw [hq, ats, List.append_nil]
        refine rK hS hE (allP hp (lrow_pure d)) (hv := ?_)
        have z0 := ats_len ls l here
        have z1 := congrArg List.length hq
        simp [ats] at z1
        omega
theorem k_impl_labels0 (ls : List Lab) (ss l : Stps) (here : Lab) (S : St) (hb : l.sz ≤ 1048576) (hv : varsOk ls.length l = true) (hls : ls.all labOk = true) (hok : labOk here = true) : Ev Y impl_Prog_labels [PR ls ss, .lst l.rows, .agg (lrow here), .nils] S (LS (ats ls l here)) S := by
  cases l with
  | nil =>
    refine E_start (h := ?_)
    repeat' (first | refine c0 ?_ | refine c7 ?_ | refine d2 ?_ | refine c8 ?_ | refine d4 ?_ | refine b1 (hk := ?_) | refine b3 (hk := ?_) | refine a5 (hk := ?_))
    refine d5 ?_
    repeat' (first | refine c0 ?_ | refine c2 ?_ | refine c5 ?_ | refine c7 ?_ | refine d2 ?_ | refine c9 ?_ | refine d1 ?_ | refine d4 ?_ | refine a5 (hk := ?_) | refine d7 (hf := ?_))
    exact rV
  | cons kk v x hh t e r =>
    have hl0 : (Stps.cons kk v x hh t e r).rows = [] ++ srow kk v x hh t e :: r.rows := rfl
    have hsz : (Stps.cons kk v x hh t e r).sz = 1 + t.sz + e.sz + r.sz := rfl
    simp only [varsOk, Bool.and_eq_true] at hv
    obtain ⟨hv0, hvt, hve, hvr⟩ := hv
    obtain ⟨j, rfl, hj⟩ := vOk_at hv0
    generalize hl : Stps.cons kk (j : Int) x hh t e r = l at *
    have hg := mid hl0
    have hlt := mid_lt hl0
    have hll := l.rows_len
    have hlz := l.len_sz
    have hlt' : ((([] : List (List HV)).length : Nat) : Int) < (l.rows.length : Int) := by omega
    have hlt' : (0 : Int) < (l.rows.length : Int) := hlt'
    have ha : ats ls l here = here :: (ats ls t (lboth here (labAt ls j)) ++ (ats ls e (lboth here (labAt ls j)) ++ ats ls r here)) := by rw [← hl]; rfl
    refine E_start (h := ?_)
    repeat' (first | refine c0 ?_ | refine c7 ?_ | refine d2 ?_ | refine c8 ?_ | refine d4 ?_ | refine b1 (hk := ?_) | refine b3 (hk := ?_) | refine a5 (hk := ?_))
    refine d5 ?_
    repeat' (first | refine c0 ?_ | refine c3 ?_ | refine c7 ?_ | refine d2 ?_ | refine c8 ?_ | refine d0 ?_ | refine d4 ?_ | refine d3' (h := ?_) | refine d4' ?_ | refine k1 (he := (by first | exact k_impl_Label_both _ _ _ hok (labAt_ok hls _) | exact k_impl_labels t.sz ls ss hls t _ _ _ _ _ (Nat.le_refl _) (by omega) hvt (by first | exact get_own rfl | exact get_set (by assumption)) (by first | omega | (simp only [List.length_append, List.length_cons, List.length_nil, List.length_map, ats_len]; try omega)) rfl rfl (by first | omega | (simp only [List.length_append, List.length_cons, List.length_nil, List.length_map, ats_len]; try omega)) (labOk_both _ _) | exact k_impl_labels e.sz ls ss hls e _ _ _ _ _ (Nat.le_refl _) (by omega) hve (by first | exact get_own rfl | exact get_set (by assumption)) (by first | omega | (simp only [List.length_append, List.length_cons, List.length_nil, List.length_map, ats_len]; try omega)) (all2 rfl (lrow2 _)) (allP rfl (lrow_pure _)) (by first | omega | (simp only [List.length_append, List.length_cons, List.length_nil, List.length_map, ats_len]; try omega)) (labOk_both _ _))) (hk := ?_) | refine k0' (he := (by first | exact k_impl_Label_both _ _ _ hok (labAt_ok hls _) | exact k_impl_labels t.sz ls ss hls t _ _ _ _ _ (Nat.le_refl _) (by omega) hvt (by first | exact get_own rfl | exact get_set (by assumption)) (by first | omega | (simp only [List.length_append, List.length_cons, List.length_nil, List.length_map, ats_len]; try omega)) rfl rfl (by first | omega | (simp only [List.length_append, List.length_cons, List.length_nil, List.length_map, ats_len]; try omega)) (labOk_both _ _) | exact k_impl_labels e.sz ls ss hls e _ _ _ _ _ (Nat.le_refl _) (by omega) hve (by first | exact get_own rfl | exact get_set (by assumption)) (by first | omega | (simp only [List.length_append, List.length_cons, List.length_nil, List.length_map, ats_len]; try omega)) (all2 rfl (lrow2 _)) (allP rfl (lrow_pure _)) (by first | omega | (simp only [List.length_append, List.length_cons, List.length_nil, List.length_map, ats_len]; try omega)) (labOk_both _ _))) (hk := ?_) | refine b0 (hk := ?_) | refine p1 (hk := ?_) | refine a5 (hk := ?_) | refine b5 (hk := ?_) | refine b6 (hk := ?_) | refine b8 (hk := ?_) | refine b7 (hk := ?_) | refine b0' (hk := ?_) | refine e5' (hk := ?_) | refine f5' (hk := ?_) | refine f6' (hk := ?_) | refine f8' (hk := ?_) | refine b7' (hk := ?_) | refine u7 (hk := ?_))
    have e3 : ((0 : Int)) + 1 = ((1 : Nat) : Int) := rfl
    refine C_stpsFrom l [srow kk j x hh t e] r (by rw [hl0]; rfl) (by omega) (fun pre r T' S' => ∃ (T0 : Tm) (S1 : St) (d : List Lab), varsOk ls.length r = true ∧ ats ls l here = d ++ ats ls r here ∧ Ext S S1 ∧ S1[S.length + 0]? = some (.cells false [[LS ls, .lst ss.rows]]) ∧ S1[S.length + 1]? = some (.cells false [lrow here]) ∧ S1[S.length + 4]? = some (.cells true (d.map lrow)) ∧
        T' = putL T0 [(3, .sl (S.length + 4) d.length), (4, .ptr (S.length + 0) 1 0 0), (6, .ptr (S.length + 1) 1 0 0), (12, .lst l.rows), (13, I l.rows.length), (14, I pre.length)] ∧ S' = S1 ++ [])
      ⟨_, _, here :: (ats ls t (lboth here (labAt ls j)) ++ ats ls e (lboth here (labAt ls j))), hvr, by rw [ha]; simp, ex0, get_own rfl, get_own rfl, (by rw [get_own rfl]; simp), at_mk ⟨?_, rfl, rfl, rfl, rfl, rfl, trivial⟩, (List.append_nil _).symm⟩ ?_ ?_
    · show HV.sl _ _ = _; simp [ats_len]; omega
    · rintro pre kk v x hh t e r T' S' hx hz ⟨T0, S1, d, hvr, hq, hE, f0, f1, f3, rfl, rfl⟩
      have hg := mid hx
      have hlt := mid_lt hx
      have hlt' : (pre.length : Int) < (l.rows.length : Int) := by omega
      simp only [varsOk, Bool.and_eq_true] at hvr
      obtain ⟨hv0, hvt, hve, hvr⟩ := hvr
      obtain ⟨j, rfl, hj⟩ := vOk_at hv0
      have n0 : S.length + 0 ≠ S.length + 4 := by omega
      have n1 : S.length + 1 ≠ S.length + 4 := by omega
      have z0 := ats_len ls l here
      have z1 := congrArg List.length hq
      simp only [ats, List.length_append, List.length_cons, ats_len] at z1
      have e0 : (d.map lrow).length = d.length := by simp
      have e1 := lrow2 d
      have p1 := lrow_pure d
      repeat' (first | refine c0 ?_ | refine c3 ?_ | refine c7 ?_ | refine d2 ?_ | refine c8 ?_ | refine d0 ?_ | refine d4 ?_ | refine d3' (h := ?_) | refine d4' ?_ | refine k1 (he := (by first | exact k_impl_Label_both _ _ _ hok (labAt_ok hls _) | exact k_impl_labels t.sz ls ss hls t _ _ _ _ _ (Nat.le_refl _) (by omega) hvt (get_set (by assumption)) (by first | omega | (simp only [List.length_append, List.length_cons, List.length_nil, List.length_map, ats_len]; try omega)) (all2 e1 rfl) (allP p1 rfl) (by first | omega | (simp only [List.length_append, List.length_cons, List.length_nil, List.length_map, ats_len]; try omega)) (labOk_both _ _) | exact k_impl_labels e.sz ls ss hls e _ _ _ _ _ (Nat.le_refl _) (by omega) hve (get_set (by assumption)) (by first | omega | (simp only [List.length_append, List.length_cons, List.length_nil, List.length_map, ats_len]; try omega)) (all2 (all2 e1 rfl) (lrow2 _)) (allP (allP p1 rfl) (lrow_pure _)) (by first | omega | (simp only [List.length_append, List.length_cons, List.length_nil, List.length_map, ats_len]; try omega)) (labOk_both _ _))) (hk := ?_) | refine k0' (he := (by first | exact k_impl_Label_both _ _ _ hok (labAt_ok hls _) | exact k_impl_labels t.sz ls ss hls t _ _ _ _ _ (Nat.le_refl _) (by omega) hvt (get_set (by assumption)) (by first | omega | (simp only [List.length_append, List.length_cons, List.length_nil, List.length_map, ats_len]; try omega)) (all2 e1 rfl) (allP p1 rfl) (by first | omega | (simp only [List.length_append, List.length_cons, List.length_nil, List.length_map, ats_len]; try omega)) (labOk_both _ _) | exact k_impl_labels e.sz ls ss hls e _ _ _ _ _ (Nat.le_refl _) (by omega) hve (get_set (by assumption)) (by first | omega | (simp only [List.length_append, List.length_cons, List.length_nil, List.length_map, ats_len]; try omega)) (all2 (all2 e1 rfl) (lrow2 _)) (allP (allP p1 rfl) (lrow_pure _)) (by first | omega | (simp only [List.length_append, List.length_cons, List.length_nil, List.length_map, ats_len]; try omega)) (labOk_both _ _))) (hk := ?_) | refine b0 (hk := ?_) | refine a5 (hk := ?_) | refine b5 (hk := ?_) | refine b6 (hk := ?_) | refine b8 (hk := ?_) | refine b7 (hk := ?_) | refine p0 (hk := ?_) | refine b0' (hk := ?_) | refine e5' (hk := ?_) | refine f5' (hk := ?_) | refine f6' (hk := ?_) | refine f8' (hk := ?_) | refine b7' (hk := ?_) | refine u7 (hk := ?_))
      · refine ⟨_, _, d ++ here :: (ats ls t (lboth here (labAt ls j)) ++ ats ls e (lboth here (labAt ls j))), hvr, ?_, ex1 (ex2 hE (Nat.le_add_right _ _)), get_setN n0 f0, get_setN n1 f1, ?_, at_mk ⟨?_, rfl, rfl, rfl, rfl, inc (by omega), trivial⟩, (List.append_nil _).symm⟩
        · rw [hq]; simp [ats]
        · rw [get_set f3]; simp
        · show HV.sl _ _ = _
          simp [ats_len]; omega
    · rintro pre T' S' hx ⟨T0, S1, d, hvr, hq, hE, f0, f1, f3, rfl, rfl⟩
      repeat' (first | refine c0 ?_ | refine c2 ?_ | refine c5 ?_ | refine c7 ?_ | refine d2 ?_ | refine c8 ?_ | refine c9 ?_ | refine d0 ?_ | refine d1 ?_ | refine d4 ?_ | refine a5 (hk := ?_) | (with_reducible intro hc) | refine d8 (ht := ?_) (hf := ?_))
      · simp [hx] at hc
      · exact rLx hE (hn := by simp) (hp := lrow_pure d) (hv := by rw [hq]; simp [ats])
theorem k_impl_at (ls : List Lab) (ss : Stps) (S : St) (hok : progOk ls ss = true) : Ev Y impl_Prog_at [PR ls ss] S (LS (ats ls ss lany)) S := by
  obtain ⟨h1, h2, h3, h4⟩ := progOk_in hok
  have hvs := stepsOk_vars _ _ _ h3
  refine E_start (h := ?_)
  repeat' (first | refine c0 ?_ | refine c7 ?_ | refine d2 ?_ | refine c9 ?_ | refine d4 ?_ | refine d3' (h := ?_) | refine d4' ?_ | refine k0' (he := (by first | exact k_impl_everybody _ | exact k_impl_labels0 _ _ _ _ _ (by omega) hvs h2 labOk_any)) (hk := ?_) | refine k3' (he := (by first | exact k_impl_everybody _ | exact k_impl_labels0 _ _ _ _ _ (by omega) hvs h2 labOk_any)) (hk := ?_) | refine b1 (hk := ?_) | refine b3 (hk := ?_) | refine e5' (hk := ?_) | refine f5' (hk := ?_))
  exact rV
theorem src_lab {ls : List Lab} {x : Vl} {here : Lab} (hls : ls.all labOk = true) (hok : labOk here = true) (hx : valOk ls.length x = true) : lboth here (valLab ls x) = (varsV x).foldl (fun o v => lboth o (labAt ls v)) here := by
  obtain ⟨k, p, q⟩ := x
  simp only [valOk] at hx
  by_cases k1 : k = 1
  · subst k1
    rw [show valLab ls ⟨1, p, q⟩ = lany by simp [valLab], (lboth_any hok).2]
    rfl
  by_cases k2 : k = 2
  · subst k2
    rw [show valLab ls ⟨2, p, q⟩ = lboth lany (labAt ls p) by simp [valLab], (lboth_any (labAt_ok hls p)).1]
    rfl
  have h34 : k = 3 ∨ k = 4 := by
    by_cases h : k = 3 ∨ k = 4
    · exact h
    · simp [k1, k2, h] at hx
  rw [show valLab ls ⟨k, p, q⟩ = lboth (lboth lany (labAt ls p)) (labAt ls q) by simp [valLab, k1, h34], (lboth_any (labAt_ok hls p)).1, show varsV ⟨k, p, q⟩ = [p, q] by simp [varsV, k2, h34], ← lboth_assoc hok (labAt_ok hls p) (labAt_ok hls q)]
  rfl
theorem varsV_ok {n : Nat} {x : Vl} (hx : valOk n x = true) : ∀ v ∈ varsV x, vOk n v = true := by
  obtain ⟨k, p, q⟩ := x
  simp only [valOk] at hx
  intro v hv
  by_cases k1 : k = 1
  · subst k1; simp [varsV] at hv
  by_cases k2 : k = 2
  · subst k2; simp [varsV] at hv; simp at hx; rw [hv]; exact hx.1
  have h34 : k = 3 ∨ k = 4 := by
    by_cases h : k = 3 ∨ k = 4
    · exact h
    · simp [k1, k2, h] at hx
  have hx2 : vOk n p = true ∧ vOk n q = true := by
    rcases h34 with rfl | rfl <;> simpa using hx
  rw [show varsV ⟨k, p, q⟩ = [p, q] by simp [varsV, k2, h34]] at hv
  simp at hv
  rcases hv with rfl | rfl
  · exact hx2.1
  · exact hx2.2
theorem foldl_ok {ls : List Lab} : ∀ (vs : List Int) (here : Lab), labOk here = true → labOk (vs.foldl (fun o v => lboth o (labAt ls v)) here) = true
  | [], _, h => h
  | v :: vs, here, h => foldl_ok vs _ (labOk_both _ _)
theorem varsV_len (x : Vl) : (varsV x).length ≤ 2 := by
  unfold varsV
  split
  · simp
  · split <;> simp
theorem k_impl_source (ls : List Lab) (ss : Stps) (k v : Int) (x : Vl) (h : Int) (t e : Stps) (here : Lab) (S : St) (hls : ls.all labOk = true) (hok : labOk here = true) (hx : valOk ls.length x = true) : Ev Y impl_Prog_source [PR ls ss, .agg (srow k v x h t e), .agg (lrow here)] S (.agg (lrow (lboth here (valLab ls x)))) S := by
  rw [src_lab hls hok hx]
  have hvo := varsV_ok hx
  have hvl := varsV_len x
  refine E_start (h := ?_)
  repeat' (first | refine c0 ?_ | refine c7 ?_ | refine d2 ?_ | refine c8 ?_ | refine d4 ?_ | refine k0 (he := (by first | exact k_impl_Val_vars _ _)) (hk := ?_) | refine b0 (hk := ?_) | refine b1 (hk := ?_) | refine a5 (hk := ?_) | refine b5 (hk := ?_))
  refine C_list (varsV x) (fun pre r T' S' => ∃ (T0 : Tm) (S1 : St) (o : Lab), labOk o = true ∧ (varsV x).foldl (fun o v => lboth o (labAt ls v)) here = r.foldl (fun o v => lboth o (labAt ls v)) o ∧ Ext S S1 ∧ S1[S.length + 0]? = some (.cells false [[LS ls, .lst ss.rows]]) ∧ S1[S.length + 2]? = some (.cells false [lrow o]) ∧ (∃ z, S1[S.length + 3]? = some (.cells false [lrow z])) ∧
      T' = putL T0 [(3, .ptr (S.length + 0) 1 0 0), (5, .ptr (S.length + 2) 1 0 0), (6, .ptr (S.length + 3) 1 0 0), (11, L (varsV x)), (12, I (varsV x).length), (13, I pre.length)] ∧ S' = S1 ++ [])
    ⟨_, _, here, hok, rfl, ex0, get_own rfl, get_own rfl, ⟨⟨0, 0⟩, get_own rfl⟩, at_mk ⟨rfl, rfl, rfl, rfl, by show HV.int _ _ = _; simp, rfl, trivial⟩, (List.append_nil _).symm⟩ ?_ ?_
  · rintro pre y r T' S' hxs ⟨T0, S1, o, ho, hq, hE, f0, f2, ⟨z, f3⟩, rfl, rfl⟩
    have hg := mid hxs
    have hlt := mid_lt hxs
    have hc0 : (pre.length : Int) < ((varsV x).length : Int) := by omega
    have hy := hvo y (by rw [hxs]; simp)
    obtain ⟨j, rfl, hj⟩ := vOk_at hy
    have n2 : S.length + 2 ≠ S.length + 0 := by omega
    have n2' : S.length + 0 ≠ S.length + 2 := by omega
    repeat' (first | refine c0 ?_ | refine c3 ?_ | refine c7 ?_ | refine d2 ?_ | refine c8 ?_ | refine d0 ?_ | refine d4 ?_ | refine d3' (h := ?_) | refine d4' ?_ | refine k0' (he := (by first | exact k_impl_Label_both _ _ _ ho (labAt_ok hls _))) (hk := ?_) | refine a5 (hk := ?_) | refine b6 (hk := ?_) | refine b8 (hk := ?_) | refine e5' (hk := ?_) | refine f5' (hk := ?_) | refine f6' (hk := ?_) | refine f8' (hk := ?_) | refine b7' (hk := ?_) | refine u7 (hk := ?_))
    refine ⟨_, _, lboth o (labAt ls j), labOk_both _ _, by rw [hq]; rfl, ex1 (ex2 hE (Nat.le_add_right _ _)), get_old (setN n2' f0), get_old (setE f2), ⟨z, get_old (setN (by omega) f3)⟩, at_mk ⟨rfl, rfl, rfl, rfl, rfl, inc (by omega), trivial⟩, (List.append_nil _).symm⟩
  · rintro T' S' ⟨T0, S1, o, ho, hq, hE, f0, f2, ⟨z, f3⟩, rfl, rfl⟩
    have hc0 : ¬ (((varsV x).length : Int) < ((varsV x).length : Int)) := by omega
    repeat' (first | refine c0 ?_ | refine c2 ?_ | refine c5 ?_ | refine c7 ?_ | refine d2 ?_ | refine c9 ?_ | refine d1 ?_ | refine d4 ?_ | refine a5 (hk := ?_) | refine b5 (hk := ?_) | refine b7 (hk := ?_) | refine u8 (hk := ?_))
    rw [hq]
    exact rCG (h3 := get_old (setE f3)) (hz := rfl) (hl := by have := hE.le; simp; omega) (ho := fun j hj => by rw [List.getElem?_append_left (by have := hE.le; simp; omega), List.getElem?_set_ne (by omega), hE.old hj])
theorem flatOk_lab {ls : List Lab} : ∀ (l : Stps) (here : Lab), labOk here = true → ∀ x ∈ ats ls l here, labOk x = true
  | .nil, _, _, x, hx => by simp [ats] at hx
  | .cons _ v _ _ t e r, here, h, x, hx => by
    simp only [ats, List.mem_cons, List.mem_append] at hx
    rcases hx with rfl | hx | hx | hx
    · exact h
    · exact flatOk_lab t _ (labOk_both _ _) x hx
    · exact flatOk_lab e _ (labOk_both _ _) x hx
    · exact flatOk_lab r _ h x hx
theorem k_impl_has' (a i : Int) (S : St) (ha : setB a = true) : Ev Y impl_has [I a, I i] S (.bool (hasG a i)) S := by
  rw [← has_eq ha i]
  exact k_impl_has a i S
theorem k_impl_why (ls : List Lab) (ss : Stps) (S : St) (hok : progOk ls ss = true) : Ev Y impl_Prog_why [PR ls ss] S (WHY (whyP ls ss)) S := by
  obtain ⟨h1, h2, h3, h4⟩ := progOk_in hok
  rw [show whyP ls ss = whyL ls ss.all (ats ls ss lany) 0 by simp [whyP, hok]]
  have hatok := flatOk_lab (ls := ls) ss lany labOk_any
  refine E_start (h := ?_)
  repeat' (first | refine c0 ?_ | refine c7 ?_ | refine d2 ?_ | refine c8 ?_ | refine d4 ?_ | refine k0 (he := (by first | exact k_impl_at _ _ _ hok | exact k_impl_all _ ss _ (Nat.le_refl _) (by omega))) (hk := ?_) | refine b1 (hk := ?_) | refine a5 (hk := ?_) | refine b5 (hk := ?_))
  refine C_stps ss.all (fun pre r T' S' => ∃ (T0 : Tm) (S1 : St) (d hs' : List Lab), ats ls ss lany = d ++ hs' ∧ d.length = pre.length ∧ hs'.length = r.len ∧ flatOk ls.length r = true ∧ whyL ls ss.all (ats ls ss lany) 0 = whyL ls r hs' pre.length ∧ Ext S S1 ∧ S1[S.length + 0]? = some (.cells false [[LS ls, .lst ss.rows]]) ∧
      T' = putL T0 [(1, .ptr (S.length + 0) 1 0 0), (4, LS (ats ls ss lany)), (12, .lst ss.all.rows), (13, I ss.all.rows.length), (14, I pre.length)] ∧ S' = S1 ++ [])
    ⟨_, _, [], _, rfl, rfl, by rw [ats_len, Stps.all_len], stepsOk_flat _ _ _ h3, rfl, ex0, get_own rfl, at_mk ⟨rfl, rfl, rfl, rfl, rfl, trivial⟩, (List.append_nil _).symm⟩ ?_ ?_
  · rintro pre k v x hh t e r T' S' hx hz ⟨T0, S1, d, hs', he, hd, hsl, hf, hq, hE, h0, rfl, rfl⟩
    cases hs' with
    | nil => simp [Stps.len] at hsl
    | cons here hs' =>
      have hg := mid hx
      have hlt := mid_lt hx
      have hg2 := mid he
      rw [hd] at hg2
      have := ss.all.rows_len
      have := ss.all_len
      have hc0 : (pre.length : Int) < (ss.all.rows.length : Int) := by omega
      have hho : labOk here = true := hatok here (by rw [he]; simp)
      simp only [flatOk, Bool.and_eq_true] at hf
      obtain ⟨f1, f2, f3, f4, f5⟩ := hf
      simp only [whyL] at hq
      have fx : k = 1 → valOk ls.length x = true := fun hk => by simpa [hk] using f2
      obtain ⟨j, rfl, hj⟩ := vOk_at f1
      have hlo := labAt_ok h2 (j : Int)
      have next : fineG ls k j x hh here = true → whyL ls ss.all (ats ls ss lany) 0 = whyL ls r hs' (pre ++ [srow k j x hh t e]).length := fun hfi => by rw [hq, hfi]; simp
      have bad : fineG ls k j x hh here = false → whyL ls ss.all (ats ls ss lany) 0 = some pre.length := fun hfi => by rw [hq, hfi]; rfl
      by_cases k1 : k = 1
      · subst k1
        repeat' (first | refine c0 ?_ | refine c1 ?_ | refine c3 ?_ | refine c4 ?_ | refine c7 ?_ | refine d2 ?_ | refine c8 ?_ | refine c9 ?_ | refine d0 ?_ | refine d4 ?_ | refine d3' (h := ?_) | refine d4' ?_ | refine k0' (he := (by first | exact k_impl_source _ _ _ _ _ _ _ _ _ _ h2 hho (fx rfl) | exact k_impl_Label_flows _ _ _ (labOk_both _ _) hlo)) (hk := ?_) | refine b0 (hk := ?_) | refine a5 (hk := ?_) | refine b5 (hk := ?_) | refine b6 (hk := ?_) | refine b8 (hk := ?_) | refine b7 (hk := ?_) | refine e5' (hk := ?_) | refine f5' (hk := ?_) | refine f6' (hk := ?_) | refine f8' (hk := ?_) | (with_reducible intro hc) | refine d6 (ht := ?_) | refine u7 (hk := ?_) | refine d9 (ht := ?_) (hf := ?_))
        · refine rVx hE (hv := ?_)
          rw [bad (by simpa [fineG] using hc)]; rfl
        · exact ⟨_, _, d ++ [here], hs', by rw [he]; simp, by simp [hd], by simpa [Stps.len] using hsl, f5, next (by simpa [fineG] using hc), ex1 hE, get_old h0, at_mk ⟨rfl, rfl, rfl, rfl, inc (by omega), trivial⟩, (List.append_nil _).symm⟩
      by_cases k3 : k = 3
      · subst k3
        have hs1 := (labOk_in hho).1
        have hs2 := (labOk_in hlo).1
        have hfq : fineG ls 3 j x hh here = (hasG here.k hh && hasG (labAt ls j).k hh) := by simp [fineG, hasG_both]
        cases q1 : hasG here.k hh with
        | false =>
          have hh1 : ∀ S, Ev Y impl_has [I here.k, I hh] S (.bool false) S := fun S => by
            have := k_impl_has' here.k hh S hs1
            rwa [q1] at this
          repeat' (first | refine c0 ?_ | refine c1 ?_ | refine c4 ?_ | refine c7 ?_ | refine d2 ?_ | refine c8 ?_ | refine c9 ?_ | refine d0 ?_ | refine d4 ?_ | refine d3' (h := ?_) | refine d4' ?_ | refine k0' (he := (by first | exact hh1 _)) (hk := ?_) | refine b0 (hk := ?_) | refine a5 (hk := ?_) | refine b5 (hk := ?_) | refine b6 (hk := ?_) | refine b8 (hk := ?_) | refine b7 (hk := ?_) | refine e0' (hk := ?_) | refine e1' (hk := ?_) | refine e5' (hk := ?_) | refine f5' (hk := ?_) | refine f6' (hk := ?_) | refine f8' (hk := ?_) | refine d6 (ht := ?_) | refine d7 (hf := ?_) | refine u7 (hk := ?_))
          refine rVx hE (hv := ?_)
          rw [bad (by rw [hfq, q1]; rfl)]; rfl
        | true =>
          have hh1 : ∀ S, Ev Y impl_has [I here.k, I hh] S (.bool true) S := fun S => by
            have := k_impl_has' here.k hh S hs1
            rwa [q1] at this
          cases q2 : hasG (labAt ls j).k hh with
          | false =>
            have hh2 : ∀ S, Ev Y impl_has [I (labAt ls j).k, I hh] S (.bool false) S := fun S => by
              have := k_impl_has' (labAt ls j).k hh S hs2
              rwa [q2] at this
            repeat' (first | refine c0 ?_ | refine c1 ?_ | refine c4 ?_ | refine c7 ?_ | refine d2 ?_ | refine c8 ?_ | refine c9 ?_ | refine d0 ?_ | refine d4 ?_ | refine d3' (h := ?_) | refine d4' ?_ | refine k0' (he := (by first | exact hh1 _ | exact hh2 _)) (hk := ?_) | refine b0 (hk := ?_) | refine a5 (hk := ?_) | refine b5 (hk := ?_) | refine b6 (hk := ?_) | refine b8 (hk := ?_) | refine b7 (hk := ?_) | refine e2' (hk := ?_) | refine e5' (hk := ?_) | refine f5' (hk := ?_) | refine f6' (hk := ?_) | refine f8' (hk := ?_) | refine d6 (ht := ?_) | refine d7 (hf := ?_) | refine u7 (hk := ?_))
            refine rVx hE (hv := ?_)
            rw [bad (by rw [hfq, q1, q2]; rfl)]; rfl
          | true =>
            have hh2 : ∀ S, Ev Y impl_has [I (labAt ls j).k, I hh] S (.bool true) S := fun S => by
              have := k_impl_has' (labAt ls j).k hh S hs2
              rwa [q2] at this
            repeat' (first | refine c0 ?_ | refine c3 ?_ | refine c7 ?_ | refine d2 ?_ | refine c8 ?_ | refine d0 ?_ | refine d4 ?_ | refine d3' (h := ?_) | refine d4' ?_ | refine k0' (he := (by first | exact hh1 _ | exact hh2 _)) (hk := ?_) | refine b0 (hk := ?_) | refine a5 (hk := ?_) | refine b5 (hk := ?_) | refine b6 (hk := ?_) | refine b8 (hk := ?_) | refine b7 (hk := ?_) | refine e2' (hk := ?_) | refine e5' (hk := ?_) | refine f5' (hk := ?_) | refine f6' (hk := ?_) | refine f8' (hk := ?_) | refine d6 (ht := ?_) | refine d7 (hf := ?_) | refine u7 (hk := ?_))
            exact ⟨_, _, d ++ [here], hs', by rw [he]; simp, by simp [hd], by simpa [Stps.len] using hsl, f5, next (by rw [hfq, q1, q2]; rfl), ex1 hE, get_old h0, at_mk ⟨rfl, rfl, rfl, rfl, inc (by omega), trivial⟩, (List.append_nil _).symm⟩
      have kb1 : (k == 1) = false := by simpa using k1
      have kb3 : (k == 3) = false := by simpa using k3
      repeat' (first | refine c0 ?_ | refine c3 ?_ | refine c7 ?_ | refine d2 ?_ | refine c8 ?_ | refine d0 ?_ | refine d4 ?_ | refine b0 (hk := ?_) | refine a5 (hk := ?_) | refine b5 (hk := ?_) | refine b6 (hk := ?_) | refine b8 (hk := ?_) | refine b7 (hk := ?_) | refine u6 (hk := ?_) | refine u7 (hk := ?_))
      exact ⟨_, _, d ++ [here], hs', by rw [he]; simp, by simp [hd], by simpa [Stps.len] using hsl, f5, next (by simp [fineG, k1, k3]), ex1 hE, get_old h0, at_mk ⟨rfl, rfl, rfl, rfl, inc (by omega), trivial⟩, (List.append_nil _).symm⟩
  · rintro pre T' S' hx ⟨T0, S1, d, hs', he, hd, hsl, hf, hq, hE, h0, rfl, rfl⟩
    have hc0 : ¬ ((pre.length : Int) < (ss.all.rows.length : Int)) := by rw [hx]; omega
    repeat' (first | refine c0 ?_ | refine c2 ?_ | refine c5 ?_ | refine c7 ?_ | refine d2 ?_ | refine c9 ?_ | refine d1 ?_ | refine d4 ?_ | refine a5 (hk := ?_) | refine u8 (hk := ?_))
    refine rVx hE (hv := ?_)
    rw [hq]; rfl
theorem k_impl_TypeOk (ls : List Lab) (ss : Stps) (S : St) (hs : ss.sz ≤ 1048576) (hl : ls.length ≤ 1048576) : Ev Y impl_TypeOk [PR ls ss] S (.bool (progOk ls ss && (whyP ls ss).isNone)) S := by
  cases hok : progOk ls ss with
  | false =>
    have hno : (!progOk ls ss) = true := by rw [hok]; rfl
    refine E_start (h := ?_)
    repeat' (first | refine c0 ?_ | refine c1 ?_ | refine c7 ?_ | refine d2 ?_ | refine c9 ?_ | refine d4 ?_ | refine k0 (he := (by first | exact k_impl_ProgOk _ _ _ hs hl)) (hk := ?_) | refine b1 (hk := ?_) | refine a5 (hk := ?_) | refine b5 (hk := ?_) | refine u5 (hk := ?_))
    exact rB (hv := rfl)
  | true =>
    have hno : (!progOk ls ss) = false := by rw [hok]; rfl
    refine E_start (h := ?_)
    repeat' (first | refine c0 ?_ | refine c7 ?_ | refine d2 ?_ | refine c9 ?_ | refine d0 ?_ | refine d4 ?_ | refine k0 (he := (by first | exact k_impl_ProgOk _ _ _ hs hl | exact k_impl_why _ _ _ hok)) (hk := ?_) | refine b1 (hk := ?_) | refine a4 (ht := ?_) (hf := ?_) | refine a5 (hk := ?_) | refine b5 (hk := ?_) | (with_reducible intro hc) | refine u6 (hk := ?_))
    all_goals (refine rB (hv := ?_); cases hw : whyP ls ss <;> simp_all)
end Go.Proofs.X
end
section
namespace Go.Proofs.X
open Go Go.Proofs.XVai Go.Proofs Go.Proofs.XN
set_option linter.unusedVariables false
set_option linter.unusedSimpArgs false
set_option maxHeartbeats 40000000
set_option maxRecDepth 100000

/-- A tree of rows of one's own becomes immutable. -/
theorem frz_rows {N n0 : Nat} : ∀ (f : Nat) (l : Stps) (d : Int) (S : St) (lo hi : Nat) (rows : List (List HV)), Tr S lo hi l rows → stepsOk N l d = true → d ≤ f → n0 ≤ lo →
    ∃ S', mapMS (mapMS (frzC n0 f)) rows S = some (l.rows, S') ∧ S'.length = S.length ∧ ∀ j, (j < lo ∨ hi ≤ j) → S'[j]? = S[j]? := by
  intro f
  induction f with
  | zero =>
    intro l d S lo hi rows hT hs hd hn
    cases l with
    | nil => obtain ⟨rfl, _⟩ := hT; exact ⟨S, rfl, rfl, fun _ _ => rfl⟩
    | cons k v x h t e r =>
      rw [stepsOk_cons, Bool.and_eq_true] at hs
      have := hs.1
      simp only [stepOk, Bool.and_eq_true, Bool.not_eq_true', decide_eq_false_iff_not] at this
      omega
  | succ f ih =>
    intro l
    induction l with
    | nil => intro d S lo hi rows hT _ _ _; obtain ⟨rfl, _⟩ := hT; exact ⟨S, rfl, rfl, fun _ _ => rfl⟩
    | cons k v x h t e r iht ihe ihr =>
      intro d S lo hi rows hT hs hd hn
      rw [stepsOk_cons, Bool.and_eq_true] at hs
      obtain ⟨_, _, _, ⟨ht, he⟩, _⟩ := stepOk_in hs.1
      obtain ⟨qt, qe, m1, m2, rt, re, rs, rfl, ⟨t1, t2, t3⟩, ⟨s1, s2, s3⟩, hT5⟩ := hT
      have l3 := t3.le
      have l4 := s3.le
      have l5 := hT5.le
      have one : ∀ (q : Nat) (u : Stps) (hi : Nat) (ru : List (List HV)) (S : St), n0 ≤ q → stepsOk N u (d - 1) = true → S[q]? = some (.cells false ru) → Tr S (q + 1) hi u ru → ∃ S', frzC n0 (f + 1) (.sl q u.len) S = some (.lst u.rows, S') ∧ S'.length = S.length ∧ ∀ j, (j < q ∨ hi ≤ j) → S'[j]? = S[j]? := by
        intro q u hi ru S hq hu hS hTu
        obtain ⟨S1, z1, z2, z3⟩ := ih u (d - 1) S (q + 1) hi ru hTu hu (by omega) (by omega)
        have hle := hTu.le
        refine ⟨S1.set q (.cells true ru), ?_, by simpa using z2, fun j hj => ?_⟩
        · simp only [frzC]
          rw [if_neg (by omega), hS]
          simp only [hTu.len, if_true, z1, u.rows_pure, Bool.false_eq_true, if_false]
        · rw [List.getElem?_set_ne (by omega), z3 j (by omega)]
      obtain ⟨S1, a1, a2, a3⟩ := one qt t m1 rt S (by omega) ht t2 t3
      obtain ⟨S2, b1, b2, b3⟩ := one qe e m2 re S1 (by omega) he (by rw [a3 _ (by omega), s2]) (s3.keep fun j j1 j2 => a3 j (by omega))
      obtain ⟨S3, c1, c2, c3⟩ := ihr d S2 m2 hi rs (hT5.keep fun j j1 j2 => by rw [b3 j (by omega), a3 j (by omega)]) hs.2 hd (by omega)
      refine ⟨S3, ?_, by omega, fun j hj => by rw [c3 j (by omega), b3 j (by omega), a3 j (by omega)]⟩
      have row : mapMS (frzC n0 (f + 1)) [I k, I v, I x.kind, I x.a, I x.b, I h, .sl qt t.len, .sl qe e.len] S = some ([I k, I v, I x.kind, I x.a, I x.b, I h, .lst t.rows, .lst e.rows], S2) :=
        fmS rfl (fmS rfl (fmS rfl (fmS rfl (fmS rfl (fmS rfl (fmS a1 (fmS b1 fm0)))))))
      exact fmS row c1
theorem frz_node {N n0 : Nat} {l : Stps} {S : St} {hi q : Nat} {rows : List (List HV)} (hs : stepsOk N l 3 = true) (hS : S[q]? = some (.cells false rows)) (hT : Tr S (q + 1) hi l rows) (hq : n0 ≤ q) :
    ∃ S', frzC n0 6 (.sl q l.len) S = some (.lst l.rows, S') ∧ S'.length = S.length ∧ ∀ j, (j < q ∨ hi ≤ j) → S'[j]? = S[j]? := by
  obtain ⟨S1, z1, z2, z3⟩ := frz_rows (N := N) (n0 := n0) 5 l 3 S (q + 1) hi rows hT hs (by omega) (by omega)
  have hle := hT.le
  refine ⟨S1.set q (.cells true rows), ?_, by simpa using z2, fun j hj => ?_⟩
  · simp only [frzC]
    rw [if_neg (by omega), hS]
    simp only [hT.len, if_true, z1, l.rows_pure, Bool.false_eq_true, if_false]
  · rw [List.getElem?_set_ne (by omega), z3 j (by omega)]
theorem own_ne {S1 X : St} {k1 j : Nat} {o : Ob} (hj : k1 ≠ S1.length + j) : (S1 ++ X.set j o)[k1]? = (S1 ++ X)[k1]? := by
  rw [← set_own, List.getElem?_set_ne (Ne.symm hj)]
/-- A copy of a program that may be changed. -/
def ProgK (S' : St) (b : Nat) (v : HV) (ls : List Lab) (ss : Stps) : Prop := ∃ ql qs hi rows, v = .agg [.sl ql ls.length, .sl qs ss.len] ∧ b ≤ ql ∧ ql < qs ∧ hi ≤ S'.length ∧ S'[ql]? = some (.cells false (ls.map lrow)) ∧ S'[qs]? = some (.cells false rows) ∧ Tr S' (qs + 1) hi ss rows
theorem k_impl_clone (ls : List Lab) (ss : Stps) (S : St) (hs : ss.sz ≤ 100000) (hl : ls.length ≤ 1048576) (hne : ls.isEmpty = false) : EvR Y impl_Prog_clone [PR ls ss] S (fun v S' => (∃ J, S' = S ++ J) ∧ ProgK S' S.length v ls ss) := by
  have hz2 : (ls.map lrow).all (fun r => r.length == 2 && r.all isCell) = true := by simp [isCell]
  have hem : (ls.map lrow).isEmpty = false := by cases ls <;> simp_all
  refine E_startR (h := ?_)
  repeat' (first | refine c0 ?_ | refine c7 ?_ | refine d2 ?_ | refine d4 ?_ | refine d3' (h := ?_) | refine b0 (hk := ?_) | refine b1 (hk := ?_) | refine p1' (hk := ?_) | refine e5' (hk := ?_) | refine f5' (hk := ?_))
  refine kX' (he := k_impl_cloneSteps _ ss _ (Nat.le_refl _) hs) (hx := fun v S' ⟨J, h, _⟩ => ⟨J, h⟩) (hk := ?_)
  rintro v1 J1 ⟨J1', hJ1, qs, rows, rfl, ht1, ht2, ht3⟩
  rw [List.append_assoc S] at ht2 ht3 ⊢
  repeat' (first | refine c0 ?_ | refine c9 ?_ | refine d4' ?_ | refine b7b (hk := ?_) | refine b7' (hk := ?_))
  have hq6 : S.length + 6 ≤ qs := by simp at ht1; omega
  refine ⟨_, _, rKeepC (h3 := get_own rfl), ⟨_, rfl⟩, S.length + 4, qs, _, rows, by rw [show ls.length = (ls.map lrow).length by simp]; rfl, by omega, by omega, ?_, get_own rfl, ?_, ht3.keep fun j j1 j2 => own_ne (by omega)⟩
  · simp
  · rw [own_ne (by omega), ht2]
theorem hOkP {ls : List Lab} {ss : Stps} (h : progOk ls ss = true) : hOk ss = true := hOk_of ss 3 (progOk_in h).2.2.1
/-- What the turning of a program's labels holds. -/
structure TP (S : St) (ls cs : List Lab) (ss : Stps) (ql qs hi c : Nat) (rows : List (List HV)) (S1 : St) : Prop where
  f0 : S1[S.length + 1]? = some RW
  f2 : S1[S.length + 2]? = some (.cells false [[.nils, .nils]])
  fc : S1[c]? = some (.cells false [[.sl ql ls.length, .sl qs ss.len]])
  fL : S1[ql]? = some (.cells false (cs.map lrow))
  fS : S1[qs]? = some (.cells false rows)
  tr : Tr S1 (qs + 1) hi ss rows
  old : ∀ j, j < S.length → S1[j]? = S[j]?
  le : hi ≤ S1.length
theorem TP.next {S : St} {ls cs cs' : List Lab} {ss : Stps} {ql qs hi c : Nat} {rows rl : List (List HV)} {S1 L : St} (h : TP S ls cs ss ql qs hi c rows S1) (g1 : S.length + 3 ≤ ql) (g2 : ql < qs) (gc : hi ≤ c) (hr : rl = cs'.map lrow) : TP S ls cs' ss ql qs hi c rows (S1.set ql (.cells false rl) ++ L) := by
  subst hr
  have hle := h.tr.le
  have hl := h.le
  have k : ∀ j, j ≠ ql → j < S1.length → (S1.set ql (.cells false (cs'.map lrow)) ++ L)[j]? = S1[j]? := fun j h1 h2 => by rw [List.getElem?_append_left (by simpa using h2), List.getElem?_set_ne (Ne.symm h1)]
  exact ⟨get_setN (by omega) h.f0, get_setN (by omega) h.f2, get_setN (by omega) h.fc, get_set h.fL, get_setN (by omega) h.fS, h.tr.keep fun j j1 j2 => k j (by omega) (by omega), fun j hj => by rw [k j (by omega) (by omega), h.old j hj], by simp; omega⟩
theorem k_impl_TurnProg (ls : List Lab) (ss : Stps) (S : St) (hok : progOk ls ss = true) (hne : ls.isEmpty = false) : Ev Y impl_TurnProg [PR ls ss, L [1, 2, 0]] S (.tup [PR (ls.map turnL) (turnS ss), .bool true]) S := by
  obtain ⟨h1, h2, h3, h4⟩ := progOk_in hok
  have hno : (!progOk ls ss) = false := by rw [hok]; rfl
  refine E_start (h := ?_)
  repeat' (first | refine c0 ?_ | refine c7 ?_ | refine d2 ?_ | refine d0 ?_ | refine d4 ?_ | refine k0 (he := (by first | exact k_impl_ProgOk _ _ _ (by omega) (by omega) | exact k_impl_isRow _)) (hk := ?_) | refine b0 (hk := ?_) | refine b1 (hk := ?_) | refine u2 (hk := ?_) | refine a5 (hk := ?_) | refine b5 (hk := ?_) | refine d7 (hf := ?_))
  refine kX (he := k_impl_clone ls ss _ (by omega) (by omega) hne) (hk := ?_)
  rintro v S2 ⟨⟨J, hJ⟩, ql, qs, hi, rows, rfl, g1, g2, g3, fL, fS, hT⟩
  have g1 : S.length + 3 ≤ ql := by simpa using g1
  have f0 : S2[S.length + 1]? = some RW := by rw [hJ]; exact get_old (get_own rfl)
  have f2 : S2[S.length + 2]? = some (.cells false [[.nils, .nils]]) := by rw [hJ]; exact get_old (get_own rfl)
  have hold : ∀ j, j < S.length → S2[j]? = S[j]? := fun j hj => by rw [hJ, List.getElem?_append_left (by simp; omega), List.getElem?_append_left hj]
  have hle := hT.le
  have qll := (List.getElem?_eq_some_iff.1 fL).1
  clear hJ
  rw [← List.append_nil S2]
  repeat' (first | refine c0 ?_ | refine c7 ?_ | refine d2 ?_ | refine c8 ?_ | refine d4 ?_ | refine b0 (hk := ?_) | refine a5 (hk := ?_) | refine b5 (hk := ?_) | refine b7 (hk := ?_))
  refine C_list ls (fun pre r T' S' => ∃ (T0 : Tm) (S1 : St), TP S ls (pre.map turnL ++ r) ss ql qs hi (S2.length + 0) rows S1 ∧
      T' = putL T0 [(3, .ptr (S.length + 1) 1 0 0), (4, .ptr (S.length + 2) 1 0 0), (6, .ptr (S2.length + 0) 1 0 0), (21, .sl ql ls.length), (22, I ls.length), (23, I pre.length)] ∧ S' = S1 ++ [])
    ⟨_, _, ⟨get_old f0, get_old f2, get_own rfl, get_old fL, get_old fS, hT.keep fun j j1 j2 => List.getElem?_append_left (by omega), fun j hj => by rw [List.getElem?_append_left (by omega), hold j hj], by simp; omega⟩, at_mk ⟨rfl, rfl, rfl, rfl, rfl, rfl, trivial⟩, (List.append_nil _).symm⟩ ?_ ?_
  · rintro pre x r T' S' hx ⟨T0, S1, hP, rfl, rfl⟩
    have hlt := mid_lt hx
    have fL := hP.fL
    have f0 := hP.f0
    have fc := hP.fc
    have hxo : labOk x = true := List.all_eq_true.1 h2 x (by rw [hx]; simp)
    obtain ⟨hk1, hk2⟩ := labOk_in hxo
    have hc0 : (pre.length : Int) < (ls.length : Int) := by omega
    have hrow : ((pre.map turnL ++ x :: r).map lrow)[pre.length]? = some (lrow x) := by simp
    have hrl : ((pre.map turnL ++ x :: r).map lrow).length = ls.length := by rw [hx]; simp
    repeat' (first | refine c0 ?_ | refine c3 ?_ | refine c7 ?_ | refine d2 ?_ | refine c8 ?_ | refine d0 ?_ | refine d4 ?_ | refine d3' (h := ?_) | refine d4' ?_ | refine k0' (he := (by first | exact k_impl_turned _ _ hk1 | exact k_impl_turned _ _ hk2)) (hk := ?_) | refine b0 (hk := ?_) | refine a5 (hk := ?_) | refine b5 (hk := ?_) | refine b9 (hk := ?_) | refine b7 (hk := ?_) | refine b7b (hk := ?_) | refine e5' (hk := ?_) | refine f5' (hk := ?_) | refine f9' (hk := ?_) | refine b7' (hk := ?_) | refine u7 (hk := ?_))
    refine ⟨_, _, hP.next g1 g2 (by omega) ?_, at_mk ⟨rfl, rfl, rfl, rfl, rfl, inc (by omega), trivial⟩, (List.append_nil _).symm⟩
    show List.set _ _ (lrow (turnL x)) = _
    rw [List.map_append, List.map_cons, set3 (by simp)]
    simp
  · rintro T' S' ⟨T0, S1, hP, rfl, rfl⟩
    have hc0 : ¬ ((ls.length : Int) < (ls.length : Int)) := by omega
    have fc := hP.fc
    have hle1 := hP.le
    repeat' (first | refine c0 ?_ | refine c2 ?_ | refine c5 ?_ | refine c7 ?_ | refine d2 ?_ | refine d1 ?_ | refine d4 ?_ | refine a5 (hk := ?_) | refine b5 (hk := ?_) | refine u8 (hk := ?_))
    refine kC (he := k_impl_change ss.sz (S.length + 1) ss _ hi qs rows (Nat.le_refl _) (by omega) (hOkP hok) (get_old hP.fS) (hP.tr.keep fun j j1 j2 => List.getElem?_append_left (by omega)) (by simp; omega) (get_old hP.f0) (by omega)) (hk := ?_)
    rintro w S4 ⟨rfl, f4, rows', gs, hT'⟩
    rw [List.append_nil] at f4
    have le4 := f4.1
    have fr4 : ∀ j o, S1[j]? = some o → (j < qs ∨ hi ≤ j) → S4[j]? = some o := fun j o h hj => by rw [f4.2 j (List.getElem?_eq_some_iff.1 h).1 hj, h]
    have fc4 := fr4 _ _ hP.fc (by omega)
    have f24 := fr4 _ _ hP.f2 (by omega)
    have fL4 := fr4 _ _ hP.fL (by omega)
    rw [← List.append_nil S4]
    repeat' (first | refine c0 ?_ | refine c7 ?_ | refine d2 ?_ | refine c9 ?_ | refine d4 ?_ | refine a5 (hk := ?_) | refine b5 (hk := ?_) | refine b7 (hk := ?_))
    rw [List.append_nil] at fL4
    have hml : ((ls.map turnL).map lrow).length = ls.length := by simp
    obtain ⟨S6, z1, z2, z3⟩ := frz_node (N := ls.length) (n0 := S.length) (l := turnS ss) (S := (S4.set (S.length + 2) (.cells false [[.sl ql ls.length, .sl qs ss.len]]) ++ []).set ql (.cells true ((ls.map turnL).map lrow))) (hi := hi) (q := qs) (rows := rows') (by rw [turnS_ok]; exact h3)
      (setN (by omega) (get_setN (by omega) gs)) (hT'.keep fun j j1 j2 => by rw [List.getElem?_set_ne (by omega), List.append_nil, List.getElem?_set_ne (by omega)]) (by omega)
    rw [turnS_len] at z1
    refine rRun (v := .agg [.sl ql ls.length, .sl qs ss.len]) (h3 := get_old (setE f24)) (hz := ?_) (hl := by simp at z2; omega) (ho := fun j hj => ?_) (S2 := S6)
    · show frzV S.length (.agg [.sl ql ls.length, .sl qs ss.len]) (S4.set (S.length + 2) (.cells false [[.sl ql ls.length, .sl qs ss.len]]) ++ []) = _
      simp only [frzV]
      rw [fmS (fz_slF rfl (by omega) (get_setN (by omega) fL4) hml (lrow_pure _)) (fmS z1 fm0)]
    · rw [z3 j (by omega), List.getElem?_set_ne (by omega), List.append_nil, List.getElem?_set_ne (by omega), f4.2 j (by omega) (by omega), hP.old j hj]
end Go.Proofs.X
end
section
namespace Go.Proofs.X
open Go Go.Proofs.XVai Go.Proofs Go.Proofs.XN
set_option linter.unusedVariables false
set_option linter.unusedSimpArgs false
set_option maxHeartbeats 40000000
set_option maxRecDepth 100000

theorem law_TurnLeak (bs : List UInt8) (S : St) : Ev Y laws_FnTurnLeak [BY bs] S (.bool true) S := by
  by_cases hlen : bs.length > 1048576
  · have hc0 : ((bs.map brow).length : Int) > 1048576 := by simp; omega
    refine E_start (h := ?_)
    repeat' (first | refine c0 ?_ | refine c1 ?_ | refine c7 ?_ | refine d2 ?_ | refine c9 ?_ | refine d4 ?_ | refine a5 (hk := ?_) | refine u7 (hk := ?_))
    exact rB (hv := rfl)
  · have hc0 : ¬ (((bs.map brow).length : Int) > 1048576) := by simp; omega
    refine E_start (h := ?_)
    repeat' (first | refine c0 ?_ | refine c7 ?_ | refine d2 ?_ | refine d0 ?_ | refine d4 ?_ | refine a5 (hk := ?_) | refine u8 (hk := ?_))
    refine kX (he := k_DrawLeakOf bs _) (hk := ?_)
    rintro v S2 ⟨rfl, ls, ss, h, rfl, hs, hl, hh1, hh2⟩
    cases hr : leakOf ls ss h with
    | none =>
      have f1 : ∀ S, Ev Y spec_LeakOf [PR ls ss, I h] S (.tup [L [], L [], .bool false]) S := fun S => by
        have := k_spec_LeakOf ls ss h S (by omega) (by omega)
        rw [hr] at this; exact this
      have f2 : ∀ S, Ev Y impl_LeakOf [PR ls ss, I h] S (.tup [L [], L [], .bool false]) S := fun S => by
        have := k_impl_LeakOf ls ss h S (by omega) (by omega)
        rw [hr] at this; exact this
      repeat' (first | refine c0 ?_ | refine c1 ?_ | refine c7 ?_ | refine d2 ?_ | refine c9 ?_ | refine d4 ?_ | refine k0 (he := (by first | exact f1 _ | exact f2 _)) (hk := ?_) | refine b0 (hk := ?_) | refine a2 (hk := ?_) | refine a5 (hk := ?_) | refine b5 (hk := ?_) | refine b7 (hk := ?_) | refine d6 (ht := ?_))
      exact rB (hv := rfl)
    | some p =>
      obtain ⟨k, i⟩ := p
      obtain ⟨w1, w2, w3, w4, w5, w6⟩ := leak_found hr
      obtain ⟨y1, y2, y3, y4⟩ := progOk_in w1
      have hrl := fun m => row2_len m ls.length
      have f1 : ∀ S, Ev Y spec_LeakOf [PR ls ss, I h] S (.tup [L (row2 k ls.length), L (row2 i ls.length), .bool true]) S := fun S => by
        have := k_spec_LeakOf ls ss h S (by omega) (by omega)
        rw [hr] at this; exact this
      have f2 : ∀ S, Ev Y impl_LeakOf [PR ls ss, I h] S (.tup [L (row2 k ls.length), L (row2 i ls.length), .bool true]) S := fun S => by
        have := k_impl_LeakOf ls ss h S (by omega) (by omega)
        rw [hr] at this; exact this
      have hne : ls.isEmpty = false := by
        cases ls with
        | nil => simp at w4; omega
        | cons a b => rfl
      have ht := fun S => k_impl_TurnProg ls ss S w1 hne
      have hsg := sig_next w2
      have f3 : ∀ S, Ev Y impl_LeakOf [PR (ls.map turnL) (turnS ss), I ((IntKind.i64.wrap (h + 1)).tmod 3)] S (.tup [L (row2 k ls.length), L (row2 i ls.length), .bool true]) S := fun S => by
        have := k_impl_LeakOf (ls.map turnL) (turnS ss) (sig h) S (by rw [turnS_sz]; omega) (by simp; omega)
        rw [turn_leak w1 w2, hr, List.length_map] at this
        rw [hsg]; exact this
      repeat' (first | refine c0 ?_ | refine c7 ?_ | refine d2 ?_ | refine c9 ?_ | refine d0 ?_ | refine d4 ?_ | refine k0 (he := (by first | exact f1 _ | exact f2 _ | exact lcInts_eq _ _ (by rw [hrl]; omega) | exact ht _ | exact f3 _)) (hk := ?_) | refine b0 (hk := ?_) | refine a1 (hk := ?_) | refine a2 (hk := ?_) | refine a5 (hk := ?_) | refine b5 (hk := ?_) | refine b7 (hk := ?_) | refine d7 (hf := ?_))
      exact rB (hv := rfl)
end Go.Proofs.X
end
