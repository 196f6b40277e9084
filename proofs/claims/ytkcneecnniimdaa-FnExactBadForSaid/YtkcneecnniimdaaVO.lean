/- Rules for symbolic runs. -/
import Derived.Test.YtkcneecnniimdaaVN
namespace Go.Proofs.XVai
open Go
set_option linter.unusedVariables false
set_option linter.unusedSimpArgs false

/-- A list of operations: of a region in the order of its text (none), or from its i-th operation on of one that draws its order and has no effects (some (base, i)). -/
def WX (Y : Sys) (fid : Nat) (ops : Array Oper) (md : Option (Nat × Nat)) (l : List Oper) (T : Tm) (S : St) (K : Tm → St → Prop) : Prop := match md with
  | none => WO Y fid ops l T S K
  | some (base, i) => ∀ L : List Log, (∀ x ∈ L, ∀ A B, x.eff = some (A, B) → A = B) → ∃ m T' S', copsD Y fid (ccall Y m) ops base i l L T S = some (T', S') ∧ K T' S'
def plOf : Option (Nat × Nat) → Option Nat
  | none => none
  | some (b, i) => some (b + i)
def nxt : Option (Nat × Nat) → Option (Nat × Nat)
  | none => none
  | some (b, i) => some (b, i + 1)
/-- Operations that make and change nothing. -/
def still : Op → Bool
  | .move _ | .assign _ | .pick .. | .load .. | .nilCheck _ | .binOp .. | .unOp .. | .convert .. | .makeFunc .. | .fieldAddr .. | .indexAddr .. | .index .. | .lookup .. | .extract .. => true
  | .call { callee := .builtin .len, .. } | .call { callee := .builtin .max, .. } => true
  | _ => false
def okStep (md : Option (Nat × Nat)) (op : Op) (S S' : St) : Prop := match md with
  | none => True
  | some _ => still op = true ∧ S' = S

section
variable {Y : Sys} {fid : Nat} {T : Tm} {S : St} {Q : Ex → Tm → St → Prop} {K : Tm → St → Prop} {ops : Array Oper} {md : Option (Nat × Nat)} {l : List Oper} {S' : St} {dst : Option Tmp} {op : Op} {ty : TypeId} {pos : String} {after : Array Edge}

theorem W_reg {id : Nat} {l : List Oper} (h : WX Y fid l.toArray none l T S (Q .norm)) : W Y fid (.region id l.toArray false) T S Q := W_region h
theorem W_regD {id : Nat} {l : List Oper} {n : Nat} (hn : l.length = n) (h : WX Y fid l.toArray (some (S.length, 0)) l T (S ++ List.replicate n .dummy) (Q .norm)) : W Y fid (.region id l.toArray true) T S Q := by
  subst hn
  obtain ⟨m, T', S', h1, h2⟩ := h [] (by simp)
  exact ⟨m, _, T', S', by simp only [crun]; simp only [List.size_toArray]; rw [h1], h2⟩

theorem W_regL {id : Nat} {l : List Oper} {S0 L : St} {n : Nat} (hn : l.length = n) (h : WX Y fid l.toArray (some ((S0 ++ L).length, 0)) l T (S0 ++ (L ++ List.replicate n .dummy)) (Q .norm)) : W Y fid (.region id l.toArray true) T (S0 ++ L) Q :=
  W_regD hn (by rw [List.append_assoc]; exact h)

theorem W_unroll {b : Code} (h : W Y fid b T S (Then (fun T' S' => W Y fid (.loop b) T' S' Q) Q)) : W Y fid (.loop b) T S Q := by
  obtain ⟨m, ex, T', S', h1, h2⟩ := h
  have one : ∀ (m' : Nat), m ≤ m' → crun Y fid (ccall Y m') m' b T S = some (ex, T', S') := fun m' hm => crun_mono (ccall_mono hm) hm _ _ _ _ h1
  cases ex with
  | norm =>
    obtain ⟨m2, ex2, T2, S2, h3, h4⟩ := h2
    simp only [crun] at h3
    refine ⟨max m m2 + 1, ex2, T2, S2, ?_, h4⟩
    simp only [crun, iter]
    rw [one _ (by omega)]
    exact iter_mono (fun T S r h => crun_mono (ccall_mono (by omega)) (by omega) _ _ _ _ h) m2 _ _ _ _ (by omega) h3
  | exit id => exact ⟨m + 1, _, _, _, by simp only [crun, iter]; rw [one _ (by omega)], h2⟩
  | ret => exact ⟨m + 1, _, _, _, by simp only [crun, iter]; rw [one _ (by omega)], h2⟩
theorem W_condT {c : Operand} {a b : Code} (h : ev T c = .bool true) (ht : W Y fid a T S Q) : W Y fid (.cond c a b) T S Q := W_cond h (fun _ => ht) (fun h => by cases h)
theorem W_condF {c : Operand} {a b : Code} (h : ev T c = .bool false) (hf : W Y fid b T S Q) : W Y fid (.cond c a b) T S Q := W_cond h (fun h => by cases h) (fun _ => hf)

theorem W_cond2 {c : Operand} {x y : Code} {b : Bool} {p : Prop} {_i : Decidable p} (h : ev T c = .bool b) (hb : b = decide p) (ht : p → W Y fid x T S Q) (hf : ¬ p → W Y fid y T S Q) : W Y fid (.cond c x y) T S Q :=
  W_cond h (fun h => ht (of_decide_eq_true (hb ▸ h))) (fun h => hf (of_decide_eq_false (hb ▸ h)))
theorem W_cond1 {c : Operand} {x y : Code} {b : Bool} (h : ev T c = .bool b) (ht : b = true → W Y fid x T S Q) (hf : b = false → W Y fid y T S Q) : W Y fid (.cond c x y) T S Q := W_cond h ht hf

theorem WX_nil (h : K T S) : WX Y fid ops md [] T S K := by
  cases md with
  | none => exact WO_nil h
  | some p => exact fun L _ => ⟨0, T, S, by simp [copsD], h⟩

theorem still_isE {o : Oper} (h : still o.op = true) : isE o = false := by
  obtain ⟨dst, op, ty, pos, after, guard⟩ := o
  cases op with
  | call c =>
    obtain ⟨callee, args, ats⟩ := c
    cases callee with
    | builtin b => cases b <;> first | rfl | (simp [still] at h)
    | _ => simp [still] at h
  | _ => first | rfl | (simp [still] at h)

theorem WX_step {base i : Nat} {o : Oper} {v : HV} (hw : wantedC ops o T = true) (h : ∃ m, cop Y fid (ccall Y m) (some (base + i)) o T S = some (v, S)) (hq : quietOp o T (base + i) S S) (hk : WX Y fid ops (some (base, i + 1)) l (put T o.dst v) S K) : WX Y fid ops (some (base, i)) (o :: l) T S K := by
  intro L hL
  obtain ⟨m1, h1⟩ := h
  obtain ⟨m, T2, S2, h2, h3⟩ := hk (L ++ [⟨i, if isE o then [] else reads o T, if isE o then some (S, S) else none⟩]) (fun x hx => by
    rcases List.mem_append.1 hx with hx | hx
    · exact hL x hx
    · simp only [List.mem_singleton] at hx; subst hx
      intro A B hAB
      cases hE : isE o <;> simp [hE] at hAB
      rw [← hAB.1, ← hAB.2])
  refine ⟨max m1 m, T2, S2, ?_, h3⟩
  simp only [copsD, hw, if_true]
  rw [cop_mono (ccall_mono (Nat.le_max_left m1 m)) h1]
  have hc : quietOp o T (base + i) S S ∧ ∀ x ∈ L, apartL ops x ⟨i, if isE o then [] else reads o T, if isE o then some (S, S) else none⟩ := by
    refine ⟨hq, fun x hx => .inr ⟨(fun A B hAB k _ => by rw [hL x hx A B hAB]; rfl), (fun A B hAB k _ => ?_)⟩⟩
    cases hE : isE o <;> simp [hE] at hAB
    rw [← hAB.1, ← hAB.2]; rfl
  simp only
  rw [if_pos hc]
  exact copsD_mono (ccall_mono (Nat.le_max_right m1 m)) _ _ _ _ _ _ h2
theorem WX_run {o : Oper} {v : HV} (hw : wantedC ops o T = true) (h : cop Y fid noCall (plOf md) o T S = some (v, S')) (hs : okStep md o.op S S') (hk : WX Y fid ops (nxt md) l (put T o.dst v) S' K) : WX Y fid ops md (o :: l) T S K := by
  cases md with
  | none => exact WO_run hw ⟨0, cop_mono (noCall_le _) h⟩ hk
  | some p =>
    obtain ⟨base, i⟩ := p
    obtain ⟨hst, rfl⟩ := hs
    refine WX_step hw ⟨0, cop_mono (noCall_le _) h⟩ (fun _ => ⟨rfl, fun _ _ => rfl, ?_⟩) hk
    obtain ⟨dst, op, ty, pos, after, guard⟩ := o
    cases op <;> first | trivial | (simp [still] at hst)
theorem WX_skip {o : Oper} (hw : wantedC ops o T = false) (hk : WX Y fid ops (nxt md) l (put T o.dst (.tup [])) S K) : WX Y fid ops md (o :: l) T S K := by
  cases md with
  | none => exact WO_skip hw hk
  | some p =>
    obtain ⟨base, i⟩ := p
    intro L hL
    obtain ⟨m, T2, S2, h2, h3⟩ := hk L hL
    exact ⟨m, T2, S2, by simp only [copsD, hw, Bool.false_eq_true, if_false]; exact h2, h3⟩

def wantG (ops : Array Oper) (g : Option (Nat × Bool)) (T : Tm) : Bool := wantedC ops ⟨none, .move (.const (.bool true)), 0, "", #[], g⟩ T
theorem WX_op {g0 : Option (Nat × Bool)} (hg : wantG ops g0 T = true) {v : HV} (h : cop Y fid noCall (plOf md) ⟨dst, op, ty, pos, after, g0⟩ T S = some (v, S')) (hs : okStep md op S S') (hk : WX Y fid ops (nxt md) l (put T dst v) S' K) : WX Y fid ops md (⟨dst, op, ty, pos, after, g0⟩ :: l) T S K := WX_run hg h hs hk
theorem WX_int {g0 : Option (Nat × Bool)} (hg : wantG ops g0 T = true) {k : IntKind} {n : Int} (h : cop Y fid noCall (plOf md) ⟨dst, op, ty, pos, after, g0⟩ T S = some (.int k n, S')) (hs : okStep md op S S') (hk : WX Y fid ops (nxt md) l (put T dst (.int k n)) S' K) : WX Y fid ops md (⟨dst, op, ty, pos, after, g0⟩ :: l) T S K := WX_op hg h hs hk
theorem WX_bool {g0 : Option (Nat × Bool)} (hg : wantG ops g0 T = true) {b : Bool} (h : cop Y fid noCall (plOf md) ⟨dst, op, ty, pos, after, g0⟩ T S = some (.bool b, S')) (hs : okStep md op S S') (hk : WX Y fid ops (nxt md) l (put T dst (.bool b)) S' K) : WX Y fid ops md (⟨dst, op, ty, pos, after, g0⟩ :: l) T S K := WX_op hg h hs hk
theorem WX_str {g0 : Option (Nat × Bool)} (hg : wantG ops g0 T = true) {b : ByteArray} (h : cop Y fid noCall (plOf md) ⟨dst, op, ty, pos, after, g0⟩ T S = some (.str b, S')) (hs : okStep md op S S') (hk : WX Y fid ops (nxt md) l (put T dst (.str b)) S' K) : WX Y fid ops md (⟨dst, op, ty, pos, after, g0⟩ :: l) T S K := WX_op hg h hs hk
theorem WX_lst {g0 : Option (Nat × Bool)} (hg : wantG ops g0 T = true) {r : List (List HV)} (h : cop Y fid noCall (plOf md) ⟨dst, op, ty, pos, after, g0⟩ T S = some (.lst r, S')) (hs : okStep md op S S') (hk : WX Y fid ops (nxt md) l (put T dst (.lst r)) S' K) : WX Y fid ops md (⟨dst, op, ty, pos, after, g0⟩ :: l) T S K := WX_op hg h hs hk
theorem WX_agg {g0 : Option (Nat × Bool)} (hg : wantG ops g0 T = true) {r : List HV} (h : cop Y fid noCall (plOf md) ⟨dst, op, ty, pos, after, g0⟩ T S = some (.agg r, S')) (hs : okStep md op S S') (hk : WX Y fid ops (nxt md) l (put T dst (.agg r)) S' K) : WX Y fid ops md (⟨dst, op, ty, pos, after, g0⟩ :: l) T S K := WX_op hg h hs hk
theorem WX_tup {g0 : Option (Nat × Bool)} (hg : wantG ops g0 T = true) {r : List HV} (h : cop Y fid noCall (plOf md) ⟨dst, op, ty, pos, after, g0⟩ T S = some (.tup r, S')) (hs : okStep md op S S') (hk : WX Y fid ops (nxt md) l (put T dst (.tup r)) S' K) : WX Y fid ops md (⟨dst, op, ty, pos, after, g0⟩ :: l) T S K := WX_op hg h hs hk
theorem WX_ptr {g0 : Option (Nat × Bool)} (hg : wantG ops g0 T = true) {k n i o : Nat} (h : cop Y fid noCall (plOf md) ⟨dst, op, ty, pos, after, g0⟩ T S = some (.ptr k n i o, S')) (hs : okStep md op S S') (hk : WX Y fid ops (nxt md) l (put T dst (.ptr k n i o)) S' K) : WX Y fid ops md (⟨dst, op, ty, pos, after, g0⟩ :: l) T S K := WX_op hg h hs hk
theorem WX_iptr {g0 : Option (Nat × Bool)} (hg : wantG ops g0 T = true) {r : List (List HV)} {i o : Nat} (h : cop Y fid noCall (plOf md) ⟨dst, op, ty, pos, after, g0⟩ T S = some (.iptr r i o, S')) (hs : okStep md op S S') (hk : WX Y fid ops (nxt md) l (put T dst (.iptr r i o)) S' K) : WX Y fid ops md (⟨dst, op, ty, pos, after, g0⟩ :: l) T S K := WX_op hg h hs hk
theorem WX_sl {g0 : Option (Nat × Bool)} (hg : wantG ops g0 T = true) {k n : Nat} (h : cop Y fid noCall (plOf md) ⟨dst, op, ty, pos, after, g0⟩ T S = some (.sl k n, S')) (hs : okStep md op S S') (hk : WX Y fid ops (nxt md) l (put T dst (.sl k n)) S' K) : WX Y fid ops md (⟨dst, op, ty, pos, after, g0⟩ :: l) T S K := WX_op hg h hs hk
theorem WX_fn {g0 : Option (Nat × Bool)} (hg : wantG ops g0 T = true) {f : Nat} {cs : List HV} (h : cop Y fid noCall (plOf md) ⟨dst, op, ty, pos, after, g0⟩ T S = some (.fn f cs, S')) (hs : okStep md op S S') (hk : WX Y fid ops (nxt md) l (put T dst (.fn f cs)) S' K) : WX Y fid ops md (⟨dst, op, ty, pos, after, g0⟩ :: l) T S K := WX_op hg h hs hk
theorem WX_map {g0 : Option (Nat × Bool)} (hg : wantG ops g0 T = true) {k : Nat} (h : cop Y fid noCall (plOf md) ⟨dst, op, ty, pos, after, g0⟩ T S = some (.map k, S')) (hs : okStep md op S S') (hk : WX Y fid ops (nxt md) l (put T dst (.map k)) S' K) : WX Y fid ops md (⟨dst, op, ty, pos, after, g0⟩ :: l) T S K := WX_op hg h hs hk
theorem WX_gp {g0 : Option (Nat × Bool)} (hg : wantG ops g0 T = true) {g : Nat} (h : cop Y fid noCall (plOf md) ⟨dst, op, ty, pos, after, g0⟩ T S = some (.gp g, S')) (hs : okStep md op S S') (hk : WX Y fid ops (nxt md) l (put T dst (.gp g)) S' K) : WX Y fid ops md (⟨dst, op, ty, pos, after, g0⟩ :: l) T S K := WX_op hg h hs hk
theorem WX_nils {g0 : Option (Nat × Bool)} (hg : wantG ops g0 T = true)  (h : cop Y fid noCall (plOf md) ⟨dst, op, ty, pos, after, g0⟩ T S = some (.nils, S')) (hs : okStep md op S S') (hk : WX Y fid ops (nxt md) l (put T dst (.nils)) S' K) : WX Y fid ops md (⟨dst, op, ty, pos, after, g0⟩ :: l) T S K := WX_op hg h hs hk
theorem WX_nilptr {g0 : Option (Nat × Bool)} (hg : wantG ops g0 T = true)  (h : cop Y fid noCall (plOf md) ⟨dst, op, ty, pos, after, g0⟩ T S = some (.nilptr, S')) (hs : okStep md op S S') (hk : WX Y fid ops (nxt md) l (put T dst (.nilptr)) S' K) : WX Y fid ops md (⟨dst, op, ty, pos, after, g0⟩ :: l) T S K := WX_op hg h hs hk
theorem WX_nilfn {g0 : Option (Nat × Bool)} (hg : wantG ops g0 T = true)  (h : cop Y fid noCall (plOf md) ⟨dst, op, ty, pos, after, g0⟩ T S = some (.nilfn, S')) (hs : okStep md op S S') (hk : WX Y fid ops (nxt md) l (put T dst (.nilfn)) S' K) : WX Y fid ops md (⟨dst, op, ty, pos, after, g0⟩ :: l) T S K := WX_op hg h hs hk
theorem WX_nilmap {g0 : Option (Nat × Bool)} (hg : wantG ops g0 T = true)  (h : cop Y fid noCall (plOf md) ⟨dst, op, ty, pos, after, g0⟩ T S = some (.nilmap, S')) (hs : okStep md op S S') (hk : WX Y fid ops (nxt md) l (put T dst (.nilmap)) S' K) : WX Y fid ops md (⟨dst, op, ty, pos, after, g0⟩ :: l) T S K := WX_op hg h hs hk

/-- A call, in a region in the order of its text. -/
theorem WX_call {g0 : Option (Nat × Bool)} (hg : wantG ops g0 T = true) {v : HV} {S1 : St} {f : Operand} {args : Array Operand} {ats : Array TypeId} {g : Nat} {caps args' : List HV}
    (hf : ev T f = .fn g caps) (hb : Y.byref g = false) (ha : mapMS (frzV 0) (args.toList.map (ev T)) S = some (args', S1)) (he : Ev Y g (args' ++ caps) S1 v S') (hk : WX Y fid ops none l (put T dst v) S' K) :
    WX Y fid ops none (⟨dst, .call ⟨.value f, args, ats⟩, ty, pos, after, g0⟩ :: l) T S K := by
  obtain ⟨m, hm⟩ := he
  exact WO_run hg ⟨m, by simp only [cop, hf, hb, Bool.false_eq_true, if_false, ha, hm]⟩ hk
theorem WX_callR {g0 : Option (Nat × Bool)} (hg : wantG ops g0 T = true) {v : HV} {f : Operand} {args : Array Operand} {ats : Array TypeId} {g : Nat} {caps : List HV}
    (hf : ev T f = .fn g caps) (hb : Y.byref g = true) (he : Ev Y g (args.toList.map (ev T) ++ caps) S v S') (hk : WX Y fid ops none l (put T dst v) S' K) :
    WX Y fid ops none (⟨dst, .call ⟨.value f, args, ats⟩, ty, pos, after, g0⟩ :: l) T S K := by
  obtain ⟨m, hm⟩ := he
  exact WO_run hg ⟨m, by simp only [cop, hf, hb, if_true, hm]⟩ hk


/-! ### memory -/
theorem get_own {S0 L : St} {j : Nat} {o : Ob} (h : L[j]? = some o) : (S0 ++ L)[S0.length + j]? = some o := by
  rw [List.getElem?_append_right (by omega)]; simpa using h
theorem get_old {S0 L : St} {k : Nat} {o : Ob} (h : S0[k]? = some o) : (S0 ++ L)[k]? = some o := by
  rw [List.getElem?_append_left (List.getElem?_eq_some_iff.1 h).1]; exact h
theorem set_own {S0 L : St} {j : Nat} {o : Ob} : (S0 ++ L).set (S0.length + j) o = S0 ++ L.set j o := by
  rw [List.set_append_right _ _ (by omega)]; simp
theorem set_old {S0 L : St} {k : Nat} {o o' : Ob} (h : S0[k]? = some o') : (S0 ++ L).set k o = S0.set k o ++ L := by
  rw [List.set_append_left _ _ (List.getElem?_eq_some_iff.1 h).1]
theorem map_get {α β : Type} {f : α → β} {xs : List α} {i : Nat} {x : α} (h : xs[i]? = some x) : (xs.map f)[i]? = some (f x) := by rw [List.getElem?_map, h]; rfl
theorem put_self {T : Tm} {d : Nat} {v : HV} (h : T d = v) : put T (some d) v = T := by
  funext t; simp only [put, upd]; split
  · rename_i e; rw [e, h]
  · rfl
def putL (T : Tm) : List (Nat × HV) → Tm
  | [] => T
  | (d, v) :: r => put (putL T r) (some d) v
def Ats (T : Tm) : List (Nat × HV) → Prop
  | [] => True
  | (d, v) :: r => T d = v ∧ Ats T r
theorem at_mk {T : Tm} : ∀ {l : List (Nat × HV)}, Ats T l → T = putL T l := by
  intro l
  induction l with
  | nil => intro _; rfl
  | cons p l ih =>
    intro h
    obtain ⟨d, v⟩ := p
    simp only [putL]
    rw [← ih h.2]; exact (put_self h.1).symm
theorem len_own {S0 L : St} {n : Nat} (h : L.length = n) : (S0 ++ L).length = S0.length + n := by rw [List.length_append, h]

theorem WX_alloc {g0 : Option (Nat × Bool)} (hg : wantG ops g0 T = true) {t : TypeId} {S0 L L' : St} {ti : TI} {n : Nat} (h1 : Y.tab t = some ti) (hn : L.length = n) (hL : L ++ [.cells false [ti.zero]] = L') (hk : WX Y fid ops none l (put T dst (.ptr (S0.length + n) 1 0 0)) (S0 ++ L') K) :
    WX Y fid ops none (⟨dst, .alloc t, ty, pos, after, g0⟩ :: l) T (S0 ++ L) K := by
  subst hL
  refine WX_op hg (v := .ptr (S0.length + n) 1 0 0) ?_ trivial hk
  simp only [cop, h1, plOf, newOb, len_own hn, List.append_assoc]
theorem WX_box {g0 : Option (Nat × Bool)} (hg : wantG ops g0 T = true) {t : TypeId} {x : Operand} {S0 L L' : St} {c : HV} {n : Nat} (hx : ev T x = c) (hn : L.length = n) (hL : L ++ [.cells false [c.cells]] = L') (hk : WX Y fid ops none l (put T dst (.ptr (S0.length + n) 1 0 0)) (S0 ++ L') K) :
    WX Y fid ops none (⟨dst, .box t x, ty, pos, after, g0⟩ :: l) T (S0 ++ L) K := by
  subst hL
  refine WX_op hg (v := .ptr (S0.length + n) 1 0 0) ?_ trivial hk
  simp only [cop, hx, plOf, newOb, len_own hn, List.append_assoc]

theorem WX_load {g0 : Option (Nat × Bool)} (hg : wantG ops g0 T = true) {t : TypeId} {x : Operand} {ti : TI} {k n i o : Nat} {fr : Bool} {rows : List (List HV)} {row : List HV} {v : HV} (h1 : Y.tab t = some ti) (h2 : ev T x = .ptr k n i o) (h3 : S[k]? = some (.cells fr rows)) (h4 : rows.length = n)
    (h5 : rows[i]? = some row) (h6 : part ti.agg ti.size row o = some v) (hk : WX Y fid ops (nxt md) l (put T dst v) S K) : WX Y fid ops md (⟨dst, .load t x, ty, pos, after, g0⟩ :: l) T S K := by
  refine WX_op hg (v := v) ?_ (by cases md <;> first | trivial | exact ⟨rfl, rfl⟩) hk
  simp only [cop, cload, h1, getRow, h2, h3, h4, if_true, h5, Option.map_some, h6]
theorem WX_loadI {g0 : Option (Nat × Bool)} (hg : wantG ops g0 T = true) {t : TypeId} {x : Operand} {ti : TI} {i o : Nat} {rows : List (List HV)} {row : List HV} {v : HV} (h1 : Y.tab t = some ti) (h2 : ev T x = .iptr rows i o)
    (h5 : rows[i]? = some row) (h6 : part ti.agg ti.size row o = some v) (hk : WX Y fid ops (nxt md) l (put T dst v) S K) : WX Y fid ops md (⟨dst, .load t x, ty, pos, after, g0⟩ :: l) T S K := by
  refine WX_op hg (v := v) ?_ (by cases md <;> first | trivial | exact ⟨rfl, rfl⟩) hk
  simp only [cop, cload, h1, getRow, h2, h5, Option.map_some, h6]
theorem WX_store {g0 : Option (Nat × Bool)} (hg : wantG ops g0 T = true) {t : TypeId} {x y : Operand} {z : Nat} {k n i o : Nat} {rows : List (List HV)} {row : List HV} {v : HV} (h1 : tsize Y t = some z) (h2 : ev T x = .ptr k n i o) (h3 : S[k]? = some (.cells false rows)) (h4 : rows.length = n)
    (h5 : rows[i]? = some row) (h6 : ev T y = v) (h7 : v.cells.length = z) (h8 : o + z ≤ row.length) (h9 : v.cells.all isCell = true) (h10 : S.set k (.cells false (rows.set i (setCells row o v.cells))) = S') (hk : WX Y fid ops none l (put T dst (.tup [])) S' K) :
    WX Y fid ops none (⟨dst, .store t x y, ty, pos, after, g0⟩ :: l) T S K := by
  refine WX_op hg (v := .tup []) ?_ trivial hk
  simp only [cop, cstore, h1, h2, h3, h4, h5, h6]
  rw [if_pos ⟨trivial, h7, h8, h9⟩, h10]; rfl

/-- The element of a slice that is known, by its number. -/
theorem WX_at {g0 : Option (Nat × Bool)} (hg : wantG ops g0 T = true) {t : TypeId} {x i : Operand} {ti : TI} {e : Nat} {rows : List (List HV)} {k : IntKind} {n : Int} {j : Nat} {r : List HV} (h1 : Y.tab t = some ti) (h2 : ti.sh = .slice e) (h3 : ev T x = .lst rows) (h4 : ev T i = .int k n)
    (h5 : n = (j : Int)) (h6 : rows[j]? = some r) (h7 : (some r.length) = tsize Y e) (hk : WX Y fid ops (nxt md) l (put T dst (.iptr rows j 0)) S K) : WX Y fid ops md (⟨dst, .indexAddr t x i, ty, pos, after, g0⟩ :: l) T S K := by
  have hj : j < rows.length := (List.getElem?_eq_some_iff.1 h6).1
  refine WX_op hg (v := .iptr rows j 0) ?_ (by cases md <;> first | trivial | exact ⟨rfl, rfl⟩) hk
  simp only [cop, cindexAddr, h1, h2, h3, h4, h5, asNat, Int.toNat_natCast]
  rw [if_pos (by omega)]
  simp only [h6, Option.map_some, h7, hj, and_self, if_true]
theorem WX_atS {g0 : Option (Nat × Bool)} (hg : wantG ops g0 T = true) {t : TypeId} {x i : Operand} {ti : TI} {e q m : Nat} {fr : Bool} {rows : List (List HV)} {k : IntKind} {n : Int} {j : Nat} {r : List HV} (h1 : Y.tab t = some ti) (h2 : ti.sh = .slice e) (h3 : ev T x = .sl q m) (h4 : ev T i = .int k n)
    (h5 : n = (j : Int)) (hS : S[q]? = some (.cells fr rows)) (hm : rows.length = m) (h6 : rows[j]? = some r) (h7 : (some r.length) = tsize Y e) (hk : WX Y fid ops (nxt md) l (put T dst (.ptr q m j 0)) S K) : WX Y fid ops md (⟨dst, .indexAddr t x i, ty, pos, after, g0⟩ :: l) T S K := by
  have hj : j < rows.length := (List.getElem?_eq_some_iff.1 h6).1
  subst hm
  refine WX_op hg (v := .ptr q rows.length j 0) ?_ (by cases md <;> first | trivial | exact ⟨rfl, rfl⟩) hk
  simp only [cop, cindexAddr, h1, h2, h3, h4, h5, asNat, Int.toNat_natCast, hS]
  rw [if_pos (by omega)]
  simp only [h6, Option.map_some, h7, hj, and_self, if_true]

theorem zrows_flat (fl : Nat → Bool) (z : List HV) : ∀ (n : Nat) (S : St), zrows fl false z n S = (List.replicate n z, S) := by
  intro n
  induction n with
  | zero => intro S; rfl
  | succ n ih => intro S; simp only [zrows, zrow, Bool.false_eq_true, if_false, ih]; rfl
theorem WX_make {g0 : Option (Nat × Bool)} (hg : wantG ops g0 T = true) {t : TypeId} {a b : Operand} {S0 L L' : St} {ti te : TI} {e n : Nat} {k k' : IntKind} {c : Nat} {z z' : Int} (h1 : Y.tab t = some ti) (h2 : ti.sh = .slice e) (h3 : Y.tab e = some te) (ha : ev T a = .int k z) (hb : ev T b = .int k' z') (hz : z = (c : Int)) (hz' : z' = (c : Int)) (hc : c ≤ lim) (hp : Y.prom fid = false) (hn : L.length = n)
    (hL : L ++ [.cells (!Y.muta fid 1000) (List.replicate c te.zero)] = L') (hk : WX Y fid ops none l (put T dst (.sl (S0.length + n) c)) (S0 ++ L') K) : WX Y fid ops none (⟨dst, .makeSlice t a b, ty, pos, after, g0⟩ :: l) T (S0 ++ L) K := by
  subst hL
  refine WX_op hg (v := .sl (S0.length + n) c) ?_ trivial hk
  subst hz; subst hz'
  simp only [cop, h1, h2, h3, ha, hb, plOf, hp, Bool.false_and, asNat, Int.toNat_natCast]
  simp [zrows_flat, newOb, len_own hn, hc]

open Classical in
theorem ret_val {f : Nat} {fn : Func} {T' : Tm} {S : St} {vs : List HV} {v : HV} {ex : Ex} (hx : ∀ id, ex ≠ .exit id) (hr : resVs Y T' S fn.results.toList = some vs) (hz : frzR S.length (resTup vs) S = some (resTup vs, S)) (hi : idR S.length (resTup vs) = true) (hv : resTup vs = v) :
    cret Y f fn S (some (ex, T', S)) = some (v, S) := by
  rw [ret_plain hx hr fun _ => ⟨hz, hi⟩, hv]
theorem ret_not : ∀ id, Ex.ret ≠ .exit id := fun _ h => by cases h
theorem norm_not : ∀ id, Ex.norm ≠ .exit id := fun _ h => by cases h

open Classical in
/-- A return that leaves what was there as it was, and forgets what is new. -/
theorem ret_own {f : Nat} {fn : Func} {T' : Tm} {S0 L L' : St} {vs : List HV} {v v' : HV} {ex : Ex} (hx : ∀ id, ex ≠ .exit id) (hkp : Y.keep f = false) (hr : resVs Y T' (S0 ++ L) fn.results.toList = some vs) (hz : frzR S0.length (resTup vs) (S0 ++ L) = some (v, S0 ++ L')) (hi : idR S0.length v = true) (hv : v = v') :
    cret Y f fn S0 (some (ex, T', S0 ++ L)) = some (v', S0) := by
  subst hv
  have hold : oldOk S0.length S0 (S0 ++ L') := ⟨by simp, fun k hk => .inl (List.getElem?_append_left hk)⟩
  have main : (match resVs Y T' (S0 ++ L) fn.results.toList with
    | some vs => if Y.keep f = true then some (resTup vs, S0 ++ L) else match frzR S0.length (resTup vs) (S0 ++ L) with
      | some (v, S2) => if idR S0.length v = true ∧ oldOk S0.length S0 S2 then some (v, S2.take S0.length) else none
      | none => none
    | none => none) = some (v, S0) := by
    rw [hr]
    simp only [hkp, hz]
    simp [hi, hold]
  cases ex with
  | exit id => exact absurd rfl (hx id)
  | norm => simp only [cret]; exact main
  | ret => simp only [cret]; exact main
theorem ret_int {f : Nat} {fn : Func} {T' : Tm} {S0 L : St} {k : IntKind} {n m : Int} {ex : Ex} (hx : ∀ id, ex ≠ .exit id) (hkp : Y.keep f = false) (hr : resVs Y T' (S0 ++ L) fn.results.toList = some [.int k n]) (hv : n = m) : cret Y f fn S0 (some (ex, T', S0 ++ L)) = some (.int k m, S0) :=
  ret_own hx hkp hr rfl rfl (by rw [hv]; rfl)
theorem ret_bool {f : Nat} {fn : Func} {T' : Tm} {S0 L : St} {n m : Bool} {ex : Ex} (hx : ∀ id, ex ≠ .exit id) (hkp : Y.keep f = false) (hr : resVs Y T' (S0 ++ L) fn.results.toList = some [.bool n]) (hv : n = m) : cret Y f fn S0 (some (ex, T', S0 ++ L)) = some (.bool m, S0) :=
  ret_own hx hkp hr rfl rfl (by rw [hv]; rfl)
theorem ret_cell {f : Nat} {fn : Func} {T' : Tm} {S0 L L' : St} {a : Tmp} {t : TypeId} {ti : TI} {k n i o : Nat} {fr : Bool} {rows : List (List HV)} {row : List HV} {v v' w : HV} {ex : Ex} (hx : ∀ id, ex ≠ .exit id) (hkp : Y.keep f = false) (hres : fn.results.toList = [.cell a t])
    (h1 : Y.tab t = some ti) (h2 : T' a = .ptr k n i o) (h3 : (S0 ++ L)[k]? = some (.cells fr rows)) (h4 : rows.length = n) (h5 : rows[i]? = some row) (h6 : part ti.agg ti.size row o = some v)
    (hz : frzR S0.length v (S0 ++ L) = some (v', S0 ++ L')) (hi : idR S0.length v' = true) (hv : v' = w) : cret Y f fn S0 (some (ex, T', S0 ++ L)) = some (w, S0) := by
  refine ret_own (vs := [v]) hx hkp ?_ hz hi hv
  rw [hres]
  simp only [resVs, resV, cload, h1, getRow, h2, h3, h4, if_true, h5, Option.map_some, h6]
theorem mapMS_same {α : Type} {f : α → St → Option (α × St)} {S : St} : ∀ {xs : List α}, (∀ x ∈ xs, f x S = some (x, S)) → mapMS f xs S = some (xs, S) := by
  intro xs
  induction xs with
  | nil => intro _; rfl
  | cons x xs ih =>
    intro h
    simp only [mapMS, h x (by simp), ih fun y hy => h y (by simp [hy])]
theorem frz_row {S0 L : St} {j n : Nat} {fr : Bool} {rows : List (List HV)} (hL : L[j]? = some (.cells fr rows)) (hn : rows.length = n) (hp : rows.all (fun r => r.all pureC) = true) :
    frzC S0.length 6 (.sl (S0.length + j) n) (S0 ++ L) = some (.lst rows, S0 ++ if fr then L else L.set j (.cells true rows)) := by
  have hm : mapMS (mapMS (frzC S0.length 5)) rows (S0 ++ L) = some (rows, S0 ++ L) := mapMS_same fun r hr => mapMS_same fun c hc => frzC_pure (List.all_eq_true.1 (List.all_eq_true.1 hp r hr) c hc)
  simp only [frzC]
  rw [if_neg (by omega), get_own hL]
  simp only [hn, if_true, hm, hp]
  cases fr with
  | true => simp
  | false => simp [set_own]
theorem ret_row {f : Nat} {fn : Func} {T' : Tm} {S0 L : St} {j n : Nat} {fr : Bool} {rows : List (List HV)} {v : HV} {ex : Ex} (hx : ∀ id, ex ≠ .exit id) (hkp : Y.keep f = false) (hr : resVs Y T' (S0 ++ L) fn.results.toList = some [.sl (S0.length + j) n])
    (hL : L[j]? = some (.cells fr rows)) (hn : rows.length = n) (hp : rows.all (fun r => r.all pureC) = true) (hv : .lst rows = v) : cret Y f fn S0 (some (ex, T', S0 ++ L)) = some (v, S0) :=
  ret_own hx hkp hr (frz_row hL hn hp) rfl hv
theorem Ev_start {f : Nat} {fn : Func} {c : Code} {args : List HV} {v : HV} (hf : Y.fn f = some fn) (hb : fn.body = some c) (hl : args.length ≤ fn.ntmps)
    (h : W Y f c (tm0 args) (S ++ []) (fun ex T' S1 => cret Y f fn S (some (ex, T', S1)) = some (v, S'))) : Ev Y f args S v S' := Ev_intro hf hb hl (by rw [List.append_nil] at h; exact h)
end

/-! ### the same rules, for each of the two kinds of region -/
section
variable {Y : Sys} {fid : Nat} {T : Tm} {S : St} {Q : Ex → Tm → St → Prop} {K : Tm → St → Prop} {ops : Array Oper} {l : List Oper} {S' : St} {dst : Option Tmp} {op : Op} {ty : TypeId} {pos : String} {after : Array Edge}
theorem A_op {g0 : Option (Nat × Bool)} (hg : wantG ops g0 T = true) {v : HV} (h : cop Y fid noCall none ⟨dst, op, ty, pos, after, g0⟩ T S = some (v, S')) (hk : WX Y fid ops none l (put T dst v) S' K) : WX Y fid ops none (⟨dst, op, ty, pos, after, g0⟩ :: l) T S K := WX_op hg (md := none) h trivial hk
theorem D_op {g0 : Option (Nat × Bool)} (hg : wantG ops g0 T = true) {bs ix : Nat} {v : HV} (h : cop Y fid noCall (some (bs + ix)) ⟨dst, op, ty, pos, after, g0⟩ T S = some (v, S)) (hs : still op = true) (hk : WX Y fid ops (some (bs, ix + 1)) l (put T dst v) S K) : WX Y fid ops (some (bs, ix)) (⟨dst, op, ty, pos, after, g0⟩ :: l) T S K := WX_op hg (md := some (bs, ix)) h ⟨hs, rfl⟩ hk
theorem A_int {g0 : Option (Nat × Bool)} (hg : wantG ops g0 T = true) {k : IntKind} {n : Int} (h : cop Y fid noCall none ⟨dst, op, ty, pos, after, g0⟩ T S = some (.int k n, S')) (hk : WX Y fid ops none l (put T dst (.int k n)) S' K) : WX Y fid ops none (⟨dst, op, ty, pos, after, g0⟩ :: l) T S K := WX_int (md := none) hg h trivial hk
theorem D_int {g0 : Option (Nat × Bool)} (hg : wantG ops g0 T = true) {bs ix : Nat} {k : IntKind} {n : Int} (h : cop Y fid noCall (some (bs + ix)) ⟨dst, op, ty, pos, after, g0⟩ T S = some (.int k n, S)) (hs : still op = true) (hk : WX Y fid ops (some (bs, ix + 1)) l (put T dst (.int k n)) S K) : WX Y fid ops (some (bs, ix)) (⟨dst, op, ty, pos, after, g0⟩ :: l) T S K := WX_int (md := some (bs, ix)) hg h ⟨hs, rfl⟩ hk
theorem A_bool {g0 : Option (Nat × Bool)} (hg : wantG ops g0 T = true) {b : Bool} (h : cop Y fid noCall none ⟨dst, op, ty, pos, after, g0⟩ T S = some (.bool b, S')) (hk : WX Y fid ops none l (put T dst (.bool b)) S' K) : WX Y fid ops none (⟨dst, op, ty, pos, after, g0⟩ :: l) T S K := WX_bool (md := none) hg h trivial hk
theorem D_bool {g0 : Option (Nat × Bool)} (hg : wantG ops g0 T = true) {bs ix : Nat} {b : Bool} (h : cop Y fid noCall (some (bs + ix)) ⟨dst, op, ty, pos, after, g0⟩ T S = some (.bool b, S)) (hs : still op = true) (hk : WX Y fid ops (some (bs, ix + 1)) l (put T dst (.bool b)) S K) : WX Y fid ops (some (bs, ix)) (⟨dst, op, ty, pos, after, g0⟩ :: l) T S K := WX_bool (md := some (bs, ix)) hg h ⟨hs, rfl⟩ hk
theorem A_str {g0 : Option (Nat × Bool)} (hg : wantG ops g0 T = true) {b : ByteArray} (h : cop Y fid noCall none ⟨dst, op, ty, pos, after, g0⟩ T S = some (.str b, S')) (hk : WX Y fid ops none l (put T dst (.str b)) S' K) : WX Y fid ops none (⟨dst, op, ty, pos, after, g0⟩ :: l) T S K := WX_str (md := none) hg h trivial hk
theorem D_str {g0 : Option (Nat × Bool)} (hg : wantG ops g0 T = true) {bs ix : Nat} {b : ByteArray} (h : cop Y fid noCall (some (bs + ix)) ⟨dst, op, ty, pos, after, g0⟩ T S = some (.str b, S)) (hs : still op = true) (hk : WX Y fid ops (some (bs, ix + 1)) l (put T dst (.str b)) S K) : WX Y fid ops (some (bs, ix)) (⟨dst, op, ty, pos, after, g0⟩ :: l) T S K := WX_str (md := some (bs, ix)) hg h ⟨hs, rfl⟩ hk
theorem A_lst {g0 : Option (Nat × Bool)} (hg : wantG ops g0 T = true) {r : List (List HV)} (h : cop Y fid noCall none ⟨dst, op, ty, pos, after, g0⟩ T S = some (.lst r, S')) (hk : WX Y fid ops none l (put T dst (.lst r)) S' K) : WX Y fid ops none (⟨dst, op, ty, pos, after, g0⟩ :: l) T S K := WX_lst (md := none) hg h trivial hk
theorem D_lst {g0 : Option (Nat × Bool)} (hg : wantG ops g0 T = true) {bs ix : Nat} {r : List (List HV)} (h : cop Y fid noCall (some (bs + ix)) ⟨dst, op, ty, pos, after, g0⟩ T S = some (.lst r, S)) (hs : still op = true) (hk : WX Y fid ops (some (bs, ix + 1)) l (put T dst (.lst r)) S K) : WX Y fid ops (some (bs, ix)) (⟨dst, op, ty, pos, after, g0⟩ :: l) T S K := WX_lst (md := some (bs, ix)) hg h ⟨hs, rfl⟩ hk
theorem A_agg {g0 : Option (Nat × Bool)} (hg : wantG ops g0 T = true) {r : List HV} (h : cop Y fid noCall none ⟨dst, op, ty, pos, after, g0⟩ T S = some (.agg r, S')) (hk : WX Y fid ops none l (put T dst (.agg r)) S' K) : WX Y fid ops none (⟨dst, op, ty, pos, after, g0⟩ :: l) T S K := WX_agg (md := none) hg h trivial hk
theorem D_agg {g0 : Option (Nat × Bool)} (hg : wantG ops g0 T = true) {bs ix : Nat} {r : List HV} (h : cop Y fid noCall (some (bs + ix)) ⟨dst, op, ty, pos, after, g0⟩ T S = some (.agg r, S)) (hs : still op = true) (hk : WX Y fid ops (some (bs, ix + 1)) l (put T dst (.agg r)) S K) : WX Y fid ops (some (bs, ix)) (⟨dst, op, ty, pos, after, g0⟩ :: l) T S K := WX_agg (md := some (bs, ix)) hg h ⟨hs, rfl⟩ hk
theorem A_tup {g0 : Option (Nat × Bool)} (hg : wantG ops g0 T = true) {r : List HV} (h : cop Y fid noCall none ⟨dst, op, ty, pos, after, g0⟩ T S = some (.tup r, S')) (hk : WX Y fid ops none l (put T dst (.tup r)) S' K) : WX Y fid ops none (⟨dst, op, ty, pos, after, g0⟩ :: l) T S K := WX_tup (md := none) hg h trivial hk
theorem D_tup {g0 : Option (Nat × Bool)} (hg : wantG ops g0 T = true) {bs ix : Nat} {r : List HV} (h : cop Y fid noCall (some (bs + ix)) ⟨dst, op, ty, pos, after, g0⟩ T S = some (.tup r, S)) (hs : still op = true) (hk : WX Y fid ops (some (bs, ix + 1)) l (put T dst (.tup r)) S K) : WX Y fid ops (some (bs, ix)) (⟨dst, op, ty, pos, after, g0⟩ :: l) T S K := WX_tup (md := some (bs, ix)) hg h ⟨hs, rfl⟩ hk
theorem A_ptr {g0 : Option (Nat × Bool)} (hg : wantG ops g0 T = true) {k n i o : Nat} (h : cop Y fid noCall none ⟨dst, op, ty, pos, after, g0⟩ T S = some (.ptr k n i o, S')) (hk : WX Y fid ops none l (put T dst (.ptr k n i o)) S' K) : WX Y fid ops none (⟨dst, op, ty, pos, after, g0⟩ :: l) T S K := WX_ptr (md := none) hg h trivial hk
theorem D_ptr {g0 : Option (Nat × Bool)} (hg : wantG ops g0 T = true) {bs ix : Nat} {k n i o : Nat} (h : cop Y fid noCall (some (bs + ix)) ⟨dst, op, ty, pos, after, g0⟩ T S = some (.ptr k n i o, S)) (hs : still op = true) (hk : WX Y fid ops (some (bs, ix + 1)) l (put T dst (.ptr k n i o)) S K) : WX Y fid ops (some (bs, ix)) (⟨dst, op, ty, pos, after, g0⟩ :: l) T S K := WX_ptr (md := some (bs, ix)) hg h ⟨hs, rfl⟩ hk
theorem A_iptr {g0 : Option (Nat × Bool)} (hg : wantG ops g0 T = true) {r : List (List HV)} {i o : Nat} (h : cop Y fid noCall none ⟨dst, op, ty, pos, after, g0⟩ T S = some (.iptr r i o, S')) (hk : WX Y fid ops none l (put T dst (.iptr r i o)) S' K) : WX Y fid ops none (⟨dst, op, ty, pos, after, g0⟩ :: l) T S K := WX_iptr (md := none) hg h trivial hk
theorem D_iptr {g0 : Option (Nat × Bool)} (hg : wantG ops g0 T = true) {bs ix : Nat} {r : List (List HV)} {i o : Nat} (h : cop Y fid noCall (some (bs + ix)) ⟨dst, op, ty, pos, after, g0⟩ T S = some (.iptr r i o, S)) (hs : still op = true) (hk : WX Y fid ops (some (bs, ix + 1)) l (put T dst (.iptr r i o)) S K) : WX Y fid ops (some (bs, ix)) (⟨dst, op, ty, pos, after, g0⟩ :: l) T S K := WX_iptr (md := some (bs, ix)) hg h ⟨hs, rfl⟩ hk
theorem A_sl {g0 : Option (Nat × Bool)} (hg : wantG ops g0 T = true) {k n : Nat} (h : cop Y fid noCall none ⟨dst, op, ty, pos, after, g0⟩ T S = some (.sl k n, S')) (hk : WX Y fid ops none l (put T dst (.sl k n)) S' K) : WX Y fid ops none (⟨dst, op, ty, pos, after, g0⟩ :: l) T S K := WX_sl (md := none) hg h trivial hk
theorem D_sl {g0 : Option (Nat × Bool)} (hg : wantG ops g0 T = true) {bs ix : Nat} {k n : Nat} (h : cop Y fid noCall (some (bs + ix)) ⟨dst, op, ty, pos, after, g0⟩ T S = some (.sl k n, S)) (hs : still op = true) (hk : WX Y fid ops (some (bs, ix + 1)) l (put T dst (.sl k n)) S K) : WX Y fid ops (some (bs, ix)) (⟨dst, op, ty, pos, after, g0⟩ :: l) T S K := WX_sl (md := some (bs, ix)) hg h ⟨hs, rfl⟩ hk
theorem A_fn {g0 : Option (Nat × Bool)} (hg : wantG ops g0 T = true) {f : Nat} {cs : List HV} (h : cop Y fid noCall none ⟨dst, op, ty, pos, after, g0⟩ T S = some (.fn f cs, S')) (hk : WX Y fid ops none l (put T dst (.fn f cs)) S' K) : WX Y fid ops none (⟨dst, op, ty, pos, after, g0⟩ :: l) T S K := WX_fn (md := none) hg h trivial hk
theorem D_fn {g0 : Option (Nat × Bool)} (hg : wantG ops g0 T = true) {bs ix : Nat} {f : Nat} {cs : List HV} (h : cop Y fid noCall (some (bs + ix)) ⟨dst, op, ty, pos, after, g0⟩ T S = some (.fn f cs, S)) (hs : still op = true) (hk : WX Y fid ops (some (bs, ix + 1)) l (put T dst (.fn f cs)) S K) : WX Y fid ops (some (bs, ix)) (⟨dst, op, ty, pos, after, g0⟩ :: l) T S K := WX_fn (md := some (bs, ix)) hg h ⟨hs, rfl⟩ hk
theorem A_map {g0 : Option (Nat × Bool)} (hg : wantG ops g0 T = true) {k : Nat} (h : cop Y fid noCall none ⟨dst, op, ty, pos, after, g0⟩ T S = some (.map k, S')) (hk : WX Y fid ops none l (put T dst (.map k)) S' K) : WX Y fid ops none (⟨dst, op, ty, pos, after, g0⟩ :: l) T S K := WX_map (md := none) hg h trivial hk
theorem D_map {g0 : Option (Nat × Bool)} (hg : wantG ops g0 T = true) {bs ix : Nat} {k : Nat} (h : cop Y fid noCall (some (bs + ix)) ⟨dst, op, ty, pos, after, g0⟩ T S = some (.map k, S)) (hs : still op = true) (hk : WX Y fid ops (some (bs, ix + 1)) l (put T dst (.map k)) S K) : WX Y fid ops (some (bs, ix)) (⟨dst, op, ty, pos, after, g0⟩ :: l) T S K := WX_map (md := some (bs, ix)) hg h ⟨hs, rfl⟩ hk
theorem A_gp {g0 : Option (Nat × Bool)} (hg : wantG ops g0 T = true) {g : Nat} (h : cop Y fid noCall none ⟨dst, op, ty, pos, after, g0⟩ T S = some (.gp g, S')) (hk : WX Y fid ops none l (put T dst (.gp g)) S' K) : WX Y fid ops none (⟨dst, op, ty, pos, after, g0⟩ :: l) T S K := WX_gp (md := none) hg h trivial hk
theorem D_gp {g0 : Option (Nat × Bool)} (hg : wantG ops g0 T = true) {bs ix : Nat} {g : Nat} (h : cop Y fid noCall (some (bs + ix)) ⟨dst, op, ty, pos, after, g0⟩ T S = some (.gp g, S)) (hs : still op = true) (hk : WX Y fid ops (some (bs, ix + 1)) l (put T dst (.gp g)) S K) : WX Y fid ops (some (bs, ix)) (⟨dst, op, ty, pos, after, g0⟩ :: l) T S K := WX_gp (md := some (bs, ix)) hg h ⟨hs, rfl⟩ hk
theorem A_nils {g0 : Option (Nat × Bool)} (hg : wantG ops g0 T = true) (h : cop Y fid noCall none ⟨dst, op, ty, pos, after, g0⟩ T S = some (.nils, S')) (hk : WX Y fid ops none l (put T dst (.nils)) S' K) : WX Y fid ops none (⟨dst, op, ty, pos, after, g0⟩ :: l) T S K := WX_nils (md := none) hg h trivial hk
theorem D_nils {g0 : Option (Nat × Bool)} (hg : wantG ops g0 T = true) {bs ix : Nat} (h : cop Y fid noCall (some (bs + ix)) ⟨dst, op, ty, pos, after, g0⟩ T S = some (.nils, S)) (hs : still op = true) (hk : WX Y fid ops (some (bs, ix + 1)) l (put T dst (.nils)) S K) : WX Y fid ops (some (bs, ix)) (⟨dst, op, ty, pos, after, g0⟩ :: l) T S K := WX_nils (md := some (bs, ix)) hg h ⟨hs, rfl⟩ hk
theorem A_nilptr {g0 : Option (Nat × Bool)} (hg : wantG ops g0 T = true) (h : cop Y fid noCall none ⟨dst, op, ty, pos, after, g0⟩ T S = some (.nilptr, S')) (hk : WX Y fid ops none l (put T dst (.nilptr)) S' K) : WX Y fid ops none (⟨dst, op, ty, pos, after, g0⟩ :: l) T S K := WX_nilptr (md := none) hg h trivial hk
theorem D_nilptr {g0 : Option (Nat × Bool)} (hg : wantG ops g0 T = true) {bs ix : Nat} (h : cop Y fid noCall (some (bs + ix)) ⟨dst, op, ty, pos, after, g0⟩ T S = some (.nilptr, S)) (hs : still op = true) (hk : WX Y fid ops (some (bs, ix + 1)) l (put T dst (.nilptr)) S K) : WX Y fid ops (some (bs, ix)) (⟨dst, op, ty, pos, after, g0⟩ :: l) T S K := WX_nilptr (md := some (bs, ix)) hg h ⟨hs, rfl⟩ hk
theorem A_nilfn {g0 : Option (Nat × Bool)} (hg : wantG ops g0 T = true) (h : cop Y fid noCall none ⟨dst, op, ty, pos, after, g0⟩ T S = some (.nilfn, S')) (hk : WX Y fid ops none l (put T dst (.nilfn)) S' K) : WX Y fid ops none (⟨dst, op, ty, pos, after, g0⟩ :: l) T S K := WX_nilfn (md := none) hg h trivial hk
theorem D_nilfn {g0 : Option (Nat × Bool)} (hg : wantG ops g0 T = true) {bs ix : Nat} (h : cop Y fid noCall (some (bs + ix)) ⟨dst, op, ty, pos, after, g0⟩ T S = some (.nilfn, S)) (hs : still op = true) (hk : WX Y fid ops (some (bs, ix + 1)) l (put T dst (.nilfn)) S K) : WX Y fid ops (some (bs, ix)) (⟨dst, op, ty, pos, after, g0⟩ :: l) T S K := WX_nilfn (md := some (bs, ix)) hg h ⟨hs, rfl⟩ hk
theorem A_nilmap {g0 : Option (Nat × Bool)} (hg : wantG ops g0 T = true) (h : cop Y fid noCall none ⟨dst, op, ty, pos, after, g0⟩ T S = some (.nilmap, S')) (hk : WX Y fid ops none l (put T dst (.nilmap)) S' K) : WX Y fid ops none (⟨dst, op, ty, pos, after, g0⟩ :: l) T S K := WX_nilmap (md := none) hg h trivial hk
theorem D_nilmap {g0 : Option (Nat × Bool)} (hg : wantG ops g0 T = true) {bs ix : Nat} (h : cop Y fid noCall (some (bs + ix)) ⟨dst, op, ty, pos, after, g0⟩ T S = some (.nilmap, S)) (hs : still op = true) (hk : WX Y fid ops (some (bs, ix + 1)) l (put T dst (.nilmap)) S K) : WX Y fid ops (some (bs, ix)) (⟨dst, op, ty, pos, after, g0⟩ :: l) T S K := WX_nilmap (md := some (bs, ix)) hg h ⟨hs, rfl⟩ hk
theorem A_load {g0 : Option (Nat × Bool)} (hg : wantG ops g0 T = true) {t : TypeId} {x : Operand} {ti : TI} {k n i o : Nat} {fr : Bool} {rows : List (List HV)} {row : List HV} {v : HV} (h1 : Y.tab t = some ti) (h2 : ev T x = .ptr k n i o) (h3 : S[k]? = some (.cells fr rows)) (h4 : rows.length = n) (h5 : rows[i]? = some row) (h6 : part ti.agg ti.size row o = some v) (hk : WX Y fid ops none l (put T dst v) S K) : WX Y fid ops none (⟨dst, .load t x, ty, pos, after, g0⟩ :: l) T S K := WX_load (md := none) hg h1 h2 h3 h4 h5 h6 hk
theorem D_load {g0 : Option (Nat × Bool)} (hg : wantG ops g0 T = true) {bs ix : Nat} {t : TypeId} {x : Operand} {ti : TI} {k n i o : Nat} {fr : Bool} {rows : List (List HV)} {row : List HV} {v : HV} (h1 : Y.tab t = some ti) (h2 : ev T x = .ptr k n i o) (h3 : S[k]? = some (.cells fr rows)) (h4 : rows.length = n) (h5 : rows[i]? = some row) (h6 : part ti.agg ti.size row o = some v) (hk : WX Y fid ops (some (bs, ix + 1)) l (put T dst v) S K) : WX Y fid ops (some (bs, ix)) (⟨dst, .load t x, ty, pos, after, g0⟩ :: l) T S K := WX_load (md := some (bs, ix)) hg h1 h2 h3 h4 h5 h6 hk
theorem A_loadI {g0 : Option (Nat × Bool)} (hg : wantG ops g0 T = true) {t : TypeId} {x : Operand} {ti : TI} {i o : Nat} {rows : List (List HV)} {row : List HV} {v : HV} (h1 : Y.tab t = some ti) (h2 : ev T x = .iptr rows i o) (h5 : rows[i]? = some row) (h6 : part ti.agg ti.size row o = some v) (hk : WX Y fid ops none l (put T dst v) S K) : WX Y fid ops none (⟨dst, .load t x, ty, pos, after, g0⟩ :: l) T S K := WX_loadI (md := none) hg h1 h2 h5 h6 hk
theorem D_loadI {g0 : Option (Nat × Bool)} (hg : wantG ops g0 T = true) {bs ix : Nat} {t : TypeId} {x : Operand} {ti : TI} {i o : Nat} {rows : List (List HV)} {row : List HV} {v : HV} (h1 : Y.tab t = some ti) (h2 : ev T x = .iptr rows i o) (h5 : rows[i]? = some row) (h6 : part ti.agg ti.size row o = some v) (hk : WX Y fid ops (some (bs, ix + 1)) l (put T dst v) S K) : WX Y fid ops (some (bs, ix)) (⟨dst, .load t x, ty, pos, after, g0⟩ :: l) T S K := WX_loadI (md := some (bs, ix)) hg h1 h2 h5 h6 hk
theorem A_at {g0 : Option (Nat × Bool)} (hg : wantG ops g0 T = true) {t : TypeId} {x i : Operand} {ti : TI} {e : Nat} {rows : List (List HV)} {k : IntKind} {n : Int} {j : Nat} {r : List HV} (h1 : Y.tab t = some ti) (h2 : ti.sh = .slice e) (h3 : ev T x = .lst rows) (h4 : ev T i = .int k n) (h5 : n = (j : Int)) (h6 : rows[j]? = some r) (h7 : (some r.length) = tsize Y e) (hk : WX Y fid ops none l (put T dst (.iptr rows j 0)) S K) : WX Y fid ops none (⟨dst, .indexAddr t x i, ty, pos, after, g0⟩ :: l) T S K := WX_at (md := none) hg h1 h2 h3 h4 h5 h6 h7 hk
theorem D_at {g0 : Option (Nat × Bool)} (hg : wantG ops g0 T = true) {bs ix : Nat} {t : TypeId} {x i : Operand} {ti : TI} {e : Nat} {rows : List (List HV)} {k : IntKind} {n : Int} {j : Nat} {r : List HV} (h1 : Y.tab t = some ti) (h2 : ti.sh = .slice e) (h3 : ev T x = .lst rows) (h4 : ev T i = .int k n) (h5 : n = (j : Int)) (h6 : rows[j]? = some r) (h7 : (some r.length) = tsize Y e) (hk : WX Y fid ops (some (bs, ix + 1)) l (put T dst (.iptr rows j 0)) S K) : WX Y fid ops (some (bs, ix)) (⟨dst, .indexAddr t x i, ty, pos, after, g0⟩ :: l) T S K := WX_at (md := some (bs, ix)) hg h1 h2 h3 h4 h5 h6 h7 hk
theorem A_atS {g0 : Option (Nat × Bool)} (hg : wantG ops g0 T = true) {t : TypeId} {x i : Operand} {ti : TI} {e q m : Nat} {fr : Bool} {rows : List (List HV)} {k : IntKind} {n : Int} {j : Nat} {r : List HV} (h1 : Y.tab t = some ti) (h2 : ti.sh = .slice e) (h3 : ev T x = .sl q m) (h4 : ev T i = .int k n) (h5 : n = (j : Int)) (hS : S[q]? = some (.cells fr rows)) (hm : rows.length = m) (h6 : rows[j]? = some r) (h7 : (some r.length) = tsize Y e) (hk : WX Y fid ops none l (put T dst (.ptr q m j 0)) S K) : WX Y fid ops none (⟨dst, .indexAddr t x i, ty, pos, after, g0⟩ :: l) T S K := WX_atS (md := none) hg h1 h2 h3 h4 h5 hS hm h6 h7 hk
theorem D_atS {g0 : Option (Nat × Bool)} (hg : wantG ops g0 T = true) {bs ix : Nat} {t : TypeId} {x i : Operand} {ti : TI} {e q m : Nat} {fr : Bool} {rows : List (List HV)} {k : IntKind} {n : Int} {j : Nat} {r : List HV} (h1 : Y.tab t = some ti) (h2 : ti.sh = .slice e) (h3 : ev T x = .sl q m) (h4 : ev T i = .int k n) (h5 : n = (j : Int)) (hS : S[q]? = some (.cells fr rows)) (hm : rows.length = m) (h6 : rows[j]? = some r) (h7 : (some r.length) = tsize Y e) (hk : WX Y fid ops (some (bs, ix + 1)) l (put T dst (.ptr q m j 0)) S K) : WX Y fid ops (some (bs, ix)) (⟨dst, .indexAddr t x i, ty, pos, after, g0⟩ :: l) T S K := WX_atS (md := some (bs, ix)) hg h1 h2 h3 h4 h5 hS hm h6 h7 hk
theorem A_shl {g0 : Option (Nat × Bool)} (hg : wantG ops g0 T = true) {t yt : TypeId} {x y : Operand} {k k' : IntKind} {a b : Int} (h1 : ev T x = .int k a) (h2 : ev T y = .int k' b)  (h3 : 0 ≤ b) (hw : WX Y fid ops none l (put T dst (.int k (k.wrap (a * 2 ^ (min b.toNat k.bits))))) S K) :
    WX Y fid ops none (⟨dst, .binOp .shl t x y yt, ty, pos, after, g0⟩ :: l) T S K := by
  refine WX_op hg (v := .int k (k.wrap (a * 2 ^ (min b.toNat k.bits)))) ?_ trivial hw
  skip
  simp only [cop, h1, h2, hbin]
  rw [if_neg (by omega)]; rfl
theorem D_shl {g0 : Option (Nat × Bool)} (hg : wantG ops g0 T = true) {bs ix : Nat} {t yt : TypeId} {x y : Operand} {k k' : IntKind} {a b : Int} (h1 : ev T x = .int k a) (h2 : ev T y = .int k' b)  (h3 : 0 ≤ b) (hw : WX Y fid ops (some (bs, ix + 1)) l (put T dst (.int k (k.wrap (a * 2 ^ (min b.toNat k.bits))))) S K) :
    WX Y fid ops (some (bs, ix)) (⟨dst, .binOp .shl t x y yt, ty, pos, after, g0⟩ :: l) T S K := by
  refine WX_op hg (v := .int k (k.wrap (a * 2 ^ (min b.toNat k.bits)))) ?_ ⟨rfl, rfl⟩ hw
  skip
  simp only [cop, h1, h2, hbin]
  rw [if_neg (by omega)]; rfl
theorem A_shr {g0 : Option (Nat × Bool)} (hg : wantG ops g0 T = true) {t yt : TypeId} {x y : Operand} {k k' : IntKind} {a b : Int} (h1 : ev T x = .int k a) (h2 : ev T y = .int k' b)  (h3 : 0 ≤ b) (hw : WX Y fid ops none l (put T dst (.int k (a.fdiv (2 ^ (min b.toNat k.bits))))) S K) :
    WX Y fid ops none (⟨dst, .binOp .shr t x y yt, ty, pos, after, g0⟩ :: l) T S K := by
  refine WX_op hg (v := .int k (a.fdiv (2 ^ (min b.toNat k.bits)))) ?_ trivial hw
  skip
  simp only [cop, h1, h2, hbin]
  rw [if_neg (by omega)]; rfl
theorem D_shr {g0 : Option (Nat × Bool)} (hg : wantG ops g0 T = true) {bs ix : Nat} {t yt : TypeId} {x y : Operand} {k k' : IntKind} {a b : Int} (h1 : ev T x = .int k a) (h2 : ev T y = .int k' b)  (h3 : 0 ≤ b) (hw : WX Y fid ops (some (bs, ix + 1)) l (put T dst (.int k (a.fdiv (2 ^ (min b.toNat k.bits))))) S K) :
    WX Y fid ops (some (bs, ix)) (⟨dst, .binOp .shr t x y yt, ty, pos, after, g0⟩ :: l) T S K := by
  refine WX_op hg (v := .int k (a.fdiv (2 ^ (min b.toNat k.bits)))) ?_ ⟨rfl, rfl⟩ hw
  skip
  simp only [cop, h1, h2, hbin]
  rw [if_neg (by omega)]; rfl
theorem A_quo {g0 : Option (Nat × Bool)} (hg : wantG ops g0 T = true) {t yt : TypeId} {x y : Operand} {k k' : IntKind} {a b : Int} (h1 : ev T x = .int k a) (h2 : ev T y = .int k' b) (hk : k = k') (h3 : b ≠ 0) (hw : WX Y fid ops none l (put T dst (.int k (k.wrap (a.tdiv b)))) S K) :
    WX Y fid ops none (⟨dst, .binOp .quo t x y yt, ty, pos, after, g0⟩ :: l) T S K := by
  refine WX_op hg (v := .int k (k.wrap (a.tdiv b))) ?_ trivial hw
  subst hk
  simp only [cop, h1, h2, hbin]
  simp [h3]
theorem D_quo {g0 : Option (Nat × Bool)} (hg : wantG ops g0 T = true) {bs ix : Nat} {t yt : TypeId} {x y : Operand} {k k' : IntKind} {a b : Int} (h1 : ev T x = .int k a) (h2 : ev T y = .int k' b) (hk : k = k') (h3 : b ≠ 0) (hw : WX Y fid ops (some (bs, ix + 1)) l (put T dst (.int k (k.wrap (a.tdiv b)))) S K) :
    WX Y fid ops (some (bs, ix)) (⟨dst, .binOp .quo t x y yt, ty, pos, after, g0⟩ :: l) T S K := by
  refine WX_op hg (v := .int k (k.wrap (a.tdiv b))) ?_ ⟨rfl, rfl⟩ hw
  subst hk
  simp only [cop, h1, h2, hbin]
  simp [h3]
theorem A_rem {g0 : Option (Nat × Bool)} (hg : wantG ops g0 T = true) {t yt : TypeId} {x y : Operand} {k k' : IntKind} {a b : Int} (h1 : ev T x = .int k a) (h2 : ev T y = .int k' b) (hk : k = k') (h3 : b ≠ 0) (hw : WX Y fid ops none l (put T dst (.int k (a.tmod b))) S K) :
    WX Y fid ops none (⟨dst, .binOp .rem t x y yt, ty, pos, after, g0⟩ :: l) T S K := by
  refine WX_op hg (v := .int k (a.tmod b)) ?_ trivial hw
  subst hk
  simp only [cop, h1, h2, hbin]
  simp [h3]
theorem D_rem {g0 : Option (Nat × Bool)} (hg : wantG ops g0 T = true) {bs ix : Nat} {t yt : TypeId} {x y : Operand} {k k' : IntKind} {a b : Int} (h1 : ev T x = .int k a) (h2 : ev T y = .int k' b) (hk : k = k') (h3 : b ≠ 0) (hw : WX Y fid ops (some (bs, ix + 1)) l (put T dst (.int k (a.tmod b))) S K) :
    WX Y fid ops (some (bs, ix)) (⟨dst, .binOp .rem t x y yt, ty, pos, after, g0⟩ :: l) T S K := by
  refine WX_op hg (v := .int k (a.tmod b)) ?_ ⟨rfl, rfl⟩ hw
  subst hk
  simp only [cop, h1, h2, hbin]
  simp [h3]

theorem A_no {g0 : Option (Nat × Bool)} (hg : wantG ops g0 T = false) (hk : WX Y fid ops none l (put T dst (.tup [])) S K) : WX Y fid ops none (⟨dst, op, ty, pos, after, g0⟩ :: l) T S K := WX_skip (md := none) hg hk
theorem D_no {bs ix : Nat} {g0 : Option (Nat × Bool)} (hg : wantG ops g0 T = false) (hk : WX Y fid ops (some (bs, ix + 1)) l (put T dst (.tup [])) S K) : WX Y fid ops (some (bs, ix)) (⟨dst, op, ty, pos, after, g0⟩ :: l) T S K := WX_skip (md := some (bs, ix)) hg hk
theorem A_split {x : Operand} {b : Bool} {g0 : Option (Nat × Bool)} (hg : wantG ops g0 T = true) (h : ev T x = .bool b) (ht : b = true → WX Y fid ops none l (put T dst (.bool true)) S K) (hf : b = false → WX Y fid ops none l (put T dst (.bool false)) S K) : WX Y fid ops none (⟨dst, .move x, ty, pos, after, g0⟩ :: l) T S K := by
  cases b with
  | true => exact A_bool hg (by simp only [cop, h]) (ht rfl)
  | false => exact A_bool hg (by simp only [cop, h]) (hf rfl)
theorem A_splitP {x : Operand} {b : Bool} {p : Prop} {_i : Decidable p} {g0 : Option (Nat × Bool)} (hg : wantG ops g0 T = true) (h : ev T x = .bool b) (hb : b = decide p) (ht : p → WX Y fid ops none l (put T dst (.bool true)) S K) (hf : ¬ p → WX Y fid ops none l (put T dst (.bool false)) S K) : WX Y fid ops none (⟨dst, .move x, ty, pos, after, g0⟩ :: l) T S K :=
  A_split hg h (fun h => ht (of_decide_eq_true (hb ▸ h))) (fun h => hf (of_decide_eq_false (hb ▸ h)))
theorem D_split {bs ix : Nat} {x : Operand} {b : Bool} {g0 : Option (Nat × Bool)} (hg : wantG ops g0 T = true) (h : ev T x = .bool b) (ht : b = true → WX Y fid ops (some (bs, ix + 1)) l (put T dst (.bool true)) S K) (hf : b = false → WX Y fid ops (some (bs, ix + 1)) l (put T dst (.bool false)) S K) : WX Y fid ops (some (bs, ix)) (⟨dst, .move x, ty, pos, after, g0⟩ :: l) T S K := by
  cases b with
  | true => exact D_bool hg (by simp only [cop, h]) rfl (ht rfl)
  | false => exact D_bool hg (by simp only [cop, h]) rfl (hf rfl)
theorem D_splitP {bs ix : Nat} {x : Operand} {b : Bool} {p : Prop} {_i : Decidable p} {g0 : Option (Nat × Bool)} (hg : wantG ops g0 T = true) (h : ev T x = .bool b) (hb : b = decide p) (ht : p → WX Y fid ops (some (bs, ix + 1)) l (put T dst (.bool true)) S K) (hf : ¬ p → WX Y fid ops (some (bs, ix + 1)) l (put T dst (.bool false)) S K) : WX Y fid ops (some (bs, ix)) (⟨dst, .move x, ty, pos, after, g0⟩ :: l) T S K :=
  D_split hg h (fun h => ht (of_decide_eq_true (hb ▸ h))) (fun h => hf (of_decide_eq_false (hb ▸ h)))
theorem A_true {g0 : Option (Nat × Bool)} (hg : wantG ops g0 T = true) (h : cop Y fid noCall none ⟨dst, op, ty, pos, after, g0⟩ T S = some (.bool true, S')) (hk : WX Y fid ops none l (put T dst (.bool true)) S' K) : WX Y fid ops none (⟨dst, op, ty, pos, after, g0⟩ :: l) T S K := A_bool hg h hk
theorem A_false {g0 : Option (Nat × Bool)} (hg : wantG ops g0 T = true) (h : cop Y fid noCall none ⟨dst, op, ty, pos, after, g0⟩ T S = some (.bool false, S')) (hk : WX Y fid ops none l (put T dst (.bool false)) S' K) : WX Y fid ops none (⟨dst, op, ty, pos, after, g0⟩ :: l) T S K := A_bool hg h hk
theorem D_true {bs ix : Nat} {g0 : Option (Nat × Bool)} (hg : wantG ops g0 T = true) (h : cop Y fid noCall (some (bs + ix)) ⟨dst, op, ty, pos, after, g0⟩ T S = some (.bool true, S)) (hs : still op = true) (hk : WX Y fid ops (some (bs, ix + 1)) l (put T dst (.bool true)) S K) : WX Y fid ops (some (bs, ix)) (⟨dst, op, ty, pos, after, g0⟩ :: l) T S K := D_bool hg h hs hk
theorem D_false {bs ix : Nat} {g0 : Option (Nat × Bool)} (hg : wantG ops g0 T = true) (h : cop Y fid noCall (some (bs + ix)) ⟨dst, op, ty, pos, after, g0⟩ T S = some (.bool false, S)) (hs : still op = true) (hk : WX Y fid ops (some (bs, ix + 1)) l (put T dst (.bool false)) S K) : WX Y fid ops (some (bs, ix)) (⟨dst, op, ty, pos, after, g0⟩ :: l) T S K := D_bool hg h hs hk
theorem D_call {bs ix : Nat} {g0 : Option (Nat × Bool)} (hg : wantG ops g0 T = true) {v : HV} {f : Operand} {args : Array Operand} {ats : Array TypeId} {g : Nat} {caps args' : List HV}
    (hf : ev T f = .fn g caps) (hb : Y.byref g = false) (ha : mapMS (frzV 0) (args.toList.map (ev T)) S = some (args', S)) (he : Ev Y g (args' ++ caps) S v S) (hk : WX Y fid ops (some (bs, ix + 1)) l (put T dst v) S K) :
    WX Y fid ops (some (bs, ix)) (⟨dst, .call ⟨.value f, args, ats⟩, ty, pos, after, g0⟩ :: l) T S K := by
  obtain ⟨m, hm⟩ := he
  exact WX_step hg ⟨m, by simp only [cop, hf, hb, Bool.false_eq_true, if_false, ha, hm]⟩ (fun h => by cases h) hk
end
end Go.Proofs.XVai
