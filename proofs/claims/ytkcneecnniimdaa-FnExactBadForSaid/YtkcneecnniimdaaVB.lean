/- Rows made with a size; numbers; lengths; maps. -/
import Derived.Test.YtkcneecnniimdaaVA
namespace Go.Proofs.XVai
open Go
set_option linter.unusedVariables false
set_option linter.unusedSimpArgs false

theorem updC_trans_ext {C : Nat → Option Ob} {S S1 S2 : St} (h1 : ∀ k, k < S.length → S1[k]? = S[k]?) (h2 : ∀ k, k < S1.length → S2[k]? = S1[k]?) (hN : ∀ k, S.length ≤ k → C k = none) (hl : S.length ≤ S1.length) :
    updC (updC C S S1) S1 S2 = updC C S S2 := by
  funext k
  simp only [updC]
  by_cases hk : k < S.length
  · rw [h2 k (by omega), h1 k hk]; simp
  · have hSk : S[k]? = none := List.getElem?_eq_none (by omega)
    by_cases hk1 : k < S1.length
    · rw [h2 k hk1, hSk, if_pos rfl]
    · have hS1k : S1[k]? = none := List.getElem?_eq_none (by omega)
      rw [hSk, hS1k, if_pos rfl]

theorem wrap_small {n : Nat} (h : n ≤ 9223372036854775807) : IntKind.i64.wrap n = n := by
  simp only [IntKind.wrap, IntKind.bits, IntKind.signed]
  have : (n : Int) % 2 ^ 64 = n := by omega
  simp only [this, Bool.true_and]
  rw [if_neg (by simp; omega)]

section
variable {P : Program} {Y : Sys} {E : Env} {C : Nat → Option Ob} {w : World}

theorem zrows_sim {z : Value} (hok : z.cells.toList.all okCell = true) (fl : Nat → Bool) (pr : Bool) : ∀ (n : Nat) (S S1 : St) (E : Env) (C : Nat → Option Ob) (rows : List (List HV)), Rel Y E C w → (∀ k, S.length ≤ k → C k = none) →
    zrows fl pr (z.cells.toList.map ofCell) n S = (rows, S1) → ∃ E', Rel Y E' (updC C S S1) w ∧ Go1 E w E' w ∧ S.length ≤ S1.length ∧ (∀ k, k < S.length → S1[k]? = S[k]?) ∧ (∀ k, S1.length ≤ k → updC C S S1 k = none) ∧ rows.length = n ∧ (∀ r ∈ rows, CellsRel E' r z.cells) ∧ (pr = false → S1 = S) := by
  intro n
  induction n with
  | zero =>
    intro S S1 E C rows hR hN hz
    simp only [zrows, Prod.mk.injEq] at hz
    obtain ⟨rfl, rfl⟩ := hz
    exact ⟨E, by rw [updC_same]; exact hR, Go1.refl _ _, Nat.le_refl _, fun _ _ => rfl, by rw [updC_same]; exact hN, rfl, by simp, fun _ => rfl⟩
  | succ n ih =>
    intro S S1 E C rows hR hN hz
    simp only [zrows] at hz
    generalize hq : zrow fl pr (z.cells.toList.map ofCell) S = q at hz
    obtain ⟨r, Sa⟩ := q
    simp only at hz
    generalize hq2 : zrows fl pr (z.cells.toList.map ofCell) n Sa = q2 at hz
    obtain ⟨rs, Sb⟩ := q2
    simp only [Prod.mk.injEq] at hz
    obtain ⟨rfl, rfl⟩ := hz
    have h1 : ∃ E', Rel Y E' (updC C S Sa) w ∧ Go1 E w E' w ∧ S.length ≤ Sa.length ∧ (∀ k, k < S.length → Sa[k]? = S[k]?) ∧ (∀ k, Sa.length ≤ k → updC C S Sa k = none) ∧ CellsRel E' r z.cells ∧ (pr = false → Sa = S) := by
      unfold zrow at hq
      cases pr with
      | false =>
        simp only [Bool.false_eq_true, if_false, Prod.mk.injEq] at hq
        obtain ⟨rfl, rfl⟩ := hq
        exact ⟨E, by rw [updC_same]; exact hR, Go1.refl _ _, Nat.le_refl _, fun _ _ => rfl, by rw [updC_same]; exact hN, zero_rel hok, fun _ => rfl⟩
      | true =>
        simp only [if_true] at hq
        obtain ⟨E', R2, G2, N2, L2, K2, V2⟩ := promote_sim (Y := Y) (w := w) fl z.cells.toList 0 S Sa E C r hok hq hR hN
        exact ⟨E', R2, G2, L2, K2, N2, ⟨by simpa using V2.1, fun j c v h1 h2 => V2.2 j c v h1 (by simpa using h2)⟩, by simp⟩
    obtain ⟨E1, R1, G1, L1, K1, N1, V1, F1⟩ := h1
    obtain ⟨E2, R2, G2, L2, K2, N2, hl, V2, F2⟩ := ih Sa Sb E1 _ rs R1 N1 hq2
    rw [updC_trans_ext K1 K2 hN L1] at R2 N2
    refine ⟨E2, R2, G1.trans G2, by omega, fun k hk => by rw [K2 k (by omega), K1 k hk], N2, by simp [hl], fun r' hr' => ?_, fun h => by rw [F2 h, F1 h]⟩
    rcases List.mem_cons.1 hr' with rfl | h
    · exact V1.mono G2.le
    · exact V2 r' h

theorem zrows_plain (fl : Nat → Bool) (z : List HV) : ∀ (n : Nat) (S : St), zrows fl false z n S = (List.replicate n z, S) := by
  intro n
  induction n with
  | zero => intro S; rfl
  | succ n ih => intro S; simp [zrows, zrow, ih, List.replicate_succ]

theorem rows_flat {z : Nat} {rows : List (List HV)} {zc : Array Value} (hs : zc.size = z) (hr : ∀ r ∈ rows, CellsRel E r zc) (i j : Nat) (r : List HV) (c : HV) (hi : rows[i]? = some r) (hj : r[j]? = some c) :
    ∃ v, ((Array.range (rows.length * z)).map (fun i => zc[i % z]!))[i * z + j]? = some v ∧ VRel E c v := by
  have h1 := hr r (List.mem_of_getElem? hi)
  have hj' : j < z := by rw [← hs, ← h1.1]; exact (List.getElem?_eq_some_iff.1 hj).1
  have hi' := (List.getElem?_eq_some_iff.1 hi).1
  have h3 : i * z + z ≤ rows.length * z := by rw [← Nat.succ_mul]; exact Nat.mul_le_mul_right _ hi'
  have h4 : (i * z + j) % z = j := by rw [Nat.mul_comm, Nat.mul_add_mod, Nat.mod_eq_of_lt hj']
  refine ⟨zc[j]'(by omega), ?_, h1.2 j c _ hj (by simp [hs, hj'])⟩
  simp only [Array.getElem?_map, Array.getElem?_range]
  rw [if_pos (by omega)]
  simp only [Option.map_some, h4]
  congr 1
  exact getElem!_pos zc j (by omega)

theorem sim_makeSlice (hY : SysOk Y P) (hR : Rel Y E C w) (fl : Nat → Bool) {pr mu : Bool} {S S1 : St} {pl : Option Nat} (hN : NewOk C S pl) (hpr : pr = true → pl = none) {t el : Nat} {ti te : TI} {l cc : Operand} {o : Oper} (ho : o.op = .makeSlice t l cc)
    (ht : Y.tab t = some ti) (hs : ti.sh = .slice el) (hte : Y.tab el = some te) (ρ : Operand → Value) {kd kd2 : IntKind} {n : Int} {k : Nat} (hl : VRel E (.int kd n) (ρ l)) (hc : VRel E (.int kd2 n) (ρ cc)) (hk : asNat n = some k) (hlim : k ≤ lim)
    {rows : List (List HV)} (hz : zrows fl pr te.zero k S = (rows, S1)) : Sim P Y E C w S (newOb pl S1 (.cells (!mu) rows)).2 pl o ρ (.sl (newOb pl S1 (.cells (!mu) rows)).1 k) := by
  have hu := (hY.tab _ _ ht).sh
  rw [hs] at hu
  have hT := hY.tab _ _ hte
  obtain ⟨i, z, h1, h2, h3, h4, hok, hzero, hsz, _⟩ := hT.info
  rw [hzero] at hz
  have hmk : ∃ E1, Rel Y E1 (updC C S S1) w ∧ Go1 E w E1 w ∧ rows.length = k ∧ (∀ r ∈ rows, CellsRel E1 r z.cells) ∧ NewOk (updC C S S1) S1 pl ∧ (∀ k, k < S.length → S1[k]? = S[k]?) ∧
      updC C S (newOb pl S1 (.cells (!mu) rows)).2 = updC (updC C S S1) S1 (newOb pl S1 (.cells (!mu) rows)).2 := by
    cases pl with
    | none =>
      obtain ⟨E1, R1, G1, L1, K1, N1, hlen, V1, F1⟩ := zrows_sim (Y := Y) (w := w) hok fl pr k S S1 E C rows hR hN hz
      exact ⟨E1, R1, G1, hlen, V1, N1, K1, (updC_trans_ext K1 (fun k hk => List.getElem?_append_left hk) hN L1).symm⟩
    | some s =>
      have hp : pr = false := by cases pr with
        | false => rfl
        | true => have := hpr rfl; cases this
      subst hp
      rw [zrows_plain] at hz
      simp only [Prod.mk.injEq] at hz
      obtain ⟨rfl, rfl⟩ := hz
      exact ⟨E, by rw [updC_same]; exact hR, Go1.refl _ _, by simp, fun r hr => by rw [List.eq_of_mem_replicate hr]; exact zero_rel hok, by rw [updC_same]; exact hN, fun _ _ => rfl, by rw [updC_same]⟩
  obtain ⟨E1, R1, G1, hlen, V1, hN1, K1, hupd⟩ := hmk
  obtain ⟨R2, G2⟩ := alloc_rel R1 (newOb_k hN1 (.cells (!mu) rows)) (!mu) rows te.size ((Array.range (rows.length * te.size)).map (fun i => z.cells[i % te.size]!)) el (fun r hr => by rw [(V1 r hr).1, hsz]) (by simp)
    (fun i j r c hi hj => by
      have := rows_flat hsz V1 i j r c hi hj
      exact this)
  have hcomp : updC C S (newOb pl S1 (.cells (!mu) rows)).2 = setC (updC C S S1) (newOb pl S1 (.cells (!mu) rows)).1 (.cells (!mu) rows) := by
    rw [hupd, newOb_C hN1 (by simp)]
  have hkept : Kept3 C S (newOb pl S1 (.cells (!mu) rows)).2 pl := by
    intro j hj hne hp
    cases pl with
    | none =>
      have hl : j < S1.length := by
        have := K1 j hj
        rw [List.getElem?_eq_getElem hj] at this
        exact (List.getElem?_eq_some_iff.1 this).1
      exact absurd ((List.getElem?_append_left hl).trans (K1 j hj)) hne
    | some s => exact absurd ((List.getElem?_set_ne (fun e => hp (by rw [e]))).trans (K1 j hj)) hne
  obtain ⟨h0, hkk⟩ := asNat_some hk
  have hn : n = (k : Int) := by omega
  subst hn
  generalize hlv : ρ l = lv at hl
  generalize hcv : ρ cc = cv at hc
  cases hl
  cases hc
  refine ⟨.slice (some ⟨w.heap.size, 0, none⟩) k k, _, _, .inl ?_, ?_, by rw [hcomp]; exact R2, G1.trans G2, hkept⟩
  · unfold execOp
    have hinfo : ∀ w, (typeInfo el).run P w = .ok i w := fun w => by simp [typeInfo, h1]
    have hw : IntKind.i64.wrap (k : Int) = k := wrap_small (by unfold lim at hlim; omega)
    have hb : ¬ (i.bytes : Int) * (k : Int) > 2 ^ 48 := by
      have h5 : i.bytes * k ≤ 4096 * lim := Nat.mul_le_mul h3 hlim
      rw [← Int.natCast_mul]
      unfold lim at h5
      generalize i.bytes * k = q at h5 ⊢
      omega
    have hse := hT.run_size
    have hzv : ∀ w, (zeroValue el).run P w = .ok z w := fun w => by simp [zeroValue, typeInfo, h1, h4]
    have ha : ∀ w, (asInt (.int kd (k : Int))).run P w = .ok (k : Int) w := fun _ => rfl
    have ha2 : ∀ w, (asInt (.int kd2 (k : Int))).run P w = .ok (k : Int) w := fun _ => rfl
    rw [ho]
    simp only [hlv, hcv]
    unfold Instr.makeSlice
    rw [Sem.run_bind, Sem.run_bind, run_underlying hu, Result.andThen_ok]
    simp only [Sem.run_bind, ha, ha2, hinfo, Result.andThen_ok]
    simp only [hw]
    have hc1 : ¬ ((decide ((k : Int) < 0) || decide ((i.bytes : Int) * (k : Int) > 2 ^ 48) || decide ((k : Int) < 0) || decide ((k : Int) > (k : Int))) = true) := by
      simp only [Bool.or_eq_true, decide_eq_true_eq, not_or]
      exact ⟨⟨⟨by omega, hb⟩, by omega⟩, by omega⟩
    rw [if_neg hc1]
    simp only [Sem.run_bind, run_askRoom, Result.andThen_ok, hse, Int.toNat_natCast, Sem.run_ite]
    by_cases hk0 : k * te.size = 0
    · rw [if_pos hk0]
      have h0 : ∀ f : Nat → Value, Array.map f (Array.range 0) = #[] := fun f => by apply Array.ext <;> simp
      simp only [Sem.run_pure, Result.andThen_ok, Sem.run_bind, newRow, run_newObj, hk0, hlen, h0]
    · rw [if_neg hk0]
      simp only [Sem.run_pure, Result.andThen_ok, Sem.run_bind, newRow, run_newObj, hzv, hlen, hsz]
  · rw [hlen]
    exact .sl _ _ te.size (some w.heap.size) k (by simp [setHd]) (Nat.le_refl _)

/-! numbers -/
theorem sim_hbin {op : BinOp} {x y c : HV} {u v : Value} (hx : VRel E x u) (hy : VRel E y v) (h : hbin op x y = some c) (t : TypeId) : ∃ r, (binOp op t u v).run P w = .ok r w ∧ VRel E c r ∧ (∀ xs, u ≠ .agg xs) ∧ u ≠ .nilIface := by
  unfold hbin at h
  split at h
  · rename_i k a k' b
    cases hx; cases hy
    refine (fun ⟨r, h1, h2⟩ => ⟨r, h1, h2, by simp, by simp⟩ : (∃ r, (binOp op t (.int k a) (.int k' b)).run P w = .ok r w ∧ VRel E c r) → _) ?_
    cases op <;> simp only at h
    case shl =>
      split at h
      · cases h
      · rename_i hb
        simp only [Option.some.injEq] at h; subst h
        exact ⟨_, by simp only [binOp, Op.shift]; rw [if_neg hb]; rfl, .int _ _⟩
    case shr =>
      split at h
      · cases h
      · rename_i hb
        simp only [Option.some.injEq] at h; subst h
        exact ⟨_, by simp only [binOp, Op.shift]; rw [if_neg hb]; rfl, .int _ _⟩
    case quo =>
      split at h
      · rename_i hkk; subst hkk
        split at h
        · cases h
        · rename_i hb
          simp only [Option.some.injEq] at h; subst h
          exact ⟨_, by simp only [binOp, Op.intDiv]; rw [if_neg (by simp), if_neg hb]; rfl, .int _ _⟩
      · cases h
    case rem =>
      split at h
      · rename_i hkk; subst hkk
        split at h
        · cases h
        · rename_i hb
          simp only [Option.some.injEq] at h; subst h
          exact ⟨_, by simp only [binOp, Op.intDiv]; rw [if_neg (by simp), if_neg hb]; rfl, .int _ _⟩
      · cases h
    case add | sub | mul | and | or | xor | andNot =>
      split at h
      · rename_i hkk; subst hkk
        simp only [Option.some.injEq] at h; subst h
        exact ⟨_, by simp only [binOp]; rw [if_neg (by simp)]; rfl, .int _ _⟩
      · cases h
    case eql | neq | lss | leq | gtr | geq =>
      split at h
      · rename_i hkk; subst hkk
        simp only [Option.some.injEq] at h; subst h
        exact ⟨_, by simp only [binOp]; rw [if_neg (by simp)]; rfl, .bool _⟩
      · cases h
    all_goals (split at h <;> cases h)
  · rename_i a b
    cases hx; cases hy
    refine (fun ⟨r, h1, h2⟩ => ⟨r, h1, h2, by simp, by simp⟩ : (∃ r, (binOp op t (.string a) (.string b)).run P w = .ok r w ∧ VRel E c r) → _) ?_
    cases op <;> simp only at h
    case add =>
      split at h
      · rename_i hl
        simp only [Option.some.injEq] at h
        subst h
        refine ⟨.string (a ++ b), ?_, .str _⟩
        simp only [binOp, Op.stringOp]
        rw [if_neg (by simp only [IntKind.max, IntKind.signed, IntKind.bits, if_true]; omega)]
        rfl
      · cases h
    case eql =>
      simp only [Option.some.injEq] at h; subst h
      exact ⟨_, rfl, .bool _⟩
    case neq =>
      simp only [Option.some.injEq] at h; subst h
      exact ⟨_, rfl, .bool _⟩
    all_goals cases h
  · cases h

theorem equal_unfold (t : TypeId) (x y : Value) : Op.equal t x y = Op.equalIn (9999 + 1) t x y := rfl

theorem run_eqGuard_plain {op : BinOp} {t : TypeId} {x y : Operand} {a b : Value} (h1 : ∀ xs, a ≠ .agg xs) (h2 : a ≠ .nilIface) : (eqGuard op t x y a b).run P w = .ok () w := by
  cases a with
  | agg xs => exact absurd rfl (h1 xs)
  | nilIface => exact absurd rfl h2
  | _ => cases op <;> rfl

theorem run_eqGuard_agg {op : BinOp} {t : TypeId} {x y : Operand} {us vs : Array Value} (hg : P.eqGuardType P.depth t = false) : (eqGuard op t x y (.agg us) (.agg vs)).run P w = .ok () w := by
  have key : (do
      if !(← program).eqGuardType (← program).depth t then return
      if ← Op.eqGuardIn Op.maxDepth t (.agg us) (.agg vs) then unsupported (.noEntry "binop/eql: two nil values of an interface type with methods, in a part of a struct or an array") : Sem Unit).run P w = .ok () w := by
    simp only [Sem.run_bind, run_program, Result.andThen_ok, hg, Bool.not_false, if_true, Sem.run_pure]
  cases op <;> first | rfl | exact key

theorem run_equal_bool {t : TypeId} (hu : P.underlying t = some .bool) (a b : Bool) : (Op.equal t (.bool a) (.bool b)).run P w = .ok (a == b) w := by
  rw [equal_unfold]
  unfold Op.equalIn
  rw [Sem.run_bind, run_underlying hu, Result.andThen_ok]
  rfl
theorem run_equal_ptr {t e : TypeId} (hu : P.underlying t = some (.pointer e)) (a : Option Addr) : (Op.equal t (.pointer a) (.pointer none)).run P w = .ok a.isNone w := by
  rw [equal_unfold]
  unfold Op.equalIn
  rw [Sem.run_bind, run_underlying hu, Result.andThen_ok]
  cases a <;> rfl

theorem sim_binOp_plain (hR : Rel Y E C w) {S : St} {pl : Option Nat} {op : BinOp} {t yt : TypeId} {x y : Operand} {o : Oper} (ho : o.op = .binOp op t x y yt) (ρ : Operand → Value) {cx cy c : HV} (hx : VRel E cx (ρ x)) (hy : VRel E cy (ρ y))
    (h : hbin op cx cy = some c) : Sim P Y E C w S S pl o ρ c := by
  obtain ⟨r, h1, h2, h3, h4⟩ := sim_hbin (P := P) (w := w) hx hy h t
  refine Sim.same hR (v := r) ?_ h2
  unfold execOp
  simp only [ho, Sem.run_bind, run_eqGuard_plain h3 h4, Result.andThen_ok, h1, Sem.run_pure]

theorem sim_eq (hY : SysOk Y P) (hR : Rel Y E C w) {S : St} {pl : Option Nat} {op : BinOp} {t yt : TypeId} {x y : Operand} {o : Oper} (ho : o.op = .binOp op t x y yt) (ρ : Operand → Value) {as bs : List HV} (hx : VRel E (.agg as) (ρ x)) (hy : VRel E (.agg bs) (ρ y))
    {ti : TI} (ht : Y.tab t = some ti) (hq : ti.eqok = true) (hagg : ti.agg = true) (h1 : as.length = ti.size) (h2 : bs.length = ti.size) {b : Bool} (hb : eqL as bs = some b) :
    (op = .eql → Sim P Y E C w S S pl o ρ (.bool b)) ∧ (op = .neq → Sim P Y E C w S S pl o ρ (.bool !b)) := by
  have hT := hY.tab _ _ ht
  have heq := hT.eqok hq (.agg as) (.agg bs) E _ _ w b h1 h2 hx hy (fun _ => ⟨as, bs, rfl, rfl⟩) (fun h => by rw [hagg] at h; cases h) hb
  have hg := hT.guard hq hagg
  generalize hu : ρ x = u at hx heq
  generalize hv : ρ y = v at hy heq
  cases hx with
  | agg _ us _ _ =>
    cases hy with
    | agg _ vs _ _ =>
      have hguard : (eqGuard op t x y (.agg us) (.agg vs)).run P w = .ok () w := run_eqGuard_agg hg
      refine ⟨fun e => ?_, fun e => ?_⟩ <;> subst e
      · refine Sim.same hR (v := .bool b) ?_ (.bool _)
        unfold execOp
        simp only [ho, hu, hv, Sem.run_bind, hguard, Result.andThen_ok, binOp, heq, Sem.run_pure]
      · refine Sim.same hR (v := .bool !b) ?_ (.bool _)
        unfold execOp
        simp only [ho, hu, hv, Sem.run_bind, hguard, Result.andThen_ok, binOp, heq, Sem.run_pure]

theorem sim_boolEq (hY : SysOk Y P) (hR : Rel Y E C w) {S : St} {pl : Option Nat} {op : BinOp} {t yt : TypeId} {x y : Operand} {o : Oper} (ho : o.op = .binOp op t x y yt) (ρ : Operand → Value) {a b : Bool} (hx : VRel E (.bool a) (ρ x)) (hy : VRel E (.bool b) (ρ y))
    {ti : TI} (ht : Y.tab t = some ti) (hs : ti.sh = .bool) :
    (op = .eql → Sim P Y E C w S S pl o ρ (.bool (a == b))) ∧ (op = .neq → Sim P Y E C w S S pl o ρ (.bool !(a == b))) := by
  have hu := (hY.tab _ _ ht).sh
  rw [hs] at hu
  generalize hxv : ρ x = u at hx
  generalize hyv : ρ y = v at hy
  cases hx; cases hy
  refine ⟨fun e => ?_, fun e => ?_⟩ <;> subst e
  · refine Sim.same hR (v := .bool (a == b)) ?_ (.bool _)
    unfold execOp
    simp only [ho, hxv, hyv, Sem.run_bind, run_eqGuard_plain (P := P) (w := w) (op := .eql) (t := t) (x := x) (y := y) (a := .bool a) (b := .bool b) (by simp) (by simp), Result.andThen_ok, binOp, run_equal_bool hu, Sem.run_pure]
  · refine Sim.same hR (v := .bool !(a == b)) ?_ (.bool _)
    unfold execOp
    simp only [ho, hxv, hyv, Sem.run_bind, run_eqGuard_plain (P := P) (w := w) (op := .neq) (t := t) (x := x) (y := y) (a := .bool a) (b := .bool b) (by simp) (by simp), Result.andThen_ok, binOp, run_equal_bool hu, Sem.run_pure]

theorem sim_ptrNil (hY : SysOk Y P) (hR : Rel Y E C w) {S : St} {pl : Option Nat} {op : BinOp} {t yt : TypeId} {x y : Operand} {o : Oper} (ho : o.op = .binOp op t x y yt) (ρ : Operand → Value) {cx : HV} (hx : VRel E cx (ρ x)) (hy : VRel E .nilptr (ρ y))
    {ti : TI} (ht : Y.tab t = some ti) {e : Nat} (hs : ti.sh = .ptr e) {b : Bool} (hc : (cx = .nilptr ∧ b = true) ∨ ((∃ k n i o, cx = .ptr k n i o) ∧ b = false)) :
    (op = .eql → Sim P Y E C w S S pl o ρ (.bool b)) ∧ (op = .neq → Sim P Y E C w S S pl o ρ (.bool !b)) := by
  have hu := (hY.tab _ _ ht).sh
  rw [hs] at hu
  generalize hxv : ρ x = u at hx
  generalize hyv : ρ y = v at hy
  cases hy
  have key : (Op.equal t u (.pointer none)).run P w = .ok b w ∧ (∀ xs, u ≠ .agg xs) ∧ u ≠ .nilIface ∧ ∃ a, u = .pointer a := by
    rcases hc with ⟨rfl, rfl⟩ | ⟨⟨k, n, i, q, rfl⟩, rfl⟩
    · cases hx
      exact ⟨run_equal_ptr hu _, by simp, by simp, _, rfl⟩
    · cases hx
      exact ⟨run_equal_ptr hu _, by simp, by simp, _, rfl⟩
  obtain ⟨k1, k2, k3, a, rfl⟩ := key
  refine ⟨fun e => ?_, fun e => ?_⟩ <;> subst e
  · refine Sim.same hR (v := .bool b) ?_ (.bool _)
    unfold execOp
    simp only [ho, hxv, hyv, Sem.run_bind, run_eqGuard_plain (P := P) (w := w) (op := .eql) (t := t) (x := x) (y := y) (b := .pointer none) k2 k3, Result.andThen_ok, binOp, k1, Sem.run_pure]
  · refine Sim.same hR (v := .bool !b) ?_ (.bool _)
    unfold execOp
    simp only [ho, hxv, hyv, Sem.run_bind, run_eqGuard_plain (P := P) (w := w) (op := .neq) (t := t) (x := x) (y := y) (b := .pointer none) k2 k3, Result.andThen_ok, binOp, k1, Sem.run_pure]

end
end Go.Proofs.XVai
