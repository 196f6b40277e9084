/- Every operation. -/
import Derived.Test.YtkcneecnniimdaaVD
namespace Go.Proofs.XVai
open Go
set_option linter.unusedVariables false
set_option linter.unusedSimpArgs false

section
variable {P : Program} {Y : Sys} {E : Env} {C : Nat → Option Ob} {w : World}

theorem AgreeFor.all {S S' : St} {o : Oper} {T : Tm} {slot : Option Nat} (h : AgreeFor C S o T slot S') (he : isE o = true) : ∀ k, AgreeAt C S k :=
  h.elim id (fun ⟨_, _, h1, _⟩ => by rw [he] at h1; cases h1)

theorem run_extract {vs : List HV} {us : Array Value} (hl : vs.length = us.size) {i : Nat} {c : HV} (h : vs[i]? = some c) : ∃ u, us[i]? = some u ∧ (Instr.extract (.tuple us) i).run P w = .ok u w := by
  have hi : i < us.size := by rw [← hl]; exact (List.getElem?_eq_some_iff.1 h).1
  exact ⟨us[i], by simp [hi], by simp [Instr.extract, hi]⟩

set_option maxHeartbeats 1000000 in
theorem cop_sim {fid : Nat} {call : Nat → List HV → St → Option (HV × St)} (hY : SysOk Y P) (hcall : CallSim P Y call) {pl : Option Nat} {o : Oper} {T : Tm} {S S' : St} {hv : HV} {a : Act} (hc : cop Y fid call pl o T S = some (hv, S'))
    (hR : Rel Y E C w) (hA : AgreeFor C S o T pl S') (hCS : isE o = true → ∀ k, S.length ≤ k → C k = none) (hN : NewOk C S pl) (hx : ∀ x ∈ o.op.operands.toList, VRel E (ev T x) (a.eval x)) : OpW P Y E C w S S' pl o a hv := by
  obtain ⟨dst, op, ty, pos, after, guard⟩ := o
  have hpr : (Y.prom fid && pl.isNone) = true → pl = none := fun h => by
    simp only [Bool.and_eq_true, Option.isNone_iff_eq_none] at h; exact h.2
  cases op with
  | move x =>
    simp only [cop, Option.some.injEq, Prod.mk.injEq] at hc
    obtain ⟨rfl, rfl⟩ := hc
    exact (Sim.same hR (v := a.eval x) rfl (hx x (by simp [Op.operands]))).opW
  | assign x =>
    simp only [cop, Option.some.injEq, Prod.mk.injEq] at hc
    obtain ⟨rfl, rfl⟩ := hc
    exact (Sim.same hR (v := a.eval x) rfl (hx x (by simp [Op.operands]))).opW
  | pick c x y =>
    simp only [cop] at hc
    have h0 := hx c (by simp [Op.operands])
    have h1 := hx x (by simp [Op.operands])
    have h2 := hx y (by simp [Op.operands])
    split at hc
    · rename_i he
      simp only [Option.some.injEq, Prod.mk.injEq] at hc
      obtain ⟨rfl, rfl⟩ := hc
      rw [he] at h0
      generalize hcv : a.eval c = cv at h0
      cases h0
      exact (Sim.same hR (v := a.eval x) (by unfold execOp; simp [hcv, asBool]) h1).opW
    · rename_i he
      simp only [Option.some.injEq, Prod.mk.injEq] at hc
      obtain ⟨rfl, rfl⟩ := hc
      rw [he] at h0
      generalize hcv : a.eval c = cv at h0
      cases h0
      exact (Sim.same hR (v := a.eval y) (by unfold execOp; simp [hcv, asBool]) h2).opW
    · cases hc
  | alloc t =>
    simp only [cop] at hc
    split at hc
    · rename_i ti ht
      simp only [Option.some.injEq, Prod.mk.injEq] at hc
      obtain ⟨rfl, rfl⟩ := hc
      exact (sim_alloc hY hR hN ht rfl a.eval).opW
    · cases hc
  | box t x =>
    simp only [cop, Option.some.injEq, Prod.mk.injEq] at hc
    obtain ⟨rfl, rfl⟩ := hc
    exact (sim_box hR hN rfl a.eval (hx x (by simp [Op.operands]))).opW
  | build t parts =>
    simp only [cop] at hc
    split at hc
    · rename_i ti ht
      generalize hz : zrow (Y.muta fid) (Y.prom fid && pl.isNone) ti.zero S = q at hc
      obtain ⟨row, S1⟩ := q
      simp only at hc
      split at hc
      · rename_i hb
        split at hc
        · rename_i row' hf
          simp only [Option.some.injEq, Prod.mk.injEq] at hc
          obtain ⟨rfl, rfl⟩ := hc
          exact (sim_build hY (Y.muta fid) (pr := Y.prom fid && pl.isNone) ht rfl a.eval hR (fun h => by rw [hpr h] at hN; exact hN) (fun p hp => hx p.2 (by simp only [Op.operands, List.mem_map]; exact ⟨p, hp, rfl⟩)) hz hb hf).opW
        · cases hc
      · cases hc
    · cases hc
  | buildSlice t len parts =>
    simp only [cop] at hc
    split at hc
    · rename_i ti ht
      split at hc
      · rename_i el hs
        split at hc
        · rename_i te hte
          split at hc
          · rename_i hl0
            subst hl0
            split at hc
            · rename_i he
              simp only [Option.some.injEq, Prod.mk.injEq] at hc
              obtain ⟨rfl, rfl⟩ := hc
              exact (sim_emptySlice hY hR ht hs hte he rfl a.eval pl).opW
            · cases hc
          · rename_i hl0
            split at hc
            · rename_i hlim
              split at hc
              · rename_i rows hf
                split at hc
                · rename_i rows' S1 hm
                  split at hc
                  · rename_i hp
                    simp only [Option.some.injEq, Prod.mk.injEq] at hc
                    obtain ⟨rfl, rfl⟩ := hc
                    exact (sim_buildSlice hY hR ht hs hte rfl a.eval hA (fun p hp => hx p.2 (by simp only [Op.operands, List.mem_map]; exact ⟨p, hp, rfl⟩)) hl0 hlim hf hm hp).opW
                  · cases hc
                · cases hc
              · cases hc
            · cases hc
        · cases hc
      · cases hc
    · cases hc
  | load t x =>
    simp only [cop, Option.map_eq_some_iff, Prod.mk.injEq] at hc
    obtain ⟨c, hl, rfl, rfl⟩ := hc
    have hrd := hA.at
    simp only [reads] at hrd
    obtain ⟨u, h1, h2⟩ := load_sim (P := P) hY hR (hx x (by simp [Op.operands])) (fun k hk => hrd k (by cases h : ev T x <;> simp_all [idOf])) hl
    exact (Sim.same hR (v := u) (by unfold execOp; simp [h1]) h2).opW
  | store t x v =>
    simp only [cop, Option.map_eq_some_iff, Prod.mk.injEq] at hc
    obtain ⟨S1, hs, rfl, rfl⟩ := hc
    exact (sim_store hY hR rfl a.eval (hA.all rfl) (hx x (by simp [Op.operands])) (hx v (by simp [Op.operands])) hs).opW
  | nilCheck x =>
    simp only [cop] at hc
    have h0 := hx x (by simp [Op.operands])
    split at hc
    all_goals first
    | (rename_i he
       simp only [Option.some.injEq, Prod.mk.injEq] at hc
       obtain ⟨rfl, rfl⟩ := hc
       rw [he] at h0
       generalize hv : a.eval x = v at h0
       have hv2 : ∃ b, v = .pointer (some b) := by cases h0 <;> exact ⟨_, rfl⟩
       obtain ⟨b, rfl⟩ := hv2
       exact (Sim.same hR (v := .pointer (some b)) (by unfold execOp; simp [hv]) h0).opW)
    | (cases hc)
  | binOp op t x y yt =>
    have h1 := hx x (by simp [Op.operands])
    have h2 := hx y (by simp [Op.operands])
    simp only [cop] at hc
    split at hc
    · rename_i as bs e1 e2
      rw [e1] at h1; rw [e2] at h2
      split at hc
      · rename_i ti ht
        split at hc
        · rename_i hq
          simp only [Bool.and_eq_true, beq_iff_eq] at hq
          obtain ⟨⟨⟨hq1, hq2⟩, hq3⟩, hq4⟩ := hq
          split at hc
          · rename_i b hb
            simp only [Option.some.injEq, Prod.mk.injEq] at hc
            obtain ⟨rfl, rfl⟩ := hc
            exact ((sim_eq (S := S) hY hR (o := ⟨dst, .binOp .eql t x y yt, ty, pos, after, guard⟩) rfl a.eval h1 h2 ht hq1 hq2 hq3 hq4 hb).1 rfl).opW
          · rename_i b hb
            simp only [Option.some.injEq, Prod.mk.injEq] at hc
            obtain ⟨rfl, rfl⟩ := hc
            exact ((sim_eq (S := S) hY hR (o := ⟨dst, .binOp .neq t x y yt, ty, pos, after, guard⟩) rfl a.eval h1 h2 ht hq1 hq2 hq3 hq4 hb).2 rfl).opW
          · cases hc
        · cases hc
      · cases hc
    · rename_i p q e1 e2
      rw [e1] at h1; rw [e2] at h2
      split at hc
      · split at hc
        · rename_i ht
          simp only [Option.some.injEq, Prod.mk.injEq] at hc
          obtain ⟨rfl, rfl⟩ := hc
          exact ((sim_boolEq (S := S) hY hR (o := ⟨dst, .binOp .eql t x y yt, ty, pos, after, guard⟩) rfl a.eval h1 h2 ht rfl).1 rfl).opW
        · cases hc
      · split at hc
        · rename_i ht
          simp only [Option.some.injEq, Prod.mk.injEq] at hc
          obtain ⟨rfl, rfl⟩ := hc
          exact ((sim_boolEq (S := S) hY hR (o := ⟨dst, .binOp .neq t x y yt, ty, pos, after, guard⟩) rfl a.eval h1 h2 ht rfl).2 rfl).opW
        · cases hc
      · cases hc
    · rename_i e1 e2
      rw [e1] at h1; rw [e2] at h2
      split at hc
      · rename_i ht
        split at hc
        · simp only [Option.some.injEq, Prod.mk.injEq] at hc
          obtain ⟨rfl, rfl⟩ := hc
          exact ((sim_ptrNil (S := S) hY hR (o := ⟨dst, .binOp .eql t x y yt, ty, pos, after, guard⟩) rfl a.eval h1 h2 ht rfl (b := true) (.inl ⟨rfl, rfl⟩)).1 rfl).opW
        · simp only [Option.some.injEq, Prod.mk.injEq] at hc
          obtain ⟨rfl, rfl⟩ := hc
          exact ((sim_ptrNil (S := S) hY hR (o := ⟨dst, .binOp .neq t x y yt, ty, pos, after, guard⟩) rfl a.eval h1 h2 ht rfl (b := true) (.inl ⟨rfl, rfl⟩)).2 rfl).opW
        · cases hc
      · cases hc
    · rename_i k n i q e1 e2
      rw [e1] at h1; rw [e2] at h2
      split at hc
      · rename_i ht
        split at hc
        · simp only [Option.some.injEq, Prod.mk.injEq] at hc
          obtain ⟨rfl, rfl⟩ := hc
          exact ((sim_ptrNil (S := S) hY hR (o := ⟨dst, .binOp .eql t x y yt, ty, pos, after, guard⟩) rfl a.eval h1 h2 ht rfl (b := false) (.inr ⟨⟨_, _, _, _, rfl⟩, rfl⟩)).1 rfl).opW
        · simp only [Option.some.injEq, Prod.mk.injEq] at hc
          obtain ⟨rfl, rfl⟩ := hc
          exact ((sim_ptrNil (S := S) hY hR (o := ⟨dst, .binOp .neq t x y yt, ty, pos, after, guard⟩) rfl a.eval h1 h2 ht rfl (b := false) (.inr ⟨⟨_, _, _, _, rfl⟩, rfl⟩)).2 rfl).opW
        · cases hc
      · cases hc
    · simp only [Option.map_eq_some_iff, Prod.mk.injEq] at hc
      obtain ⟨c, hb, rfl, rfl⟩ := hc
      exact (sim_binOp_plain hR rfl a.eval h1 h2 hb).opW
  | unOp op t x =>
    have h1 := hx x (by simp [Op.operands])
    simp only [cop] at hc
    split at hc
    · rename_i b e1
      rw [e1] at h1
      simp only [Option.some.injEq, Prod.mk.injEq] at hc
      obtain ⟨rfl, rfl⟩ := hc
      generalize hv : a.eval x = v at h1
      cases h1
      exact (Sim.same hR (v := .bool !b) (by unfold execOp; simp [hv, Op.unary]) (.bool _)).opW
    · rename_i k n e1
      rw [e1] at h1
      simp only [Option.some.injEq, Prod.mk.injEq] at hc
      obtain ⟨rfl, rfl⟩ := hc
      generalize hv : a.eval x = v at h1
      cases h1
      exact (Sim.same hR (v := .int k (k.wrap (0 - n))) (by unfold execOp; simp only [hv, Op.unary, Op.intArith, Sem.run_bind, Sem.run_pure, Result.andThen_ok]) (.int _ _)).opW
    · cases hc
  | convert src dst' x =>
    have h1 := hx x (by simp [Op.operands])
    simp only [cop, Option.map_eq_some_iff, Prod.mk.injEq] at hc
    obtain ⟨c, hcc, rfl, rfl⟩ := hc
    unfold cconvert at hcc
    split at hcc
    · rename_i si ti hts ht
      split at hcc
      · rename_i k0 k k' n hs0 hs e1
        rw [e1] at h1
        simp only [Option.some.injEq] at hcc
        subst hcc
        have hu := (hY.tab _ _ ht).sh
        rw [hs] at hu
        have hu0 := (hY.tab _ _ hts).sh
        rw [hs0] at hu0
        generalize hv : a.eval x = v at h1
        cases h1
        refine (Sim.same hR (v := .int k (k.wrap n)) ?_ (.int _ _)).opW
        unfold execOp
        simp only [hv, convert, Sem.run_bind, run_underlying hu0, run_underlying hu, Result.andThen_ok]
        rfl
      · cases hcc
    · cases hcc
  | makeFunc f first captured =>
    simp only [cop] at hc
    split at hc
    · rename_i g
      split at hc
      · rename_i hf
        simp only [Option.some.injEq, Prod.mk.injEq] at hc
        obtain ⟨rfl, rfl⟩ := hc
        have hf' : first = #[] := by simpa using hf
        subst hf'
        refine (Sim.same hR (v := .func (.func g) #[] (captured.map a.eval)) (by unfold execOp; simp [Instr.makeFunc]) (.fn g _ _ (by simp) fun i c v h1 h2 => ?_)).opW
        simp only [List.getElem?_map, Array.getElem?_map, Array.getElem?_toList] at h1 h2
        cases h : captured[i]? with
        | none => simp [h] at h1
        | some x =>
          simp only [h, Option.map_some, Option.some.injEq] at h1 h2
          subst h1; subst h2
          exact hx x (by simp [Op.operands, Array.mem_of_getElem? h])
      · cases hc
    · cases hc
  | makeMap t r =>
    cases r with
    | none =>
      simp only [cop, Option.some.injEq, Prod.mk.injEq] at hc
      obtain ⟨rfl, rfl⟩ := hc
      exact (sim_makeMap hR hN rfl a.eval).opW
    | some r => simp [cop] at hc
  | makeSlice t l cc =>
    have h1 := hx l (by simp [Op.operands])
    have h2 := hx cc (by simp [Op.operands])
    simp only [cop] at hc
    split at hc
    · rename_i ti ht
      split at hc
      · rename_i el kd n kd2 m hs e1 e2
        rw [e1] at h1; rw [e2] at h2
        split at hc
        · rename_i te k hte hk
          split at hc
          · rename_i hcc
            obtain ⟨rfl, hlim⟩ := hcc
            generalize hz : zrows (Y.muta fid) (Y.prom fid && pl.isNone) te.zero k S = q at hc
            obtain ⟨rows, S1⟩ := q
            simp only [Option.some.injEq, Prod.mk.injEq] at hc
            obtain ⟨rfl, rfl⟩ := hc
            exact (sim_makeSlice (mu := Y.muta fid 1000) hY hR (Y.muta fid) hN hpr rfl ht hs hte a.eval h1 h2 hk hlim hz).opW
          · cases hc
        · cases hc
      · cases hc
    · cases hc
  | slice t x lo hi mx =>
    cases mx with
    | none =>
      simp only [cop] at hc
      exact (sim_slice hY hR rfl a.eval hA (hx x (by simp [Op.operands])) (fun y hy => hx y (by cases lo <;> simp_all [Op.operands])) (fun y hy => hx y (by cases hi <;> simp_all [Op.operands])) hc).opW
    | some r => simp [cop] at hc
  | fieldAddr t x f =>
    simp only [cop, Option.map_eq_some_iff, Prod.mk.injEq] at hc
    obtain ⟨c, hcc, rfl, rfl⟩ := hc
    exact (sim_fieldAddr hY hR rfl a.eval (hx x (by simp [Op.operands])) hcc).opW
  | indexAddr t x i =>
    simp only [cop, Option.map_eq_some_iff, Prod.mk.injEq] at hc
    obtain ⟨c, hcc, rfl, rfl⟩ := hc
    have hrd := hA.at
    simp only [reads] at hrd
    exact (sim_indexAddr hY hR rfl a.eval (fun k hk => hrd k (by cases h : ev T x <;> simp_all [idOf])) (hx x (by simp [Op.operands])) (hx i (by simp [Op.operands])) hcc).opW
  | index t x i =>
    have h1 := hx x (by simp [Op.operands])
    have h2 := hx i (by simp [Op.operands])
    simp only [cop] at hc
    split at hc
    · rename_i ti ht
      split at hc
      · rename_i s k n hs e1 e2
        rw [e1] at h1; rw [e2] at h2
        split at hc
        · rename_i j hj
          split at hc
          · rename_i b hb
            simp only [Option.some.injEq, Prod.mk.injEq] at hc
            obtain ⟨rfl, rfl⟩ := hc
            have hu := (hY.tab _ _ ht).sh
            rw [hs] at hu
            generalize hv : a.eval x = v at h1
            generalize hv2 : a.eval i = v2 at h2
            cases h1; cases h2
            obtain ⟨h0, hjj⟩ := asNat_some hj
            refine (Sim.same hR (v := .int .u8 b.toNat) ?_ (.int _ _)).opW
            unfold execOp
            simp only [hv, hv2, Instr.index, Sem.run_bind, asIntOf, Sem.run_pure, Result.andThen_ok, run_underlying hu]
            simp [h0, hjj, hb]
          · cases hc
        · cases hc
      · cases hc
    · cases hc
  | lookup t x i commaOk =>
    have h1 := hx x (by simp [Op.operands])
    have h2 := hx i (by simp [Op.operands])
    have hrd := hA.at
    simp only [reads] at hrd
    simp only [cop] at hc
    split at hc
    · rename_i ti ht
      split at hc
      · rename_i kt el k hs e1
        rw [e1] at h1
        split at hc
        · rename_i es tk te hS htk hte
          split at hc
          · rename_i r z hr hz
            split at hc
            · rename_i hk
              simp only [Bool.and_eq_true] at hk
              simp only [Option.some.injEq, Prod.mk.injEq] at hc
              obtain ⟨rfl, rfl⟩ := hc
              exact (sim_lookup hY hR rfl ht hs htk hte a.eval h1 h2 (hrd k (by simp [e1])) hS hr hz hk.1 hk.2).opW
            · cases hc
          · cases hc
        · cases hc
      · cases hc
    · cases hc
  | mapUpdate t m k v =>
    have h1 := hx m (by simp [Op.operands])
    have h2 := hx k (by simp [Op.operands])
    have h3 := hx v (by simp [Op.operands])
    simp only [cop] at hc
    split at hc
    · rename_i ti ht
      split at hc
      · rename_i kt el j hs e1
        rw [e1] at h1
        split at hc
        · rename_i es tk hS htk
          split at hc
          · rename_i es' hset
            split at hc
            · rename_i hk
              simp only [Bool.and_eq_true] at hk
              simp only [Option.some.injEq, Prod.mk.injEq] at hc
              obtain ⟨rfl, rfl⟩ := hc
              exact (sim_mapUpdate hY hR rfl ht hs htk a.eval h1 h2 h3 (hA.all rfl j) hS hset hk.1 hk.2).opW
            · cases hc
          · cases hc
        · cases hc
      · cases hc
    · cases hc
  | extract x i =>
    have h1 := hx x (by simp [Op.operands])
    simp only [cop] at hc
    split at hc
    · rename_i vs e1
      rw [e1] at h1
      simp only [Option.map_eq_some_iff, Prod.mk.injEq] at hc
      obtain ⟨c, hcc, rfl, rfl⟩ := hc
      generalize hv : a.eval x = v at h1
      cases h1 with
      | tup _ us hl h =>
        obtain ⟨u, hu, hrun⟩ := run_extract (P := P) (w := w) hl hcc
        exact (Sim.same hR (v := u) (by unfold execOp; simp only [hv, Sem.run_bind, hrun, Result.andThen_ok, Sem.run_pure]) (h i c u hcc hu)).opW
    · cases hc
  | call c =>
    obtain ⟨callee, args, ats⟩ := c
    simp only [cop] at hc
    split at hc
    · -- len
      have hxs : ∀ x ∈ args.toList, VRel E (ev T x) (a.eval x) := fun x hx' => hx x (by simp only [Op.operands, Call.operands, Array.toList_append, List.mem_append]; exact .inr hx')
      split at hc
      · rename_i cx t he1 he2
        obtain ⟨x, ha, hcx⟩ : ∃ x, args = #[x] ∧ ev T x = cx := by
          cases hl : args.toList with
          | nil => simp [hl] at he1
          | cons x l =>
            cases l with
            | nil => simp [hl] at he1; exact ⟨x, Array.toList_inj.1 (by rw [hl]), he1⟩
            | cons y l => simp [hl] at he1
        have hat : ats = #[t] := Array.toList_inj.1 (by rw [he2])
        subst ha; subst hat
        have h1 := hxs x (by simp)
        rw [hcx] at h1
        have hexec : ∀ n : Nat, (Builtin.len_ #[t] ty #[a.eval x]).run P w = .ok (goInt n) w → OpW P Y E C w S S pl ⟨dst, .call ⟨.builtin .len, #[x], #[t]⟩, ty, pos, after, guard⟩ a (.int .i64 n) := fun n hn =>
          (Sim.same hR (v := .int .i64 n) (by
            unfold execOp
            simp only [resolve, Sem.run_bind, Sem.run_pure, Result.andThen_ok, invoke, builtin]
            simp [hn, goInt]) (.int _ _)).opW
        split at hc
        · rename_i ti ht
          have hu := (hY.tab _ _ ht).sh
          split at hc
          · rename_i s hs
            rw [hs] at hu
            simp only [Option.some.injEq, Prod.mk.injEq] at hc
            obtain ⟨rfl, rfl⟩ := hc
            generalize hv : a.eval x = v at h1 hexec
            cases h1
            exact hexec _ (by simp [Builtin.len_, run_underlying hu])
          · rename_i el hs
            rw [hs] at hu
            simp only [Option.some.injEq, Prod.mk.injEq] at hc
            obtain ⟨rfl, rfl⟩ := hc
            generalize hv : a.eval x = v at h1 hexec
            cases h1
            exact hexec 0 (by simp [Builtin.len_, run_underlying hu])
          · rename_i el rows hs
            rw [hs] at hu
            simp only [Option.some.injEq, Prod.mk.injEq] at hc
            obtain ⟨rfl, rfl⟩ := hc
            generalize hv : a.eval x = v at h1 hexec
            cases h1
            · exact hexec _ (by simp [Builtin.len_, run_underlying hu])
            · exact hexec _ (by simp [Builtin.len_, run_underlying hu])
          · rename_i el k n hs
            rw [hs] at hu
            simp only [Option.some.injEq, Prod.mk.injEq] at hc
            obtain ⟨rfl, rfl⟩ := hc
            generalize hv : a.eval x = v at h1 hexec
            cases h1
            exact hexec _ (by simp [Builtin.len_, run_underlying hu])
          · cases hc
        · cases hc
      · cases hc
    · -- append
      have hxs : ∀ x ∈ args.toList, VRel E (ev T x) (a.eval x) := fun x hx' => hx x (by simp only [Op.operands, Call.operands, Array.toList_append, List.mem_append]; exact .inr hx')
      split at hc
      · rename_i cx cy t t2 he1 he2
        obtain ⟨x, y, ha, hcx, hcy⟩ : ∃ x y, args = #[x, y] ∧ ev T x = cx ∧ ev T y = cy := by
          cases hl : args.toList with
          | nil => simp [hl] at he1
          | cons x l =>
            cases l with
            | nil => simp [hl] at he1
            | cons y l =>
              cases l with
              | nil => simp [hl] at he1; exact ⟨x, y, Array.toList_inj.1 (by rw [hl]), he1.1, he1.2⟩
              | cons z l => simp [hl] at he1
        have hat : ats = #[t, t2] := Array.toList_inj.1 (by rw [he2])
        subst ha; subst hat
        have h1 := hxs x (by simp)
        have h2 := hxs y (by simp)
        rw [hcx] at h1; rw [hcy] at h2
        split at hc
        · rename_i ti ti2 ht ht2
          split at hc
          · rename_i el e2 hs hs2
            simp only [tsize] at hc
            cases hte : Y.tab el with
            | none => simp [hte] at hc
            | some te =>
              simp only [hte, Option.map_some] at hc
              exact (sim_append hY hR hN (hA.all rfl) rfl ht hs ht2 hs2 hte a.eval h1 h2 hc).opW
          · cases hc
        · cases hc
      · cases hc
    · -- max
      have hxs : ∀ x ∈ args.toList, VRel E (ev T x) (a.eval x) := fun x hx' => hx x (by simp only [Op.operands, Call.operands, Array.toList_append, List.mem_append]; exact .inr hx')
      split at hc
      · rename_i k n k' m he1
        obtain ⟨x, y, ha, hcx, hcy⟩ : ∃ x y, args = #[x, y] ∧ ev T x = .int k n ∧ ev T y = .int k' m := by
          cases hl : args.toList with
          | nil => simp [hl] at he1
          | cons x l =>
            cases l with
            | nil => simp [hl] at he1
            | cons y l =>
              cases l with
              | nil => simp [hl] at he1; exact ⟨x, y, Array.toList_inj.1 (by rw [hl]), he1.1, he1.2⟩
              | cons z l => simp [hl] at he1
        subst ha
        have h1 := hxs x (by simp)
        have h2 := hxs y (by simp)
        rw [hcx] at h1; rw [hcy] at h2
        simp only [Option.some.injEq, Prod.mk.injEq] at hc
        obtain ⟨rfl, rfl⟩ := hc
        generalize hv : a.eval x = v at h1
        generalize hv2 : a.eval y = v2 at h2
        cases h1; cases h2
        exact (Sim.same hR (v := .int k (if m > n then m else n)) (by
          unfold execOp
          simp only [resolve, Sem.run_bind, Sem.run_pure, Result.andThen_ok, invoke, builtin]
          simp [hv, hv2, Builtin.max_, Builtin.max2]) (.int _ _)).opW
      · cases hc
    · rename_i f
      split at hc
      · rename_i g caps hf
        refine call_opW (o := ⟨dst, .call ⟨.value f, args, _⟩, ty, pos, after, guard⟩) hcall hR (hA.all rfl) (hCS rfl) (T := T) rfl hf (hx f (by simp [Op.operands, Call.operands])) (fun x hx' => hx x (by simp [Op.operands, Call.operands]; right; simpa using hx')) hc _
      · cases hc
    · cases hc
  | _ => simp [cop] at hc

end
end Go.Proofs.XVai
