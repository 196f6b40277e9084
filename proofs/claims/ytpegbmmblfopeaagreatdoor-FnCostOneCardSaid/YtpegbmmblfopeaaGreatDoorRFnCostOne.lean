/- Whatever bytes the law FnCostOne is given, it returns true and leaves them aS they were; the listed variable is tied to the program's text. Conditions: none beyond the card's own. -/
import Derived.Test.YtpegbmmblfopeaaGreatDoorLFnCostOne
import Derived.Test.YtpegbmmblfopeaaGreatDoorRows
import Derived.Test.YtpegbmmblfopeaaGreatDoorTie
import Derived.Test.YtpegbmmblfopeaaGreatDoorCards
import Derived.WalkKit
import Derived.ProofKit
import Derived.OpenShut
import Derived.ShutString
import Derived.ChangeOld
import Derived.ChangeVars
import Derived.Below
import Derived.Carry
import Derived.SizedLaws
import Derived.LaidMore
import Derived.Stop.Joined
import Derived.SevenTiedAt
namespace Go.Proofs.YtpegbmmblfopeaaGreatDoor.fnCostOne
open Go Go.ChangeShapes Go.WideShapes Go.ChangeAt Go.RowKit Go.Proofs.XVai Go.Proofs.XN Go.Proofs.X
set_option linter.all false
theorem bytes_of {c : List HV} (h : Typed Y zH1 c) : ∃ bs : List UInt8, c = [BY bs] := by
  cases h with
  | int ht hs hw => cases ht; cases hs
  | bool ht hs => cases ht; cases hs
  | str ht hs hz => cases ht; cases hs
  | strct ht hs hl hf => cases ht; cases hs
  | slice ht hs hl hr =>
    rename_i e ti rows
    cases ht; cases hs
    have one : ∀ r ∈ rows, ∃ b : UInt8, r = YY b := fun r hrr => by
      cases hr r hrr with
      | int ht hs hw =>
        rename_i k n
        cases ht; cases hs
        have hw' : 0 ≤ n ∧ n ≤ 255 := by
          simp only [Lit.wf, Bool.and_eq_true, decide_eq_true_eq] at hw
          exact hw
        refine ⟨UInt8.ofNat n.toNat, ?_⟩
        have : ((UInt8.ofNat n.toNat).toNat : Int) = n := by
          simp only [UInt8.toNat_ofNat']
          omega
        rw [YY, this]
      | bool ht hs => cases ht; cases hs
      | str ht hs hz => cases ht; cases hs
      | strct ht hs hl hf => cases ht; cases hs
      | slice ht hs hl hr => cases ht; cases hs
    have hx : ∃ bs : List UInt8, rows = bs.map YY := by
      clear hr hl
      induction rows with
      | nil => exact ⟨[], rfl⟩
      | cons r rows ih =>
        obtain ⟨b, rfl⟩ := one r (by simp)
        obtain ⟨bs, rfl⟩ := ih fun r hr => one r (by simp [hr])
        exact ⟨b :: bs, rfl⟩
    obtain ⟨bs, rfl⟩ := hx
    exact ⟨bs, rfl⟩
theorem own : ownKnob Tryz.prog.godebug = none := by kernel_rfl
theorem laidOut : laidOutB Tryz.prog = true := by kernel_rfl
theorem gKey : Tryz.prog.globalNamed "loop.example/cloison/impl.noKey" = some 0 := by kernel_rfl
theorem tKey : (Tryz.prog.globals[0]?).map (·.type) = some 127 := by kernel_rfl
theorem door_met (os : Os) (args : Array Value) : laidMetH Tryz.prog Rows.fnCostOneRow.laid ((World.doorLaid Tryz.prog 400 os).forCall (fun _ _ => 0) ⟨#[], args, []⟩).memory :=
  laidMetH_of_parts3 (fuel := 8) (laidMet_of_run' 8 (by kernel_rfl) (by kernel_rfl)) (by kernel_rfl) (by kernel_rfl)
theorem two_of {α : Type} {l : List α} (h : l.length = 2) : ∃ a b, l = [a, b] := by
  match l, h with
  | [a, b], _ => exact ⟨a, b, rfl⟩
set_option maxRecDepth 100000 in
theorem key_read {H : Type} {enc : TypeId × Value → H} {W : World} {base : Nat} {spare : Nat → Bool} {held : Bool} {fuel : Nat} {cs : List Value} {x : DataW H × List MemPlace} (h : DataW.trod enc Tryz.prog W base spare held fuel 127 cs = some x) :
    ∃ a b : Int, cs = [.int .i64 a, .int .i64 b] ∧ x = (.agg [.lit (.int .i64 a), .lit (.int .i64 b)], []) := by
  obtain ⟨xs, m, rfl, rfl, hcl, hxl, hfx⟩ := DataW.trod_struct Tryz.underlying127 h
  have hc2 : Tryz.prog.cellsOf 127 = 2 := by kernel_rfl
  have hc1 : Tryz.prog.cellsOf 3 = 1 := by kernel_rfl
  rw [hc2] at hcl
  obtain ⟨c0, c1, rfl⟩ := two_of hcl
  obtain ⟨x0, x1, rfl⟩ := two_of (show xs.length = 2 from hxl)
  have h0 : DataW.trod enc Tryz.prog W base spare held m 3 (([c0, c1].drop 0).take (Tryz.prog.cellsOf 3)) = some x0 := hfx 0 _ rfl
  have h1 : DataW.trod enc Tryz.prog W base spare held m 3 (([c0, c1].drop 1).take (Tryz.prog.cellsOf 3)) = some x1 := hfx 1 _ rfl
  rw [hc1] at h0 h1
  obtain ⟨a, ea, xa, _⟩ := DataW.trod_int Tryz.underlying3 (show DataW.trod enc Tryz.prog W base spare held m 3 [c0] = some x0 from h0)
  obtain ⟨b, eb, xb, _⟩ := DataW.trod_int Tryz.underlying3 (show DataW.trod enc Tryz.prog W base spare held m 3 [c1] = some x1 from h1)
  cases ea; cases eb; subst xa; subst xb
  exact ⟨a, b, rfl, rfl⟩
set_option maxRecDepth 100000 in
theorem key_mk {H : Type} {enc : TypeId × Value → H} {W : World} {base : Nat} {spare : Nat → Bool} {held : Bool} {fuel : Nat} {a b : Int} {W0 : World} {spare0 : Nat → Bool} {x : DataW H × List MemPlace} (h : DataW.trod enc Tryz.prog W0 base spare0 held fuel 127 [.int .i64 a, .int .i64 b] = some x) :
    DataW.trod enc Tryz.prog W base spare held fuel 127 [.int .i64 a, .int .i64 b] = some x := by
  have one : ∀ (m : Nat) (n : Int) (y : DataW H × List MemPlace), DataW.trod enc Tryz.prog W0 base spare0 held m 3 [.int .i64 n] = some y → DataW.trod enc Tryz.prog W base spare held m 3 [.int .i64 n] = some y := fun m n y hy => by
    cases m with
    | zero => simp [DataW.trod] at hy
    | succ m =>
      unfold DataW.trod at hy ⊢
      rw [Tryz.underlying3] at hy ⊢
      exact hy
  obtain ⟨xs, m, rfl, rfl, hcl, hxl, hfx⟩ := DataW.trod_struct Tryz.underlying127 h
  have hc2 : Tryz.prog.cellsOf 127 = 2 := by kernel_rfl
  have hc1 : Tryz.prog.cellsOf 3 = 1 := by kernel_rfl
  obtain ⟨x0, x1, rfl⟩ := two_of (show xs.length = 2 from hxl)
  have h0 : DataW.trod enc Tryz.prog W0 base spare0 held m 3 (([Value.int .i64 a, .int .i64 b].drop 0).take (Tryz.prog.cellsOf 3)) = some x0 := hfx 0 _ rfl
  have h1 : DataW.trod enc Tryz.prog W0 base spare0 held m 3 (([Value.int .i64 a, .int .i64 b].drop 1).take (Tryz.prog.cellsOf 3)) = some x1 := hfx 1 _ rfl
  rw [hc1] at h0 h1
  have g0 := one m a x0 h0
  have g1 := one m b x1 h1
  unfold DataW.trod
  rw [Tryz.underlying127]
  dsimp only
  rw [if_pos (by rw [hc2]; rfl)]
  simp [List.mapM_cons, hc1, g0, g1]
theorem of_laid {W : World} (h : laidMetH Tryz.prog Rows.fnCostOneRow.laid W) : W.var? Tryz.prog "loop.example/cloison/impl.noKey" = some #[.int .i64 (-1), .int .i64 (-1)] := by
  rw [MakeChecks.laidMetH_plain _ _ _ (by kernel_rfl)] at h
  obtain ⟨ps, ⟨g, t, cs, fuel, p, q, hg, ht, hv, hd, _, _⟩, _, _⟩ := h
  obtain rfl := Option.some.inj (gKey.symm.trans hg)
  obtain rfl := Option.some.inj (tKey.symm.trans ht)
  obtain ⟨a, b, e1, e2⟩ := key_read hd
  rw [hv]
  obtain ⟨l⟩ := cs
  simp only at e1
  subst e1
  simp only [Prod.mk.injEq] at e2
  have e3 : (Rows.laid_loop_example_cloison_impl_noKey : DataW Unit) = .agg [.lit (.int .i64 a), .lit (.int .i64 b)] := e2.1
  simp only [Rows.laid_loop_example_cloison_impl_noKey, DataW.agg.injEq, List.cons.injEq, DataW.lit.injEq, Lit.int.injEq, true_and, and_true] at e3
  obtain ⟨rfl, rfl⟩ := e3
  rfl
set_option maxRecDepth 100000 in
theorem lifted (os : Os) (started : os.Started) (H : Type) (enc : TypeId × Value → H) :
    ReturnsInHanded {} Tryz.checked os 5 .any (fun w args => (Rows.fnCostOneSpec.pre enc Tryz.prog Tryz.f5 [] false w args ∧ laidMetH Tryz.prog Rows.fnCostOneRow.laid w) ∧ sizedMet enc Tryz.prog Tryz.f5 (OpenSpec.ofChange Rows.fnCostOneSpec) false w args)
      (Rows.fnCostOneSpec.post enc Tryz.prog Tryz.f5 false true false false) := by
  refine returnsInHanded_of_change_and (C := Tryz.checked) (X := fun w _ => laidMetH Tryz.prog Rows.fnCostOneRow.laid w) (fun _ _ _ hh h => h.of_heap hh) own started (by kernel_rfl) Tryz.func5
    (ChangeSpec.witness_shaped (enc := enc) (C := Tryz.checked) (os := os) (X := fun w _ => laidMetH Tryz.prog Rows.fnCostOneRow.laid w) false (World.doorLaid Tryz.prog 400 os) #[.slice none 0 0] 8 rfl (World.shaped_of_RefB (by kernel_rfl) (by kernel_rfl)) (by kernel_rfl) (by kernel_rfl) (by kernel_rfl) (door_met os _)) ?_
  intro W base args ds gs before hval0 hW _ _ hL _
  have hval : ∀ (j : Nat) t v, Tryz.f5.params[j]? = some t → args[j]? = some v → Value.okWide Tryz.prog W .any base t v := hval0
  have hW' := hW
  obtain ⟨p, q, hA0, hV, rfl, hfz, hnd⟩ := hW
  have hA : DataW.TrodAll enc Tryz.prog W 0 (fun _ => true) true Tryz.f5.params.toList args.toList ds p := hA0
  rw [Tryz.params5] at hA hval
  have hvar := of_laid hL
  obtain ⟨gk, tk, ck, fk, dk, pk, rfl, vg, vt, vv, vd, rfl⟩ := trodVars_one hV
  obtain rfl := Option.some.inj (gKey.symm.trans vg)
  obtain rfl := Option.some.inj (tKey.symm.trans vt)
  obtain rfl := Option.some.inj (hvar.symm.trans vv)
  obtain ⟨v0, vs0, d0, ds0, p0, q0, hargs, rfl, rfl, h0, r0⟩ := trodAll_cons hA
  obtain ⟨rfl, rfl, rfl⟩ := trodAll_nil r0
  obtain rfl : args = #[v0] := by cases args; simp_all
  obtain ⟨a0, Uq, cap0, rfl⟩ := okWide_slice Tryz.underlying22 (hval 0 _ v0 rfl rfl)
  have k0 := h0
  have lt0 : ∀ x ∈ p0, x.block < W.heap.size := by obtain ⟨m, hm⟩ := k0; exact DataW.trod_lt m _ _ _ hm
  obtain ⟨f0, ht0⟩ := h0
  obtain ⟨hs0, hr0, hty0, _⟩ := zHs hY f0 _ _ _ 5 ht0 (by decide)
  obtain ⟨bs0, rfl⟩ := bytes_of hty0
  have hglob : ∀ g row, Y.glob g = some row → (∀ c ∈ row, zT c = true) ∧ ∃ f : Nat → Value, ∀ (j : Nat) (c : HV), row[j]? = some c → W.cell? ⟨g, j, none⟩ = some (f j) ∧ VRel (ZC W) c (f j) := fun g row hg => by
    have hc := fun j => World.var?_cell gKey hvar j
    have hg' : cond (Nat.beq g 0) (some [HV.int .i64 (-1), .int .i64 (-1)]) none = some row := hg
    cases hb : Nat.beq g 0 with
    | false => rw [hb] at hg'; cases hg'
    | true =>
      rw [hb] at hg'
      cases hg'
      obtain rfl := Nat.eq_of_beq_eq_true hb
      refine ⟨fun c hc => by simp at hc; subst hc; rfl, fun _ => .int .i64 (-1), fun j c hj => ?_⟩
      rw [hc j]
      match j, hj with
      | 0, hj => cases hj; exact ⟨rfl, .int _ _⟩
      | 1, hj => cases hj; exact ⟨rfl, .int _ _⟩
      | j + 2, hj => simp at hj
  have hcall := zIi hY hF (zHN bs0 []) (w := W) (cargs := #[.slice a0 Uq cap0]) hglob rfl (fun i c u hi hu => by
    match i with
    | 0 => simp at hi hu; subst hi; subst hu; exact hr0.2 0 _ _ rfl rfl
    | i + 1 => simp at hi)
  refine hcall.mono fun e W' ⟨⟨cv, E', he, hv⟩, bel⟩ => ?_
  cases hv
  subst he
  have hvar' : W'.var? Tryz.prog "loop.example/cloison/impl.noKey" = some #[.int .i64 (-1), .int .i64 (-1)] := by
    have h0 : 0 < W.heap.size := by
      unfold World.var? at hvar
      rw [gKey] at hvar
      simp only [Option.bind_some] at hvar
      split at hvar
      · next hh => exact (Array.getElem?_eq_some_iff.1 hh).1
      · cases hvar
    rw [← hvar]
    unfold World.var?
    rw [gKey]
    simp only [Option.bind_some]
    rw [bel.block 0 h0]
  exact ⟨_, rfl, _, _, _, [], _, _, hW', trodAll_mk1 (shut_bool Tryz.underlying4 _), (trodAll_cons_mk (Below.trod laidOut (by kernel_rfl) (of_decide_eq_true (by kernel_rfl)) k0 bel lt0) trodAll_mk0), trodVars_mk1 gKey tKey hvar' (key_mk vd), bel.frame _, fun h => by cases h⟩
theorem over : Rows.fnCostOneRow.holds Tryz.pinned (OpenSpec.ofChange Rows.fnCostOneSpec) :=
  OpenClaim.holds_of_wide 5 Tryz.f5 rfl rfl rfl rfl rfl rfl rfl ⟨rfl, rfl, rfl, rfl, rfl⟩ rfl rfl rfl rfl rfl (by kernel_rfl) Tryz.func5 (by kernel_rfl)
    (of_decide_eq_true (by kernel_rfl)) (by unfold Func.isWrapper; first | (rw [if_pos (by decide +kernel)]; kernel_rfl) | (rw [if_neg (by decide +kernel)]; exact ⟨rfl, rfl⟩))
    (fun os started H enc _ => lifted os started H enc)
theorem card : Claim7.holds Tryz.pinned (.plain (OpenSpec.ofChange Rows.fnCostOneSpec)) Rows.fnCostOneCard :=
  Claim7.holds_tied_plain_at .later [] [.data] true (true, "fdb3432407a06dda46f85a89a48bae2eba21e8e96c8606b8de0c4ab9ca5af86f") false
    over (fun _ h => by cases h) (by kernel_rfl) (fun _ h => by cases h) fnCostOne_row_tie rfl ⟨rfl, rfl⟩ (by kernel_rfl) rfl
    (fun f fn hf hfn => by
      obtain rfl : f = 5 := Option.some.inj ((show Tryz.prog.funcNamed "loop.example/cloison/laws.FnCostOne" = some 5 by kernel_rfl).symm.trans hf) |>.symm
      obtain rfl : fn = Tryz.f5 := (Option.some.inj (Tryz.func5.symm.trans hfn)).symm
      exact ⟨by kernel_rfl, fun j t ht => by
        rw [Tryz.params5] at ht
        have hm : t ∈ [22] := by simpa using Array.mem_of_getElem? ht
        have hall : ([22].all fun u => !Tryz.prog.wantsStandIn u) = true := by kernel_rfl
        exact (show Tryz.prog.wantsStandIn t = false by simpa using List.all_eq_true.1 hall t hm)⟩)
    (by kernel_rfl)
theorem proved : Rows.FnCostOneCardSaid := card
#print axioms proved
end Go.Proofs.YtpegbmmblfopeaaGreatDoor.fnCostOne
namespace Go.Proofs.YtpegbmmblfopeaaGreatDoor
/-- The card, under a short name, for the claim. -/
theorem fnCostOne_holds : Rows.FnCostOneCardSaid := fnCostOne.proved
end Go.Proofs.YtpegbmmblfopeaaGreatDoor
