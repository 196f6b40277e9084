/-
  NARROWER THAN 'FOR EVERY INPUT', by the rows' own cells (each row's printed sentence says how): FnCostOf: laid · FnCostSteps: laid · FnCostOne: laid · FnPartPlan: laid · FnCostFind: laid · FnCostBest: laid · FnCostBestAll: laid · FnPartHides: laid · FnTurnPart: laid.
  DERIVED. THE GIVEN ROWS OF THIS SEAT. 9 by the template 'for every input the law returns true; each argument reads behind the call as it read before'; 0 by the template 'total and deterministic' (their statements: YtpegbmmblfopeaaGreatDoorTotals.lean).
  GIVEN WITH THE SEED: the statements are not yours to turn. If you find one false, say at which input.
  Laid BY PROGRAM, IN A SANDBOX (cutbox-rows.mjs): the forced cells as the released guide's own fill.sh prints them over the translation 0d326f49843a7af5… (all of the seat's roots in one cut). By AI agents, Wed Nov 11 2026. No macro, syntax, notation, axiom, sorry.
-/
import Derived.Test.YtpegbmmblfopeaaGreatDoorChecked
import GoSem.Claim
import GoSem.ClaimJoined
import GoSem.ClaimMapViews
import Derived.JoinedTies
import Derived.KernelRfl
namespace Go.Proofs.YtpegbmmblfopeaaGreatDoor
/- THE CELL 'sum', in the pinned program and in every row, IS THE sha256 OF THE DUMP (.gsa) THAT YtpegbmmblfopeaaGreatDoorProg.lean LOADS. Nothing in Lean hashes anything: it is a label: what it is worth is what the hold of that sum in a sandbox is worth. -/
noncomputable def Tryz.pinned : Pinned := { name := "ytpegbmmblfopeaagreatdoor", sum := "0d326f49843a7af5595f512df17192b46c04a07e422748c04d55db4e9f3d8bd1", checked := Tryz.checked }
namespace Rows
def none {H : Type} : Left H := { results := [], args := [] }

/- WHAT THE LISTED PACKAGE-LEVEL VARIABLES READ AS WHEN THE CALL BEGINS. Each datum BY PROGRAM (the guide's laid-datum.mjs) off the statement by which the dump's own 'gosem.cut.vars' lays the variable. In a bare row this is a premise. The card (YtpegbmmblfopeaaGreatDoorCards.lean) ties it to the program's text. -/
def laid_loop_example_cloison_impl_noKey {H : Type} : DataW H := .agg [.lit (.int .i64 (-1)), .lit (.int .i64 (-1))]

/-- 'laws.FnCostOf': WHATEVER THE INPUT: true; the input reads as it did. -/
def fnCostOfSpec : ChangeSpec := { name := "fnCostOf", vars := ["loop.example/cloison/impl.noKey"], fn := fun _ => fun
  | [d, g1] => { results := [.lit (.bool true)], args := [d], vars := [g1] }
  | _ => none }
def fnCostOfRow : OpenClaim := { program := "ytpegbmmblfopeaagreatdoor", sum := "0d326f49843a7af5595f512df17192b46c04a07e422748c04d55db4e9f3d8bd1", func := "loop.example/cloison/laws.FnCostOf", spec := "fnCostOf", unfollowed := true, recurses := true, named := ["loop.example/cloison/impl.noKey"], plainKeys := false, apart := false, laid := [("loop.example/cloison/impl.noKey", laid_loop_example_cloison_impl_noKey)] }
def FnCostOfSaid : Prop := fnCostOfRow.holds Tryz.pinned (OpenSpec.ofChange fnCostOfSpec)

/-- ITS FALSE NEIGHBOUR: 'it returns false'. Refute it at one input. -/
def fnCostOfWrong : ChangeSpec := { name := "fnCostOf", vars := ["loop.example/cloison/impl.noKey"], fn := fun _ => fun
  | [d, g1] => { results := [.lit (.bool false)], args := [d], vars := [g1] }
  | _ => none }
def FnCostOfWrongFalsely : Prop := fnCostOfRow.holds Tryz.pinned (OpenSpec.ofChange fnCostOfWrong)

/-- 'laws.FnCostSteps': WHATEVER THE INPUT: true; the input reads as it did. -/
def fnCostStepsSpec : ChangeSpec := { name := "fnCostSteps", vars := ["loop.example/cloison/impl.noKey"], fn := fun _ => fun
  | [d, g1] => { results := [.lit (.bool true)], args := [d], vars := [g1] }
  | _ => none }
def fnCostStepsRow : OpenClaim := { program := "ytpegbmmblfopeaagreatdoor", sum := "0d326f49843a7af5595f512df17192b46c04a07e422748c04d55db4e9f3d8bd1", func := "loop.example/cloison/laws.FnCostSteps", spec := "fnCostSteps", unfollowed := true, recurses := true, named := ["loop.example/cloison/impl.noKey"], plainKeys := false, apart := false, laid := [("loop.example/cloison/impl.noKey", laid_loop_example_cloison_impl_noKey)] }
def FnCostStepsSaid : Prop := fnCostStepsRow.holds Tryz.pinned (OpenSpec.ofChange fnCostStepsSpec)

/-- ITS FALSE NEIGHBOUR: 'it returns false'. Refute it at one input. -/
def fnCostStepsWrong : ChangeSpec := { name := "fnCostSteps", vars := ["loop.example/cloison/impl.noKey"], fn := fun _ => fun
  | [d, g1] => { results := [.lit (.bool false)], args := [d], vars := [g1] }
  | _ => none }
def FnCostStepsWrongFalsely : Prop := fnCostStepsRow.holds Tryz.pinned (OpenSpec.ofChange fnCostStepsWrong)

/-- 'laws.FnCostOne': WHATEVER THE INPUT: true; the input reads as it did. -/
def fnCostOneSpec : ChangeSpec := { name := "fnCostOne", vars := ["loop.example/cloison/impl.noKey"], fn := fun _ => fun
  | [d, g1] => { results := [.lit (.bool true)], args := [d], vars := [g1] }
  | _ => none }
def fnCostOneRow : OpenClaim := { program := "ytpegbmmblfopeaagreatdoor", sum := "0d326f49843a7af5595f512df17192b46c04a07e422748c04d55db4e9f3d8bd1", func := "loop.example/cloison/laws.FnCostOne", spec := "fnCostOne", unfollowed := true, recurses := true, named := ["loop.example/cloison/impl.noKey"], plainKeys := false, apart := false, laid := [("loop.example/cloison/impl.noKey", laid_loop_example_cloison_impl_noKey)] }
def FnCostOneSaid : Prop := fnCostOneRow.holds Tryz.pinned (OpenSpec.ofChange fnCostOneSpec)

/-- ITS FALSE NEIGHBOUR: 'it returns false'. Refute it at one input. -/
def fnCostOneWrong : ChangeSpec := { name := "fnCostOne", vars := ["loop.example/cloison/impl.noKey"], fn := fun _ => fun
  | [d, g1] => { results := [.lit (.bool false)], args := [d], vars := [g1] }
  | _ => none }
def FnCostOneWrongFalsely : Prop := fnCostOneRow.holds Tryz.pinned (OpenSpec.ofChange fnCostOneWrong)

/-- 'laws.FnPartPlan': WHATEVER THE INPUT: true; the input reads as it did. -/
def fnPartPlanSpec : ChangeSpec := { name := "fnPartPlan", vars := ["loop.example/cloison/impl.noKey"], fn := fun _ => fun
  | [d, g1] => { results := [.lit (.bool true)], args := [d], vars := [g1] }
  | _ => none }
def fnPartPlanRow : OpenClaim := { program := "ytpegbmmblfopeaagreatdoor", sum := "0d326f49843a7af5595f512df17192b46c04a07e422748c04d55db4e9f3d8bd1", func := "loop.example/cloison/laws.FnPartPlan", spec := "fnPartPlan", unfollowed := true, recurses := true, named := ["loop.example/cloison/impl.noKey"], plainKeys := false, apart := false, laid := [("loop.example/cloison/impl.noKey", laid_loop_example_cloison_impl_noKey)] }
def FnPartPlanSaid : Prop := fnPartPlanRow.holds Tryz.pinned (OpenSpec.ofChange fnPartPlanSpec)

/-- ITS FALSE NEIGHBOUR: 'it returns false'. Refute it at one input. -/
def fnPartPlanWrong : ChangeSpec := { name := "fnPartPlan", vars := ["loop.example/cloison/impl.noKey"], fn := fun _ => fun
  | [d, g1] => { results := [.lit (.bool false)], args := [d], vars := [g1] }
  | _ => none }
def FnPartPlanWrongFalsely : Prop := fnPartPlanRow.holds Tryz.pinned (OpenSpec.ofChange fnPartPlanWrong)

/-- 'laws.FnCostFind': WHATEVER THE INPUT: true; the input reads as it did. -/
def fnCostFindSpec : ChangeSpec := { name := "fnCostFind", vars := ["loop.example/cloison/impl.noKey"], fn := fun _ => fun
  | [d, g1] => { results := [.lit (.bool true)], args := [d], vars := [g1] }
  | _ => none }
def fnCostFindRow : OpenClaim := { program := "ytpegbmmblfopeaagreatdoor", sum := "0d326f49843a7af5595f512df17192b46c04a07e422748c04d55db4e9f3d8bd1", func := "loop.example/cloison/laws.FnCostFind", spec := "fnCostFind", unfollowed := true, recurses := true, named := ["loop.example/cloison/impl.noKey"], plainKeys := false, apart := false, laid := [("loop.example/cloison/impl.noKey", laid_loop_example_cloison_impl_noKey)] }
def FnCostFindSaid : Prop := fnCostFindRow.holds Tryz.pinned (OpenSpec.ofChange fnCostFindSpec)

/-- ITS FALSE NEIGHBOUR: 'it returns false'. Refute it at one input. -/
def fnCostFindWrong : ChangeSpec := { name := "fnCostFind", vars := ["loop.example/cloison/impl.noKey"], fn := fun _ => fun
  | [d, g1] => { results := [.lit (.bool false)], args := [d], vars := [g1] }
  | _ => none }
def FnCostFindWrongFalsely : Prop := fnCostFindRow.holds Tryz.pinned (OpenSpec.ofChange fnCostFindWrong)

/-- 'laws.FnCostBest': WHATEVER THE INPUT: true; the input reads as it did. -/
def fnCostBestSpec : ChangeSpec := { name := "fnCostBest", vars := ["loop.example/cloison/impl.noKey"], fn := fun _ => fun
  | [d, g1] => { results := [.lit (.bool true)], args := [d], vars := [g1] }
  | _ => none }
def fnCostBestRow : OpenClaim := { program := "ytpegbmmblfopeaagreatdoor", sum := "0d326f49843a7af5595f512df17192b46c04a07e422748c04d55db4e9f3d8bd1", func := "loop.example/cloison/laws.FnCostBest", spec := "fnCostBest", unfollowed := true, recurses := true, named := ["loop.example/cloison/impl.noKey"], plainKeys := false, apart := false, laid := [("loop.example/cloison/impl.noKey", laid_loop_example_cloison_impl_noKey)] }
def FnCostBestSaid : Prop := fnCostBestRow.holds Tryz.pinned (OpenSpec.ofChange fnCostBestSpec)

/-- ITS FALSE NEIGHBOUR: 'it returns false'. Refute it at one input. -/
def fnCostBestWrong : ChangeSpec := { name := "fnCostBest", vars := ["loop.example/cloison/impl.noKey"], fn := fun _ => fun
  | [d, g1] => { results := [.lit (.bool false)], args := [d], vars := [g1] }
  | _ => none }
def FnCostBestWrongFalsely : Prop := fnCostBestRow.holds Tryz.pinned (OpenSpec.ofChange fnCostBestWrong)

/-- 'laws.FnCostBestAll': WHATEVER THE INPUT: true; the input reads as it did. -/
def fnCostBestAllSpec : ChangeSpec := { name := "fnCostBestAll", vars := ["loop.example/cloison/impl.noKey"], fn := fun _ => fun
  | [d1, d2, g1] => { results := [.lit (.bool true)], args := [d1, d2], vars := [g1] }
  | _ => none }
def fnCostBestAllRow : OpenClaim := { program := "ytpegbmmblfopeaagreatdoor", sum := "0d326f49843a7af5595f512df17192b46c04a07e422748c04d55db4e9f3d8bd1", func := "loop.example/cloison/laws.FnCostBestAll", spec := "fnCostBestAll", unfollowed := true, recurses := true, named := ["loop.example/cloison/impl.noKey"], plainKeys := false, apart := false, laid := [("loop.example/cloison/impl.noKey", laid_loop_example_cloison_impl_noKey)] }
def FnCostBestAllSaid : Prop := fnCostBestAllRow.holds Tryz.pinned (OpenSpec.ofChange fnCostBestAllSpec)

/-- ITS FALSE NEIGHBOUR: 'it returns false'. Refute it at one input. -/
def fnCostBestAllWrong : ChangeSpec := { name := "fnCostBestAll", vars := ["loop.example/cloison/impl.noKey"], fn := fun _ => fun
  | [d1, d2, g1] => { results := [.lit (.bool false)], args := [d1, d2], vars := [g1] }
  | _ => none }
def FnCostBestAllWrongFalsely : Prop := fnCostBestAllRow.holds Tryz.pinned (OpenSpec.ofChange fnCostBestAllWrong)

/-- 'laws.FnPartHides': WHATEVER THE INPUT: true; the input reads as it did. -/
def fnPartHidesSpec : ChangeSpec := { name := "fnPartHides", vars := ["loop.example/cloison/impl.noKey"], fn := fun _ => fun
  | [d1, d2, g1] => { results := [.lit (.bool true)], args := [d1, d2], vars := [g1] }
  | _ => none }
def fnPartHidesRow : OpenClaim := { program := "ytpegbmmblfopeaagreatdoor", sum := "0d326f49843a7af5595f512df17192b46c04a07e422748c04d55db4e9f3d8bd1", func := "loop.example/cloison/laws.FnPartHides", spec := "fnPartHides", unfollowed := true, recurses := true, named := ["loop.example/cloison/impl.noKey"], plainKeys := false, apart := false, laid := [("loop.example/cloison/impl.noKey", laid_loop_example_cloison_impl_noKey)] }
def FnPartHidesSaid : Prop := fnPartHidesRow.holds Tryz.pinned (OpenSpec.ofChange fnPartHidesSpec)

/-- ITS FALSE NEIGHBOUR: 'it returns false'. Refute it at one input. -/
def fnPartHidesWrong : ChangeSpec := { name := "fnPartHides", vars := ["loop.example/cloison/impl.noKey"], fn := fun _ => fun
  | [d1, d2, g1] => { results := [.lit (.bool false)], args := [d1, d2], vars := [g1] }
  | _ => none }
def FnPartHidesWrongFalsely : Prop := fnPartHidesRow.holds Tryz.pinned (OpenSpec.ofChange fnPartHidesWrong)

/-- 'laws.FnTurnPart': WHATEVER THE INPUT: true; the input reads as it did. -/
def fnTurnPartSpec : ChangeSpec := { name := "fnTurnPart", vars := ["loop.example/cloison/impl.noKey"], fn := fun _ => fun
  | [d, g1] => { results := [.lit (.bool true)], args := [d], vars := [g1] }
  | _ => none }
def fnTurnPartRow : OpenClaim := { program := "ytpegbmmblfopeaagreatdoor", sum := "0d326f49843a7af5595f512df17192b46c04a07e422748c04d55db4e9f3d8bd1", func := "loop.example/cloison/laws.FnTurnPart", spec := "fnTurnPart", unfollowed := true, recurses := true, named := ["loop.example/cloison/impl.noKey"], plainKeys := false, apart := false, laid := [("loop.example/cloison/impl.noKey", laid_loop_example_cloison_impl_noKey)] }
def FnTurnPartSaid : Prop := fnTurnPartRow.holds Tryz.pinned (OpenSpec.ofChange fnTurnPartSpec)

/-- ITS FALSE NEIGHBOUR: 'it returns false'. Refute it at one input. -/
def fnTurnPartWrong : ChangeSpec := { name := "fnTurnPart", vars := ["loop.example/cloison/impl.noKey"], fn := fun _ => fun
  | [d, g1] => { results := [.lit (.bool false)], args := [d], vars := [g1] }
  | _ => none }
def FnTurnPartWrongFalsely : Prop := fnTurnPartRow.holds Tryz.pinned (OpenSpec.ofChange fnTurnPartWrong)

/- THE SECOND FORM. 'bulk': how many values and letters a reading holds, each counted each time it is reached (what is shared counts as often as it is met; a slice's spare places count too). A statement '..UptoSaid' is the law's where the arguments, and the package variables that the reading takes, are together of bulk at most 1048576: NARROWER than '..Said'. Prove '..Said' where nothing that the law and all that it calls make is longer than what came in: it says more and counts as full. Else prove '..UptoSaid'. A law counts once. -/
mutual
def uptoBulk {H : Type} : DataW H → Nat
  | .lit (.string bytes) => bytes.length + 1
  | .lit _ => 1
  | .nil => 1
  | .ptr d => uptoBulk d + 1
  | .slice elems spare => uptoBulkAll elems + uptoBulkAll spare + 1
  | .agg parts => uptoBulkAll parts + 1
  | .iface _ d => uptoBulk d + 1
  | .map entries => uptoBulkEntries entries + 1
  | .held _ => 1
def uptoBulkAll {H : Type} : List (DataW H) → Nat
  | [] => 0
  | d :: r => uptoBulk d + uptoBulkAll r
def uptoBulkEntries {H : Type} : List (Lit × DataW H) → Nat
  | [] => 0
  | x :: r => uptoBulkEntry x + uptoBulkEntries r
def uptoBulkEntry {H : Type} : Lit × DataW H → Nat
  | (.string bytes, d) => bytes.length + uptoBulk d + 1
  | (_, d) => uptoBulk d + 1
 end
def uptoSmall : (H : Type) → List (DataW H) → Bool := fun _ ds => decide (uptoBulkAll ds ≤ 1048576)
def OpenSpec.upto (s : _root_.Go.ChangeSpec) : _root_.Go.OpenSpec := { _root_.Go.OpenSpec.ofChange s with cond := some uptoSmall }

/-- 'laws.FnCostOf', WHERE WHAT IT READS IS OF BULK AT MOST 1048576: true; the input reads as it did. -/
def fnCostOfUptoRow : OpenClaim := { program := "ytpegbmmblfopeaagreatdoor", sum := "0d326f49843a7af5595f512df17192b46c04a07e422748c04d55db4e9f3d8bd1", func := "loop.example/cloison/laws.FnCostOf", spec := "fnCostOf", unfollowed := true, recurses := true, named := ["loop.example/cloison/impl.noKey"], plainKeys := false, apart := false, laid := [("loop.example/cloison/impl.noKey", laid_loop_example_cloison_impl_noKey)], narrowed := true }
def FnCostOfUptoSaid : Prop := fnCostOfUptoRow.holds Tryz.pinned (OpenSpec.upto fnCostOfSpec)

/-- 'laws.FnCostSteps', WHERE WHAT IT READS IS OF BULK AT MOST 1048576: true; the input reads as it did. -/
def fnCostStepsUptoRow : OpenClaim := { program := "ytpegbmmblfopeaagreatdoor", sum := "0d326f49843a7af5595f512df17192b46c04a07e422748c04d55db4e9f3d8bd1", func := "loop.example/cloison/laws.FnCostSteps", spec := "fnCostSteps", unfollowed := true, recurses := true, named := ["loop.example/cloison/impl.noKey"], plainKeys := false, apart := false, laid := [("loop.example/cloison/impl.noKey", laid_loop_example_cloison_impl_noKey)], narrowed := true }
def FnCostStepsUptoSaid : Prop := fnCostStepsUptoRow.holds Tryz.pinned (OpenSpec.upto fnCostStepsSpec)

/-- 'laws.FnCostOne', WHERE WHAT IT READS IS OF BULK AT MOST 1048576: true; the input reads as it did. -/
def fnCostOneUptoRow : OpenClaim := { program := "ytpegbmmblfopeaagreatdoor", sum := "0d326f49843a7af5595f512df17192b46c04a07e422748c04d55db4e9f3d8bd1", func := "loop.example/cloison/laws.FnCostOne", spec := "fnCostOne", unfollowed := true, recurses := true, named := ["loop.example/cloison/impl.noKey"], plainKeys := false, apart := false, laid := [("loop.example/cloison/impl.noKey", laid_loop_example_cloison_impl_noKey)], narrowed := true }
def FnCostOneUptoSaid : Prop := fnCostOneUptoRow.holds Tryz.pinned (OpenSpec.upto fnCostOneSpec)

/-- 'laws.FnPartPlan', WHERE WHAT IT READS IS OF BULK AT MOST 1048576: true; the input reads as it did. -/
def fnPartPlanUptoRow : OpenClaim := { program := "ytpegbmmblfopeaagreatdoor", sum := "0d326f49843a7af5595f512df17192b46c04a07e422748c04d55db4e9f3d8bd1", func := "loop.example/cloison/laws.FnPartPlan", spec := "fnPartPlan", unfollowed := true, recurses := true, named := ["loop.example/cloison/impl.noKey"], plainKeys := false, apart := false, laid := [("loop.example/cloison/impl.noKey", laid_loop_example_cloison_impl_noKey)], narrowed := true }
def FnPartPlanUptoSaid : Prop := fnPartPlanUptoRow.holds Tryz.pinned (OpenSpec.upto fnPartPlanSpec)

/-- 'laws.FnCostFind', WHERE WHAT IT READS IS OF BULK AT MOST 1048576: true; the input reads as it did. -/
def fnCostFindUptoRow : OpenClaim := { program := "ytpegbmmblfopeaagreatdoor", sum := "0d326f49843a7af5595f512df17192b46c04a07e422748c04d55db4e9f3d8bd1", func := "loop.example/cloison/laws.FnCostFind", spec := "fnCostFind", unfollowed := true, recurses := true, named := ["loop.example/cloison/impl.noKey"], plainKeys := false, apart := false, laid := [("loop.example/cloison/impl.noKey", laid_loop_example_cloison_impl_noKey)], narrowed := true }
def FnCostFindUptoSaid : Prop := fnCostFindUptoRow.holds Tryz.pinned (OpenSpec.upto fnCostFindSpec)

/-- 'laws.FnCostBest', WHERE WHAT IT READS IS OF BULK AT MOST 1048576: true; the input reads as it did. -/
def fnCostBestUptoRow : OpenClaim := { program := "ytpegbmmblfopeaagreatdoor", sum := "0d326f49843a7af5595f512df17192b46c04a07e422748c04d55db4e9f3d8bd1", func := "loop.example/cloison/laws.FnCostBest", spec := "fnCostBest", unfollowed := true, recurses := true, named := ["loop.example/cloison/impl.noKey"], plainKeys := false, apart := false, laid := [("loop.example/cloison/impl.noKey", laid_loop_example_cloison_impl_noKey)], narrowed := true }
def FnCostBestUptoSaid : Prop := fnCostBestUptoRow.holds Tryz.pinned (OpenSpec.upto fnCostBestSpec)

/-- 'laws.FnCostBestAll', WHERE WHAT IT READS IS OF BULK AT MOST 1048576: true; the input reads as it did. -/
def fnCostBestAllUptoRow : OpenClaim := { program := "ytpegbmmblfopeaagreatdoor", sum := "0d326f49843a7af5595f512df17192b46c04a07e422748c04d55db4e9f3d8bd1", func := "loop.example/cloison/laws.FnCostBestAll", spec := "fnCostBestAll", unfollowed := true, recurses := true, named := ["loop.example/cloison/impl.noKey"], plainKeys := false, apart := false, laid := [("loop.example/cloison/impl.noKey", laid_loop_example_cloison_impl_noKey)], narrowed := true }
def FnCostBestAllUptoSaid : Prop := fnCostBestAllUptoRow.holds Tryz.pinned (OpenSpec.upto fnCostBestAllSpec)

/-- 'laws.FnPartHides', WHERE WHAT IT READS IS OF BULK AT MOST 1048576: true; the input reads as it did. -/
def fnPartHidesUptoRow : OpenClaim := { program := "ytpegbmmblfopeaagreatdoor", sum := "0d326f49843a7af5595f512df17192b46c04a07e422748c04d55db4e9f3d8bd1", func := "loop.example/cloison/laws.FnPartHides", spec := "fnPartHides", unfollowed := true, recurses := true, named := ["loop.example/cloison/impl.noKey"], plainKeys := false, apart := false, laid := [("loop.example/cloison/impl.noKey", laid_loop_example_cloison_impl_noKey)], narrowed := true }
def FnPartHidesUptoSaid : Prop := fnPartHidesUptoRow.holds Tryz.pinned (OpenSpec.upto fnPartHidesSpec)

/-- 'laws.FnTurnPart', WHERE WHAT IT READS IS OF BULK AT MOST 1048576: true; the input reads as it did. -/
def fnTurnPartUptoRow : OpenClaim := { program := "ytpegbmmblfopeaagreatdoor", sum := "0d326f49843a7af5595f512df17192b46c04a07e422748c04d55db4e9f3d8bd1", func := "loop.example/cloison/laws.FnTurnPart", spec := "fnTurnPart", unfollowed := true, recurses := true, named := ["loop.example/cloison/impl.noKey"], plainKeys := false, apart := false, laid := [("loop.example/cloison/impl.noKey", laid_loop_example_cloison_impl_noKey)], narrowed := true }
def FnTurnPartUptoSaid : Prop := fnTurnPartUptoRow.holds Tryz.pinned (OpenSpec.upto fnTurnPartSpec)

end Rows
end Go.Proofs.YtpegbmmblfopeaaGreatDoor
