/-
  NARROWER THAN 'FOR EVERY INPUT', by the rows' own cells (each row's printed sentence says how): FnPartOne: laid · FnPartAsk: laid · FnPartFirst: laid · FnPartLevel: laid · FnPartBack: laid · FnPartGo: laid · FnPartNone: laid · FnPartSet: laid · FnPartTold: laid · FnPartKnows: laid · FnPartSame: laid · FnPartTop: laid.
  DERIVED. THE GIVEN ROWS OF THIS SEAT. 12 by the template 'for every input the law returns true; each argument reads behind the call as it read before'; 0 by the template 'total and deterministic' (their statements: YtakcbgipdknijaaGreatDoorTotals.lean).
  GIVEN WITH THE SEED: the statements are not yours to turn. If you find one false, say at which input.
  Laid BY PROGRAM, IN A SANDBOX (cutbox-rows.mjs): the forced cells as the released guide's own fill.sh prints them over the translation c2ca736e62077ea1… (all of the seat's roots in one cut). By AI agents, Wed Nov 11 2026. No macro, syntax, notation, axiom, sorry.
-/
import Derived.Test.YtakcbgipdknijaaGreatDoorChecked
import GoSem.Claim
import GoSem.ClaimJoined
import GoSem.ClaimMapViews
import Derived.JoinedTies
import Derived.KernelRfl
namespace Go.Proofs.YtakcbgipdknijaaGreatDoor
/- THE CELL 'sum', in the pinned program and in every row, IS THE sha256 OF THE DUMP (.gsa) THAT YtakcbgipdknijaaGreatDoorProg.lean LOADS. Nothing in Lean hashes anything: it is a label: what it is worth is what the hold of that sum in a sandbox is worth. -/
noncomputable def Tryz.pinned : Pinned := { name := "ytakcbgipdknijaagreatdoor", sum := "c2ca736e62077ea179c19a053990ca706cf0a26e64aeb42ffe4f487d74a1cec8", checked := Tryz.checked }
namespace Rows
def none {H : Type} : Left H := { results := [], args := [] }

/- WHAT THE LISTED PACKAGE-LEVEL VARIABLES READ AS WHEN THE CALL BEGINS. Each datum BY PROGRAM (the guide's laid-datum.mjs) off the statement by which the dump's own 'gosem.cut.vars' lays the variable. In a bare row this is a premise. The card (YtakcbgipdknijaaGreatDoorCards.lean) ties it to the program's text. -/
def laid_loop_example_cloison_impl_noKey {H : Type} : DataW H := .agg [.lit (.int .i64 (-1)), .lit (.int .i64 (-1))]

/-- 'laws.FnPartOne': WHATEVER THE INPUT: true; the input reads as it did. -/
def fnPartOneSpec : ChangeSpec := { name := "fnPartOne", vars := ["loop.example/cloison/impl.noKey"], fn := fun _ => fun
  | [d, g1] => { results := [.lit (.bool true)], args := [d], vars := [g1] }
  | _ => none }
def fnPartOneRow : OpenClaim := { program := "ytakcbgipdknijaagreatdoor", sum := "c2ca736e62077ea179c19a053990ca706cf0a26e64aeb42ffe4f487d74a1cec8", func := "loop.example/cloison/laws.FnPartOne", spec := "fnPartOne", unfollowed := true, recurses := true, named := ["loop.example/cloison/impl.noKey"], plainKeys := false, apart := false, laid := [("loop.example/cloison/impl.noKey", laid_loop_example_cloison_impl_noKey)] }
def FnPartOneSaid : Prop := fnPartOneRow.holds Tryz.pinned (OpenSpec.ofChange fnPartOneSpec)

/-- ITS FALSE NEIGHBOUR: 'it returns false'. Refute it at one input. -/
def fnPartOneWrong : ChangeSpec := { name := "fnPartOne", vars := ["loop.example/cloison/impl.noKey"], fn := fun _ => fun
  | [d, g1] => { results := [.lit (.bool false)], args := [d], vars := [g1] }
  | _ => none }
def FnPartOneWrongFalsely : Prop := fnPartOneRow.holds Tryz.pinned (OpenSpec.ofChange fnPartOneWrong)

/-- 'laws.FnPartAsk': WHATEVER THE INPUT: true; the input reads as it did. -/
def fnPartAskSpec : ChangeSpec := { name := "fnPartAsk", vars := ["loop.example/cloison/impl.noKey"], fn := fun _ => fun
  | [d, g1] => { results := [.lit (.bool true)], args := [d], vars := [g1] }
  | _ => none }
def fnPartAskRow : OpenClaim := { program := "ytakcbgipdknijaagreatdoor", sum := "c2ca736e62077ea179c19a053990ca706cf0a26e64aeb42ffe4f487d74a1cec8", func := "loop.example/cloison/laws.FnPartAsk", spec := "fnPartAsk", unfollowed := true, recurses := true, named := ["loop.example/cloison/impl.noKey"], plainKeys := false, apart := false, laid := [("loop.example/cloison/impl.noKey", laid_loop_example_cloison_impl_noKey)] }
def FnPartAskSaid : Prop := fnPartAskRow.holds Tryz.pinned (OpenSpec.ofChange fnPartAskSpec)

/-- ITS FALSE NEIGHBOUR: 'it returns false'. Refute it at one input. -/
def fnPartAskWrong : ChangeSpec := { name := "fnPartAsk", vars := ["loop.example/cloison/impl.noKey"], fn := fun _ => fun
  | [d, g1] => { results := [.lit (.bool false)], args := [d], vars := [g1] }
  | _ => none }
def FnPartAskWrongFalsely : Prop := fnPartAskRow.holds Tryz.pinned (OpenSpec.ofChange fnPartAskWrong)

/-- 'laws.FnPartFirst': WHATEVER THE INPUT: true; the input reads as it did. -/
def fnPartFirstSpec : ChangeSpec := { name := "fnPartFirst", vars := ["loop.example/cloison/impl.noKey"], fn := fun _ => fun
  | [d, g1] => { results := [.lit (.bool true)], args := [d], vars := [g1] }
  | _ => none }
def fnPartFirstRow : OpenClaim := { program := "ytakcbgipdknijaagreatdoor", sum := "c2ca736e62077ea179c19a053990ca706cf0a26e64aeb42ffe4f487d74a1cec8", func := "loop.example/cloison/laws.FnPartFirst", spec := "fnPartFirst", unfollowed := true, recurses := true, named := ["loop.example/cloison/impl.noKey"], plainKeys := false, apart := false, laid := [("loop.example/cloison/impl.noKey", laid_loop_example_cloison_impl_noKey)] }
def FnPartFirstSaid : Prop := fnPartFirstRow.holds Tryz.pinned (OpenSpec.ofChange fnPartFirstSpec)

/-- ITS FALSE NEIGHBOUR: 'it returns false'. Refute it at one input. -/
def fnPartFirstWrong : ChangeSpec := { name := "fnPartFirst", vars := ["loop.example/cloison/impl.noKey"], fn := fun _ => fun
  | [d, g1] => { results := [.lit (.bool false)], args := [d], vars := [g1] }
  | _ => none }
def FnPartFirstWrongFalsely : Prop := fnPartFirstRow.holds Tryz.pinned (OpenSpec.ofChange fnPartFirstWrong)

/-- 'laws.FnPartLevel': WHATEVER THE INPUT: true; the input reads as it did. -/
def fnPartLevelSpec : ChangeSpec := { name := "fnPartLevel", vars := ["loop.example/cloison/impl.noKey"], fn := fun _ => fun
  | [d, g1] => { results := [.lit (.bool true)], args := [d], vars := [g1] }
  | _ => none }
def fnPartLevelRow : OpenClaim := { program := "ytakcbgipdknijaagreatdoor", sum := "c2ca736e62077ea179c19a053990ca706cf0a26e64aeb42ffe4f487d74a1cec8", func := "loop.example/cloison/laws.FnPartLevel", spec := "fnPartLevel", unfollowed := true, recurses := true, named := ["loop.example/cloison/impl.noKey"], plainKeys := false, apart := false, laid := [("loop.example/cloison/impl.noKey", laid_loop_example_cloison_impl_noKey)] }
def FnPartLevelSaid : Prop := fnPartLevelRow.holds Tryz.pinned (OpenSpec.ofChange fnPartLevelSpec)

/-- ITS FALSE NEIGHBOUR: 'it returns false'. Refute it at one input. -/
def fnPartLevelWrong : ChangeSpec := { name := "fnPartLevel", vars := ["loop.example/cloison/impl.noKey"], fn := fun _ => fun
  | [d, g1] => { results := [.lit (.bool false)], args := [d], vars := [g1] }
  | _ => none }
def FnPartLevelWrongFalsely : Prop := fnPartLevelRow.holds Tryz.pinned (OpenSpec.ofChange fnPartLevelWrong)

/-- 'laws.FnPartBack': WHATEVER THE INPUT: true; the input reads as it did. -/
def fnPartBackSpec : ChangeSpec := { name := "fnPartBack", vars := ["loop.example/cloison/impl.noKey"], fn := fun _ => fun
  | [d, g1] => { results := [.lit (.bool true)], args := [d], vars := [g1] }
  | _ => none }
def fnPartBackRow : OpenClaim := { program := "ytakcbgipdknijaagreatdoor", sum := "c2ca736e62077ea179c19a053990ca706cf0a26e64aeb42ffe4f487d74a1cec8", func := "loop.example/cloison/laws.FnPartBack", spec := "fnPartBack", unfollowed := true, recurses := true, named := ["loop.example/cloison/impl.noKey"], plainKeys := false, apart := false, laid := [("loop.example/cloison/impl.noKey", laid_loop_example_cloison_impl_noKey)] }
def FnPartBackSaid : Prop := fnPartBackRow.holds Tryz.pinned (OpenSpec.ofChange fnPartBackSpec)

/-- ITS FALSE NEIGHBOUR: 'it returns false'. Refute it at one input. -/
def fnPartBackWrong : ChangeSpec := { name := "fnPartBack", vars := ["loop.example/cloison/impl.noKey"], fn := fun _ => fun
  | [d, g1] => { results := [.lit (.bool false)], args := [d], vars := [g1] }
  | _ => none }
def FnPartBackWrongFalsely : Prop := fnPartBackRow.holds Tryz.pinned (OpenSpec.ofChange fnPartBackWrong)

/-- 'laws.FnPartGo': WHATEVER THE INPUT: true; the input reads as it did. -/
def fnPartGoSpec : ChangeSpec := { name := "fnPartGo", vars := ["loop.example/cloison/impl.noKey"], fn := fun _ => fun
  | [d, g1] => { results := [.lit (.bool true)], args := [d], vars := [g1] }
  | _ => none }
def fnPartGoRow : OpenClaim := { program := "ytakcbgipdknijaagreatdoor", sum := "c2ca736e62077ea179c19a053990ca706cf0a26e64aeb42ffe4f487d74a1cec8", func := "loop.example/cloison/laws.FnPartGo", spec := "fnPartGo", unfollowed := true, recurses := true, named := ["loop.example/cloison/impl.noKey"], plainKeys := false, apart := false, laid := [("loop.example/cloison/impl.noKey", laid_loop_example_cloison_impl_noKey)] }
def FnPartGoSaid : Prop := fnPartGoRow.holds Tryz.pinned (OpenSpec.ofChange fnPartGoSpec)

/-- ITS FALSE NEIGHBOUR: 'it returns false'. Refute it at one input. -/
def fnPartGoWrong : ChangeSpec := { name := "fnPartGo", vars := ["loop.example/cloison/impl.noKey"], fn := fun _ => fun
  | [d, g1] => { results := [.lit (.bool false)], args := [d], vars := [g1] }
  | _ => none }
def FnPartGoWrongFalsely : Prop := fnPartGoRow.holds Tryz.pinned (OpenSpec.ofChange fnPartGoWrong)

/-- 'laws.FnPartNone': WHATEVER THE INPUT: true; the input reads as it did. -/
def fnPartNoneSpec : ChangeSpec := { name := "fnPartNone", vars := ["loop.example/cloison/impl.noKey"], fn := fun _ => fun
  | [d, g1] => { results := [.lit (.bool true)], args := [d], vars := [g1] }
  | _ => none }
def fnPartNoneRow : OpenClaim := { program := "ytakcbgipdknijaagreatdoor", sum := "c2ca736e62077ea179c19a053990ca706cf0a26e64aeb42ffe4f487d74a1cec8", func := "loop.example/cloison/laws.FnPartNone", spec := "fnPartNone", unfollowed := true, recurses := true, named := ["loop.example/cloison/impl.noKey"], plainKeys := false, apart := false, laid := [("loop.example/cloison/impl.noKey", laid_loop_example_cloison_impl_noKey)] }
def FnPartNoneSaid : Prop := fnPartNoneRow.holds Tryz.pinned (OpenSpec.ofChange fnPartNoneSpec)

/-- ITS FALSE NEIGHBOUR: 'it returns false'. Refute it at one input. -/
def fnPartNoneWrong : ChangeSpec := { name := "fnPartNone", vars := ["loop.example/cloison/impl.noKey"], fn := fun _ => fun
  | [d, g1] => { results := [.lit (.bool false)], args := [d], vars := [g1] }
  | _ => none }
def FnPartNoneWrongFalsely : Prop := fnPartNoneRow.holds Tryz.pinned (OpenSpec.ofChange fnPartNoneWrong)

/-- 'laws.FnPartSet': WHATEVER THE INPUT: true; the input reads as it did. -/
def fnPartSetSpec : ChangeSpec := { name := "fnPartSet", vars := ["loop.example/cloison/impl.noKey"], fn := fun _ => fun
  | [d, g1] => { results := [.lit (.bool true)], args := [d], vars := [g1] }
  | _ => none }
def fnPartSetRow : OpenClaim := { program := "ytakcbgipdknijaagreatdoor", sum := "c2ca736e62077ea179c19a053990ca706cf0a26e64aeb42ffe4f487d74a1cec8", func := "loop.example/cloison/laws.FnPartSet", spec := "fnPartSet", unfollowed := true, recurses := true, named := ["loop.example/cloison/impl.noKey"], plainKeys := false, apart := false, laid := [("loop.example/cloison/impl.noKey", laid_loop_example_cloison_impl_noKey)] }
def FnPartSetSaid : Prop := fnPartSetRow.holds Tryz.pinned (OpenSpec.ofChange fnPartSetSpec)

/-- ITS FALSE NEIGHBOUR: 'it returns false'. Refute it at one input. -/
def fnPartSetWrong : ChangeSpec := { name := "fnPartSet", vars := ["loop.example/cloison/impl.noKey"], fn := fun _ => fun
  | [d, g1] => { results := [.lit (.bool false)], args := [d], vars := [g1] }
  | _ => none }
def FnPartSetWrongFalsely : Prop := fnPartSetRow.holds Tryz.pinned (OpenSpec.ofChange fnPartSetWrong)

/-- 'laws.FnPartTold': WHATEVER THE INPUT: true; the input reads as it did. -/
def fnPartToldSpec : ChangeSpec := { name := "fnPartTold", vars := ["loop.example/cloison/impl.noKey"], fn := fun _ => fun
  | [d, g1] => { results := [.lit (.bool true)], args := [d], vars := [g1] }
  | _ => none }
def fnPartToldRow : OpenClaim := { program := "ytakcbgipdknijaagreatdoor", sum := "c2ca736e62077ea179c19a053990ca706cf0a26e64aeb42ffe4f487d74a1cec8", func := "loop.example/cloison/laws.FnPartTold", spec := "fnPartTold", unfollowed := true, recurses := true, named := ["loop.example/cloison/impl.noKey"], plainKeys := false, apart := false, laid := [("loop.example/cloison/impl.noKey", laid_loop_example_cloison_impl_noKey)] }
def FnPartToldSaid : Prop := fnPartToldRow.holds Tryz.pinned (OpenSpec.ofChange fnPartToldSpec)

/-- ITS FALSE NEIGHBOUR: 'it returns false'. Refute it at one input. -/
def fnPartToldWrong : ChangeSpec := { name := "fnPartTold", vars := ["loop.example/cloison/impl.noKey"], fn := fun _ => fun
  | [d, g1] => { results := [.lit (.bool false)], args := [d], vars := [g1] }
  | _ => none }
def FnPartToldWrongFalsely : Prop := fnPartToldRow.holds Tryz.pinned (OpenSpec.ofChange fnPartToldWrong)

/-- 'laws.FnPartKnows': WHATEVER THE INPUT: true; the input reads as it did. -/
def fnPartKnowsSpec : ChangeSpec := { name := "fnPartKnows", vars := ["loop.example/cloison/impl.noKey"], fn := fun _ => fun
  | [d, g1] => { results := [.lit (.bool true)], args := [d], vars := [g1] }
  | _ => none }
def fnPartKnowsRow : OpenClaim := { program := "ytakcbgipdknijaagreatdoor", sum := "c2ca736e62077ea179c19a053990ca706cf0a26e64aeb42ffe4f487d74a1cec8", func := "loop.example/cloison/laws.FnPartKnows", spec := "fnPartKnows", unfollowed := true, recurses := true, named := ["loop.example/cloison/impl.noKey"], plainKeys := false, apart := false, laid := [("loop.example/cloison/impl.noKey", laid_loop_example_cloison_impl_noKey)] }
def FnPartKnowsSaid : Prop := fnPartKnowsRow.holds Tryz.pinned (OpenSpec.ofChange fnPartKnowsSpec)

/-- ITS FALSE NEIGHBOUR: 'it returns false'. Refute it at one input. -/
def fnPartKnowsWrong : ChangeSpec := { name := "fnPartKnows", vars := ["loop.example/cloison/impl.noKey"], fn := fun _ => fun
  | [d, g1] => { results := [.lit (.bool false)], args := [d], vars := [g1] }
  | _ => none }
def FnPartKnowsWrongFalsely : Prop := fnPartKnowsRow.holds Tryz.pinned (OpenSpec.ofChange fnPartKnowsWrong)

/-- 'laws.FnPartSame': WHATEVER THE INPUT: true; the input reads as it did. -/
def fnPartSameSpec : ChangeSpec := { name := "fnPartSame", vars := ["loop.example/cloison/impl.noKey"], fn := fun _ => fun
  | [d, g1] => { results := [.lit (.bool true)], args := [d], vars := [g1] }
  | _ => none }
def fnPartSameRow : OpenClaim := { program := "ytakcbgipdknijaagreatdoor", sum := "c2ca736e62077ea179c19a053990ca706cf0a26e64aeb42ffe4f487d74a1cec8", func := "loop.example/cloison/laws.FnPartSame", spec := "fnPartSame", unfollowed := true, recurses := true, named := ["loop.example/cloison/impl.noKey"], plainKeys := false, apart := false, laid := [("loop.example/cloison/impl.noKey", laid_loop_example_cloison_impl_noKey)] }
def FnPartSameSaid : Prop := fnPartSameRow.holds Tryz.pinned (OpenSpec.ofChange fnPartSameSpec)

/-- ITS FALSE NEIGHBOUR: 'it returns false'. Refute it at one input. -/
def fnPartSameWrong : ChangeSpec := { name := "fnPartSame", vars := ["loop.example/cloison/impl.noKey"], fn := fun _ => fun
  | [d, g1] => { results := [.lit (.bool false)], args := [d], vars := [g1] }
  | _ => none }
def FnPartSameWrongFalsely : Prop := fnPartSameRow.holds Tryz.pinned (OpenSpec.ofChange fnPartSameWrong)

/-- 'laws.FnPartTop': WHATEVER THE INPUT: true; the input reads as it did. -/
def fnPartTopSpec : ChangeSpec := { name := "fnPartTop", vars := ["loop.example/cloison/impl.noKey"], fn := fun _ => fun
  | [d, g1] => { results := [.lit (.bool true)], args := [d], vars := [g1] }
  | _ => none }
def fnPartTopRow : OpenClaim := { program := "ytakcbgipdknijaagreatdoor", sum := "c2ca736e62077ea179c19a053990ca706cf0a26e64aeb42ffe4f487d74a1cec8", func := "loop.example/cloison/laws.FnPartTop", spec := "fnPartTop", unfollowed := true, recurses := true, named := ["loop.example/cloison/impl.noKey"], plainKeys := false, apart := false, laid := [("loop.example/cloison/impl.noKey", laid_loop_example_cloison_impl_noKey)] }
def FnPartTopSaid : Prop := fnPartTopRow.holds Tryz.pinned (OpenSpec.ofChange fnPartTopSpec)

/-- ITS FALSE NEIGHBOUR: 'it returns false'. Refute it at one input. -/
def fnPartTopWrong : ChangeSpec := { name := "fnPartTop", vars := ["loop.example/cloison/impl.noKey"], fn := fun _ => fun
  | [d, g1] => { results := [.lit (.bool false)], args := [d], vars := [g1] }
  | _ => none }
def FnPartTopWrongFalsely : Prop := fnPartTopRow.holds Tryz.pinned (OpenSpec.ofChange fnPartTopWrong)

/- THE SECOND FORM. 'bulk': how many values and letters a reading holds, each counted each time it is reached (what is shared counts as often as it is met; a slice's spare places count too). A statement '..UptoSaid' is the law's where the arguments, and the package variables that the reading takes, are together of bulk at most 1048576: NARROWER than '..Said'. Prove '..Said' where nothing that the law and all that it calls make is longer than what came in: it says more and counts as full. Else prove '..UptoSaid'. A law counts once. -/
mutual
def uptoBulk {H : Type} : DataW H → Nat
  | .lit (.string bytes) => bytes.length + 1
  | .lit _ => 1
  | .nil => 1
  | .ptr d => uptoBulk d + 1
  | .slice elems spare => uptoBulkAll elems + uptoBulkAll spare + 1
  | .agg parts => uptoBulkAll parts + 1
  | .iface _ d => uptoBulk d + 1
  | .map entries => uptoBulkEntries entries + 1
  | .held _ => 1
def uptoBulkAll {H : Type} : List (DataW H) → Nat
  | [] => 0
  | d :: r => uptoBulk d + uptoBulkAll r
def uptoBulkEntries {H : Type} : List (Lit × DataW H) → Nat
  | [] => 0
  | x :: r => uptoBulkEntry x + uptoBulkEntries r
def uptoBulkEntry {H : Type} : Lit × DataW H → Nat
  | (.string bytes, d) => bytes.length + uptoBulk d + 1
  | (_, d) => uptoBulk d + 1
 end
def uptoSmall : (H : Type) → List (DataW H) → Bool := fun _ ds => decide (uptoBulkAll ds ≤ 1048576)
def OpenSpec.upto (s : _root_.Go.ChangeSpec) : _root_.Go.OpenSpec := { _root_.Go.OpenSpec.ofChange s with cond := some uptoSmall }

/-- 'laws.FnPartOne', WHERE WHAT IT READS IS OF BULK AT MOST 1048576: true; the input reads as it did. -/
def fnPartOneUptoRow : OpenClaim := { program := "ytakcbgipdknijaagreatdoor", sum := "c2ca736e62077ea179c19a053990ca706cf0a26e64aeb42ffe4f487d74a1cec8", func := "loop.example/cloison/laws.FnPartOne", spec := "fnPartOne", unfollowed := true, recurses := true, named := ["loop.example/cloison/impl.noKey"], plainKeys := false, apart := false, laid := [("loop.example/cloison/impl.noKey", laid_loop_example_cloison_impl_noKey)], narrowed := true }
def FnPartOneUptoSaid : Prop := fnPartOneUptoRow.holds Tryz.pinned (OpenSpec.upto fnPartOneSpec)

/-- 'laws.FnPartAsk', WHERE WHAT IT READS IS OF BULK AT MOST 1048576: true; the input reads as it did. -/
def fnPartAskUptoRow : OpenClaim := { program := "ytakcbgipdknijaagreatdoor", sum := "c2ca736e62077ea179c19a053990ca706cf0a26e64aeb42ffe4f487d74a1cec8", func := "loop.example/cloison/laws.FnPartAsk", spec := "fnPartAsk", unfollowed := true, recurses := true, named := ["loop.example/cloison/impl.noKey"], plainKeys := false, apart := false, laid := [("loop.example/cloison/impl.noKey", laid_loop_example_cloison_impl_noKey)], narrowed := true }
def FnPartAskUptoSaid : Prop := fnPartAskUptoRow.holds Tryz.pinned (OpenSpec.upto fnPartAskSpec)

/-- 'laws.FnPartFirst', WHERE WHAT IT READS IS OF BULK AT MOST 1048576: true; the input reads as it did. -/
def fnPartFirstUptoRow : OpenClaim := { program := "ytakcbgipdknijaagreatdoor", sum := "c2ca736e62077ea179c19a053990ca706cf0a26e64aeb42ffe4f487d74a1cec8", func := "loop.example/cloison/laws.FnPartFirst", spec := "fnPartFirst", unfollowed := true, recurses := true, named := ["loop.example/cloison/impl.noKey"], plainKeys := false, apart := false, laid := [("loop.example/cloison/impl.noKey", laid_loop_example_cloison_impl_noKey)], narrowed := true }
def FnPartFirstUptoSaid : Prop := fnPartFirstUptoRow.holds Tryz.pinned (OpenSpec.upto fnPartFirstSpec)

/-- 'laws.FnPartLevel', WHERE WHAT IT READS IS OF BULK AT MOST 1048576: true; the input reads as it did. -/
def fnPartLevelUptoRow : OpenClaim := { program := "ytakcbgipdknijaagreatdoor", sum := "c2ca736e62077ea179c19a053990ca706cf0a26e64aeb42ffe4f487d74a1cec8", func := "loop.example/cloison/laws.FnPartLevel", spec := "fnPartLevel", unfollowed := true, recurses := true, named := ["loop.example/cloison/impl.noKey"], plainKeys := false, apart := false, laid := [("loop.example/cloison/impl.noKey", laid_loop_example_cloison_impl_noKey)], narrowed := true }
def FnPartLevelUptoSaid : Prop := fnPartLevelUptoRow.holds Tryz.pinned (OpenSpec.upto fnPartLevelSpec)

/-- 'laws.FnPartBack', WHERE WHAT IT READS IS OF BULK AT MOST 1048576: true; the input reads as it did. -/
def fnPartBackUptoRow : OpenClaim := { program := "ytakcbgipdknijaagreatdoor", sum := "c2ca736e62077ea179c19a053990ca706cf0a26e64aeb42ffe4f487d74a1cec8", func := "loop.example/cloison/laws.FnPartBack", spec := "fnPartBack", unfollowed := true, recurses := true, named := ["loop.example/cloison/impl.noKey"], plainKeys := false, apart := false, laid := [("loop.example/cloison/impl.noKey", laid_loop_example_cloison_impl_noKey)], narrowed := true }
def FnPartBackUptoSaid : Prop := fnPartBackUptoRow.holds Tryz.pinned (OpenSpec.upto fnPartBackSpec)

/-- 'laws.FnPartGo', WHERE WHAT IT READS IS OF BULK AT MOST 1048576: true; the input reads as it did. -/
def fnPartGoUptoRow : OpenClaim := { program := "ytakcbgipdknijaagreatdoor", sum := "c2ca736e62077ea179c19a053990ca706cf0a26e64aeb42ffe4f487d74a1cec8", func := "loop.example/cloison/laws.FnPartGo", spec := "fnPartGo", unfollowed := true, recurses := true, named := ["loop.example/cloison/impl.noKey"], plainKeys := false, apart := false, laid := [("loop.example/cloison/impl.noKey", laid_loop_example_cloison_impl_noKey)], narrowed := true }
def FnPartGoUptoSaid : Prop := fnPartGoUptoRow.holds Tryz.pinned (OpenSpec.upto fnPartGoSpec)

/-- 'laws.FnPartNone', WHERE WHAT IT READS IS OF BULK AT MOST 1048576: true; the input reads as it did. -/
def fnPartNoneUptoRow : OpenClaim := { program := "ytakcbgipdknijaagreatdoor", sum := "c2ca736e62077ea179c19a053990ca706cf0a26e64aeb42ffe4f487d74a1cec8", func := "loop.example/cloison/laws.FnPartNone", spec := "fnPartNone", unfollowed := true, recurses := true, named := ["loop.example/cloison/impl.noKey"], plainKeys := false, apart := false, laid := [("loop.example/cloison/impl.noKey", laid_loop_example_cloison_impl_noKey)], narrowed := true }
def FnPartNoneUptoSaid : Prop := fnPartNoneUptoRow.holds Tryz.pinned (OpenSpec.upto fnPartNoneSpec)

/-- 'laws.FnPartSet', WHERE WHAT IT READS IS OF BULK AT MOST 1048576: true; the input reads as it did. -/
def fnPartSetUptoRow : OpenClaim := { program := "ytakcbgipdknijaagreatdoor", sum := "c2ca736e62077ea179c19a053990ca706cf0a26e64aeb42ffe4f487d74a1cec8", func := "loop.example/cloison/laws.FnPartSet", spec := "fnPartSet", unfollowed := true, recurses := true, named := ["loop.example/cloison/impl.noKey"], plainKeys := false, apart := false, laid := [("loop.example/cloison/impl.noKey", laid_loop_example_cloison_impl_noKey)], narrowed := true }
def FnPartSetUptoSaid : Prop := fnPartSetUptoRow.holds Tryz.pinned (OpenSpec.upto fnPartSetSpec)

/-- 'laws.FnPartTold', WHERE WHAT IT READS IS OF BULK AT MOST 1048576: true; the input reads as it did. -/
def fnPartToldUptoRow : OpenClaim := { program := "ytakcbgipdknijaagreatdoor", sum := "c2ca736e62077ea179c19a053990ca706cf0a26e64aeb42ffe4f487d74a1cec8", func := "loop.example/cloison/laws.FnPartTold", spec := "fnPartTold", unfollowed := true, recurses := true, named := ["loop.example/cloison/impl.noKey"], plainKeys := false, apart := false, laid := [("loop.example/cloison/impl.noKey", laid_loop_example_cloison_impl_noKey)], narrowed := true }
def FnPartToldUptoSaid : Prop := fnPartToldUptoRow.holds Tryz.pinned (OpenSpec.upto fnPartToldSpec)

/-- 'laws.FnPartKnows', WHERE WHAT IT READS IS OF BULK AT MOST 1048576: true; the input reads as it did. -/
def fnPartKnowsUptoRow : OpenClaim := { program := "ytakcbgipdknijaagreatdoor", sum := "c2ca736e62077ea179c19a053990ca706cf0a26e64aeb42ffe4f487d74a1cec8", func := "loop.example/cloison/laws.FnPartKnows", spec := "fnPartKnows", unfollowed := true, recurses := true, named := ["loop.example/cloison/impl.noKey"], plainKeys := false, apart := false, laid := [("loop.example/cloison/impl.noKey", laid_loop_example_cloison_impl_noKey)], narrowed := true }
def FnPartKnowsUptoSaid : Prop := fnPartKnowsUptoRow.holds Tryz.pinned (OpenSpec.upto fnPartKnowsSpec)

/-- 'laws.FnPartSame', WHERE WHAT IT READS IS OF BULK AT MOST 1048576: true; the input reads as it did. -/
def fnPartSameUptoRow : OpenClaim := { program := "ytakcbgipdknijaagreatdoor", sum := "c2ca736e62077ea179c19a053990ca706cf0a26e64aeb42ffe4f487d74a1cec8", func := "loop.example/cloison/laws.FnPartSame", spec := "fnPartSame", unfollowed := true, recurses := true, named := ["loop.example/cloison/impl.noKey"], plainKeys := false, apart := false, laid := [("loop.example/cloison/impl.noKey", laid_loop_example_cloison_impl_noKey)], narrowed := true }
def FnPartSameUptoSaid : Prop := fnPartSameUptoRow.holds Tryz.pinned (OpenSpec.upto fnPartSameSpec)

/-- 'laws.FnPartTop', WHERE WHAT IT READS IS OF BULK AT MOST 1048576: true; the input reads as it did. -/
def fnPartTopUptoRow : OpenClaim := { program := "ytakcbgipdknijaagreatdoor", sum := "c2ca736e62077ea179c19a053990ca706cf0a26e64aeb42ffe4f487d74a1cec8", func := "loop.example/cloison/laws.FnPartTop", spec := "fnPartTop", unfollowed := true, recurses := true, named := ["loop.example/cloison/impl.noKey"], plainKeys := false, apart := false, laid := [("loop.example/cloison/impl.noKey", laid_loop_example_cloison_impl_noKey)], narrowed := true }
def FnPartTopUptoSaid : Prop := fnPartTopUptoRow.holds Tryz.pinned (OpenSpec.upto fnPartTopSpec)

end Rows
end Go.Proofs.YtakcbgipdknijaaGreatDoor
