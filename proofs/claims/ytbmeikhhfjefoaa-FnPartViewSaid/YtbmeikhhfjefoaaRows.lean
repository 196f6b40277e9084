/-
  No cell of these rows narrows 'for every input' (looked for: loops, veiled, ifaces, maps, wideKeys, modest, calm, conditions, laid).
  DERIVED. THE GIVEN ROWS OF THIS SEAT. 10 by the template 'for every input the law returns true; each argument reads behind the call as it read before'; 0 by the template 'total and deterministic' (their statements: YtbmeikhhfjefoaaTotals.lean).
  GIVEN WITH THE SEED: the statements are not yours to turn. If you find one false, say at which input.
  Laid BY PROGRAM, IN A SANDBOX (cutbox-rows.mjs): the forced cells as the released guide's own fill.sh prints them over the translation c42af49bb00d5998… (all of the seat's roots in one cut). By AI agents, Wed Nov 11 2026. No macro, syntax, notation, axiom, sorry.
-/
import Derived.Test.YtbmeikhhfjefoaaChecked
import GoSem.Claim
import GoSem.ClaimJoined
import GoSem.ClaimMapViews
import Derived.JoinedTies
import Derived.KernelRfl
namespace Go.Proofs.Ytbmeikhhfjefoaa
/- THE CELL 'sum', in the pinned program and in every row, IS THE sha256 OF THE DUMP (.gsa) THAT YtbmeikhhfjefoaaProg.lean LOADS. Nothing in Lean hashes anything: it is a label: what it is worth is what the hold of that sum in a sandbox is worth. -/
noncomputable def Try.pinned : Pinned := { name := "ytbmeikhhfjefoaa", sum := "c42af49bb00d59984ed605a4caa430e3567f2361f9bbd6395a2149d6a4a70528", checked := Try.checked }
namespace Rows
def none {H : Type} : Left H := { results := [], args := [] }

/-- 'laws.FnSwayTrusts': WHATEVER THE INPUT: true; the input reads as it did. -/
def fnSwayTrustsSpec : ChangeSpec := { name := "fnSwayTrusts", fn := fun _ => fun
  | [d] => { results := [.lit (.bool true)], args := [d] }
  | _ => none }
def fnSwayTrustsRow : OpenClaim := { program := "ytbmeikhhfjefoaa", sum := "c42af49bb00d59984ed605a4caa430e3567f2361f9bbd6395a2149d6a4a70528", func := "loop.example/cloison/laws.FnSwayTrusts", spec := "fnSwayTrusts", unfollowed := true, recurses := true, apart := false }
def FnSwayTrustsSaid : Prop := fnSwayTrustsRow.holds Try.pinned (OpenSpec.ofChange fnSwayTrustsSpec)

/-- ITS FALSE NEIGHBOUR: 'it returns false'. Refute it at one input. -/
def fnSwayTrustsWrong : ChangeSpec := { name := "fnSwayTrusts", fn := fun _ => fun
  | [d] => { results := [.lit (.bool false)], args := [d] }
  | _ => none }
def FnSwayTrustsWrongFalsely : Prop := fnSwayTrustsRow.holds Try.pinned (OpenSpec.ofChange fnSwayTrustsWrong)

/-- 'laws.FnLeakTold': WHATEVER THE INPUT: true; the input reads as it did. -/
def fnLeakToldSpec : ChangeSpec := { name := "fnLeakTold", fn := fun _ => fun
  | [d] => { results := [.lit (.bool true)], args := [d] }
  | _ => none }
def fnLeakToldRow : OpenClaim := { program := "ytbmeikhhfjefoaa", sum := "c42af49bb00d59984ed605a4caa430e3567f2361f9bbd6395a2149d6a4a70528", func := "loop.example/cloison/laws.FnLeakTold", spec := "fnLeakTold", unfollowed := true, recurses := true, apart := false }
def FnLeakToldSaid : Prop := fnLeakToldRow.holds Try.pinned (OpenSpec.ofChange fnLeakToldSpec)

/-- ITS FALSE NEIGHBOUR: 'it returns false'. Refute it at one input. -/
def fnLeakToldWrong : ChangeSpec := { name := "fnLeakTold", fn := fun _ => fun
  | [d] => { results := [.lit (.bool false)], args := [d] }
  | _ => none }
def FnLeakToldWrongFalsely : Prop := fnLeakToldRow.holds Try.pinned (OpenSpec.ofChange fnLeakToldWrong)

/-- 'laws.FnSwayAll': WHATEVER THE INPUT: true; the input reads as it did. -/
def fnSwayAllSpec : ChangeSpec := { name := "fnSwayAll", fn := fun _ => fun
  | [d1, d2] => { results := [.lit (.bool true)], args := [d1, d2] }
  | _ => none }
def fnSwayAllRow : OpenClaim := { program := "ytbmeikhhfjefoaa", sum := "c42af49bb00d59984ed605a4caa430e3567f2361f9bbd6395a2149d6a4a70528", func := "loop.example/cloison/laws.FnSwayAll", spec := "fnSwayAll", unfollowed := true, recurses := true, apart := false }
def FnSwayAllSaid : Prop := fnSwayAllRow.holds Try.pinned (OpenSpec.ofChange fnSwayAllSpec)

/-- ITS FALSE NEIGHBOUR: 'it returns false'. Refute it at one input. -/
def fnSwayAllWrong : ChangeSpec := { name := "fnSwayAll", fn := fun _ => fun
  | [d1, d2] => { results := [.lit (.bool false)], args := [d1, d2] }
  | _ => none }
def FnSwayAllWrongFalsely : Prop := fnSwayAllRow.holds Try.pinned (OpenSpec.ofChange fnSwayAllWrong)

/-- 'laws.FnLeakOf': WHATEVER THE INPUT: true; the input reads as it did. -/
def fnLeakOfSpec : ChangeSpec := { name := "fnLeakOf", fn := fun _ => fun
  | [d] => { results := [.lit (.bool true)], args := [d] }
  | _ => none }
def fnLeakOfRow : OpenClaim := { program := "ytbmeikhhfjefoaa", sum := "c42af49bb00d59984ed605a4caa430e3567f2361f9bbd6395a2149d6a4a70528", func := "loop.example/cloison/laws.FnLeakOf", spec := "fnLeakOf", unfollowed := true, recurses := true, apart := false }
def FnLeakOfSaid : Prop := fnLeakOfRow.holds Try.pinned (OpenSpec.ofChange fnLeakOfSpec)

/-- ITS FALSE NEIGHBOUR: 'it returns false'. Refute it at one input. -/
def fnLeakOfWrong : ChangeSpec := { name := "fnLeakOf", fn := fun _ => fun
  | [d] => { results := [.lit (.bool false)], args := [d] }
  | _ => none }
def FnLeakOfWrongFalsely : Prop := fnLeakOfRow.holds Try.pinned (OpenSpec.ofChange fnLeakOfWrong)

/-- 'laws.FnSwayOf': WHATEVER THE INPUT: true; the input reads as it did. -/
def fnSwayOfSpec : ChangeSpec := { name := "fnSwayOf", fn := fun _ => fun
  | [d] => { results := [.lit (.bool true)], args := [d] }
  | _ => none }
def fnSwayOfRow : OpenClaim := { program := "ytbmeikhhfjefoaa", sum := "c42af49bb00d59984ed605a4caa430e3567f2361f9bbd6395a2149d6a4a70528", func := "loop.example/cloison/laws.FnSwayOf", spec := "fnSwayOf", unfollowed := true, recurses := true, apart := false }
def FnSwayOfSaid : Prop := fnSwayOfRow.holds Try.pinned (OpenSpec.ofChange fnSwayOfSpec)

/-- ITS FALSE NEIGHBOUR: 'it returns false'. Refute it at one input. -/
def fnSwayOfWrong : ChangeSpec := { name := "fnSwayOf", fn := fun _ => fun
  | [d] => { results := [.lit (.bool false)], args := [d] }
  | _ => none }
def FnSwayOfWrongFalsely : Prop := fnSwayOfRow.holds Try.pinned (OpenSpec.ofChange fnSwayOfWrong)

/-- 'laws.FnPartCount': WHATEVER THE INPUT: true; the input reads as it did. -/
def fnPartCountSpec : ChangeSpec := { name := "fnPartCount", fn := fun _ => fun
  | [d] => { results := [.lit (.bool true)], args := [d] }
  | _ => none }
def fnPartCountRow : OpenClaim := { program := "ytbmeikhhfjefoaa", sum := "c42af49bb00d59984ed605a4caa430e3567f2361f9bbd6395a2149d6a4a70528", func := "loop.example/cloison/laws.FnPartCount", spec := "fnPartCount", recurses := true, apart := false }
def FnPartCountSaid : Prop := fnPartCountRow.holds Try.pinned (OpenSpec.ofChange fnPartCountSpec)

/-- ITS FALSE NEIGHBOUR: 'it returns false'. Refute it at one input. -/
def fnPartCountWrong : ChangeSpec := { name := "fnPartCount", fn := fun _ => fun
  | [d] => { results := [.lit (.bool false)], args := [d] }
  | _ => none }
def FnPartCountWrongFalsely : Prop := fnPartCountRow.holds Try.pinned (OpenSpec.ofChange fnPartCountWrong)

/-- 'laws.FnPartView': WHATEVER THE INPUT: true; the input reads as it did. -/
def fnPartViewSpec : ChangeSpec := { name := "fnPartView", fn := fun _ => fun
  | [d] => { results := [.lit (.bool true)], args := [d] }
  | _ => none }
def fnPartViewRow : OpenClaim := { program := "ytbmeikhhfjefoaa", sum := "c42af49bb00d59984ed605a4caa430e3567f2361f9bbd6395a2149d6a4a70528", func := "loop.example/cloison/laws.FnPartView", spec := "fnPartView", recurses := true, apart := false }
def FnPartViewSaid : Prop := fnPartViewRow.holds Try.pinned (OpenSpec.ofChange fnPartViewSpec)

/-- ITS FALSE NEIGHBOUR: 'it returns false'. Refute it at one input. -/
def fnPartViewWrong : ChangeSpec := { name := "fnPartView", fn := fun _ => fun
  | [d] => { results := [.lit (.bool false)], args := [d] }
  | _ => none }
def FnPartViewWrongFalsely : Prop := fnPartViewRow.holds Try.pinned (OpenSpec.ofChange fnPartViewWrong)

/-- 'laws.FnLeakNone': WHATEVER THE INPUT: true; the input reads as it did. -/
def fnLeakNoneSpec : ChangeSpec := { name := "fnLeakNone", fn := fun _ => fun
  | [d] => { results := [.lit (.bool true)], args := [d] }
  | _ => none }
def fnLeakNoneRow : OpenClaim := { program := "ytbmeikhhfjefoaa", sum := "c42af49bb00d59984ed605a4caa430e3567f2361f9bbd6395a2149d6a4a70528", func := "loop.example/cloison/laws.FnLeakNone", spec := "fnLeakNone", unfollowed := true, recurses := true, apart := false }
def FnLeakNoneSaid : Prop := fnLeakNoneRow.holds Try.pinned (OpenSpec.ofChange fnLeakNoneSpec)

/-- ITS FALSE NEIGHBOUR: 'it returns false'. Refute it at one input. -/
def fnLeakNoneWrong : ChangeSpec := { name := "fnLeakNone", fn := fun _ => fun
  | [d] => { results := [.lit (.bool false)], args := [d] }
  | _ => none }
def FnLeakNoneWrongFalsely : Prop := fnLeakNoneRow.holds Try.pinned (OpenSpec.ofChange fnLeakNoneWrong)

/-- 'laws.FnSwayNone': WHATEVER THE INPUT: true; the input reads as it did. -/
def fnSwayNoneSpec : ChangeSpec := { name := "fnSwayNone", fn := fun _ => fun
  | [d] => { results := [.lit (.bool true)], args := [d] }
  | _ => none }
def fnSwayNoneRow : OpenClaim := { program := "ytbmeikhhfjefoaa", sum := "c42af49bb00d59984ed605a4caa430e3567f2361f9bbd6395a2149d6a4a70528", func := "loop.example/cloison/laws.FnSwayNone", spec := "fnSwayNone", unfollowed := true, recurses := true, apart := false }
def FnSwayNoneSaid : Prop := fnSwayNoneRow.holds Try.pinned (OpenSpec.ofChange fnSwayNoneSpec)

/-- ITS FALSE NEIGHBOUR: 'it returns false'. Refute it at one input. -/
def fnSwayNoneWrong : ChangeSpec := { name := "fnSwayNone", fn := fun _ => fun
  | [d] => { results := [.lit (.bool false)], args := [d] }
  | _ => none }
def FnSwayNoneWrongFalsely : Prop := fnSwayNoneRow.holds Try.pinned (OpenSpec.ofChange fnSwayNoneWrong)

/-- 'laws.FnTurnLeak': WHATEVER THE INPUT: true; the input reads as it did. -/
def fnTurnLeakSpec : ChangeSpec := { name := "fnTurnLeak", fn := fun _ => fun
  | [d] => { results := [.lit (.bool true)], args := [d] }
  | _ => none }
def fnTurnLeakRow : OpenClaim := { program := "ytbmeikhhfjefoaa", sum := "c42af49bb00d59984ed605a4caa430e3567f2361f9bbd6395a2149d6a4a70528", func := "loop.example/cloison/laws.FnTurnLeak", spec := "fnTurnLeak", unfollowed := true, recurses := true, apart := false }
def FnTurnLeakSaid : Prop := fnTurnLeakRow.holds Try.pinned (OpenSpec.ofChange fnTurnLeakSpec)

/-- ITS FALSE NEIGHBOUR: 'it returns false'. Refute it at one input. -/
def fnTurnLeakWrong : ChangeSpec := { name := "fnTurnLeak", fn := fun _ => fun
  | [d] => { results := [.lit (.bool false)], args := [d] }
  | _ => none }
def FnTurnLeakWrongFalsely : Prop := fnTurnLeakRow.holds Try.pinned (OpenSpec.ofChange fnTurnLeakWrong)

/- THE SECOND FORM. 'bulk': how many values and letters a reading holds, each counted each time it is reached (what is shared counts as often as it is met; a slice's spare places count too). A statement '..UptoSaid' is the law's where the arguments, and the package variables that the reading takes, are together of bulk at most 1048576: NARROWER than '..Said'. Prove '..Said' where nothing that the law and all that it calls make is longer than what came in: it says more and counts as full. Else prove '..UptoSaid'. A law counts once. -/
mutual
def uptoBulk {H : Type} : DataW H → Nat
  | .lit (.string bytes) => bytes.length + 1
  | .lit _ => 1
  | .nil => 1
  | .ptr d => uptoBulk d + 1
  | .slice elems spare => uptoBulkAll elems + uptoBulkAll spare + 1
  | .agg parts => uptoBulkAll parts + 1
  | .iface _ d => uptoBulk d + 1
  | .map entries => uptoBulkEntries entries + 1
  | .held _ => 1
def uptoBulkAll {H : Type} : List (DataW H) → Nat
  | [] => 0
  | d :: r => uptoBulk d + uptoBulkAll r
def uptoBulkEntries {H : Type} : List (Lit × DataW H) → Nat
  | [] => 0
  | x :: r => uptoBulkEntry x + uptoBulkEntries r
def uptoBulkEntry {H : Type} : Lit × DataW H → Nat
  | (.string bytes, d) => bytes.length + uptoBulk d + 1
  | (_, d) => uptoBulk d + 1
 end
def uptoSmall : (H : Type) → List (DataW H) → Bool := fun _ ds => decide (uptoBulkAll ds ≤ 1048576)
def OpenSpec.upto (s : _root_.Go.ChangeSpec) : _root_.Go.OpenSpec := { _root_.Go.OpenSpec.ofChange s with cond := some uptoSmall }

/-- 'laws.FnSwayTrusts', WHERE WHAT IT READS IS OF BULK AT MOST 1048576: true; the input reads as it did. -/
def fnSwayTrustsUptoRow : OpenClaim := { program := "ytbmeikhhfjefoaa", sum := "c42af49bb00d59984ed605a4caa430e3567f2361f9bbd6395a2149d6a4a70528", func := "loop.example/cloison/laws.FnSwayTrusts", spec := "fnSwayTrusts", unfollowed := true, recurses := true, apart := false, narrowed := true }
def FnSwayTrustsUptoSaid : Prop := fnSwayTrustsUptoRow.holds Try.pinned (OpenSpec.upto fnSwayTrustsSpec)

/-- 'laws.FnLeakTold', WHERE WHAT IT READS IS OF BULK AT MOST 1048576: true; the input reads as it did. -/
def fnLeakToldUptoRow : OpenClaim := { program := "ytbmeikhhfjefoaa", sum := "c42af49bb00d59984ed605a4caa430e3567f2361f9bbd6395a2149d6a4a70528", func := "loop.example/cloison/laws.FnLeakTold", spec := "fnLeakTold", unfollowed := true, recurses := true, apart := false, narrowed := true }
def FnLeakToldUptoSaid : Prop := fnLeakToldUptoRow.holds Try.pinned (OpenSpec.upto fnLeakToldSpec)

/-- 'laws.FnSwayAll', WHERE WHAT IT READS IS OF BULK AT MOST 1048576: true; the input reads as it did. -/
def fnSwayAllUptoRow : OpenClaim := { program := "ytbmeikhhfjefoaa", sum := "c42af49bb00d59984ed605a4caa430e3567f2361f9bbd6395a2149d6a4a70528", func := "loop.example/cloison/laws.FnSwayAll", spec := "fnSwayAll", unfollowed := true, recurses := true, apart := false, narrowed := true }
def FnSwayAllUptoSaid : Prop := fnSwayAllUptoRow.holds Try.pinned (OpenSpec.upto fnSwayAllSpec)

/-- 'laws.FnLeakOf', WHERE WHAT IT READS IS OF BULK AT MOST 1048576: true; the input reads as it did. -/
def fnLeakOfUptoRow : OpenClaim := { program := "ytbmeikhhfjefoaa", sum := "c42af49bb00d59984ed605a4caa430e3567f2361f9bbd6395a2149d6a4a70528", func := "loop.example/cloison/laws.FnLeakOf", spec := "fnLeakOf", unfollowed := true, recurses := true, apart := false, narrowed := true }
def FnLeakOfUptoSaid : Prop := fnLeakOfUptoRow.holds Try.pinned (OpenSpec.upto fnLeakOfSpec)

/-- 'laws.FnSwayOf', WHERE WHAT IT READS IS OF BULK AT MOST 1048576: true; the input reads as it did. -/
def fnSwayOfUptoRow : OpenClaim := { program := "ytbmeikhhfjefoaa", sum := "c42af49bb00d59984ed605a4caa430e3567f2361f9bbd6395a2149d6a4a70528", func := "loop.example/cloison/laws.FnSwayOf", spec := "fnSwayOf", unfollowed := true, recurses := true, apart := false, narrowed := true }
def FnSwayOfUptoSaid : Prop := fnSwayOfUptoRow.holds Try.pinned (OpenSpec.upto fnSwayOfSpec)

/-- 'laws.FnPartCount', WHERE WHAT IT READS IS OF BULK AT MOST 1048576: true; the input reads as it did. -/
def fnPartCountUptoRow : OpenClaim := { program := "ytbmeikhhfjefoaa", sum := "c42af49bb00d59984ed605a4caa430e3567f2361f9bbd6395a2149d6a4a70528", func := "loop.example/cloison/laws.FnPartCount", spec := "fnPartCount", recurses := true, apart := false, narrowed := true }
def FnPartCountUptoSaid : Prop := fnPartCountUptoRow.holds Try.pinned (OpenSpec.upto fnPartCountSpec)

/-- 'laws.FnPartView', WHERE WHAT IT READS IS OF BULK AT MOST 1048576: true; the input reads as it did. -/
def fnPartViewUptoRow : OpenClaim := { program := "ytbmeikhhfjefoaa", sum := "c42af49bb00d59984ed605a4caa430e3567f2361f9bbd6395a2149d6a4a70528", func := "loop.example/cloison/laws.FnPartView", spec := "fnPartView", recurses := true, apart := false, narrowed := true }
def FnPartViewUptoSaid : Prop := fnPartViewUptoRow.holds Try.pinned (OpenSpec.upto fnPartViewSpec)

/-- 'laws.FnLeakNone', WHERE WHAT IT READS IS OF BULK AT MOST 1048576: true; the input reads as it did. -/
def fnLeakNoneUptoRow : OpenClaim := { program := "ytbmeikhhfjefoaa", sum := "c42af49bb00d59984ed605a4caa430e3567f2361f9bbd6395a2149d6a4a70528", func := "loop.example/cloison/laws.FnLeakNone", spec := "fnLeakNone", unfollowed := true, recurses := true, apart := false, narrowed := true }
def FnLeakNoneUptoSaid : Prop := fnLeakNoneUptoRow.holds Try.pinned (OpenSpec.upto fnLeakNoneSpec)

/-- 'laws.FnSwayNone', WHERE WHAT IT READS IS OF BULK AT MOST 1048576: true; the input reads as it did. -/
def fnSwayNoneUptoRow : OpenClaim := { program := "ytbmeikhhfjefoaa", sum := "c42af49bb00d59984ed605a4caa430e3567f2361f9bbd6395a2149d6a4a70528", func := "loop.example/cloison/laws.FnSwayNone", spec := "fnSwayNone", unfollowed := true, recurses := true, apart := false, narrowed := true }
def FnSwayNoneUptoSaid : Prop := fnSwayNoneUptoRow.holds Try.pinned (OpenSpec.upto fnSwayNoneSpec)

/-- 'laws.FnTurnLeak', WHERE WHAT IT READS IS OF BULK AT MOST 1048576: true; the input reads as it did. -/
def fnTurnLeakUptoRow : OpenClaim := { program := "ytbmeikhhfjefoaa", sum := "c42af49bb00d59984ed605a4caa430e3567f2361f9bbd6395a2149d6a4a70528", func := "loop.example/cloison/laws.FnTurnLeak", spec := "fnTurnLeak", unfollowed := true, recurses := true, apart := false, narrowed := true }
def FnTurnLeakUptoSaid : Prop := fnTurnLeakUptoRow.holds Try.pinned (OpenSpec.upto fnTurnLeakSpec)

end Rows
end Go.Proofs.Ytbmeikhhfjefoaa
