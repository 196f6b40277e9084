/-
  DERIVED. GIVEN WITH THE SEED: THE CARDS: each row of YtakcbgipdknijaaGreatDoorRows.lean that lists a variable, with what it lists TIED to the program's text (the seventh form; the later family's looks); each row that meets fmt, with fmt's text TOLD by the authors' own Lean function (tested against real Go, not proved from fmt's source: count such statements apart). THE CARD IS WHAT COUNTS. Prove the row's statement (the work); the ties are given (YtakcbgipdknijaaGreatDoorTie.lean); close each card by the builder's one call (the guide's Derived/Test/ToyasCard.lean, 'card_holds'). Laid BY PROGRAM, IN A SANDBOX (cutbox-door.mjs). By AI agents, Wed Nov 11 2026. No macro, syntax, notation, axiom, sorry.
-/
import Derived.Test.YtakcbgipdknijaaGreatDoorRows
import GoSem.ClaimSeven
namespace Go.Proofs.YtakcbgipdknijaaGreatDoor
namespace Rows

/-- THE TIED CARD OF 'laws.FnPartOne'. -/
def fnPartOneCard : Claim7 := { stood := { row := fnPartOneRow, standIns := [], harness := (true, "0cff17d8dfc992e803da956f0e90326f9d8b2674630d62dbbd655087d55a23bb"), looks := false }, kinds := [], alts := [], laidByText := true, laidKinds := [.data], laidTests := true, laidLooks := .later }
def FnPartOneCardSaid : Prop := Claim7.holds Tryz.pinned (.plain (OpenSpec.ofChange fnPartOneSpec)) fnPartOneCard

/-- THE TIED CARD OF 'laws.FnPartAsk'. -/
def fnPartAskCard : Claim7 := { stood := { row := fnPartAskRow, standIns := [], harness := (true, "0cff17d8dfc992e803da956f0e90326f9d8b2674630d62dbbd655087d55a23bb"), looks := false }, kinds := [], alts := [], laidByText := true, laidKinds := [.data], laidTests := true, laidLooks := .later }
def FnPartAskCardSaid : Prop := Claim7.holds Tryz.pinned (.plain (OpenSpec.ofChange fnPartAskSpec)) fnPartAskCard

/-- THE TIED CARD OF 'laws.FnPartFirst'. -/
def fnPartFirstCard : Claim7 := { stood := { row := fnPartFirstRow, standIns := [], harness := (true, "0cff17d8dfc992e803da956f0e90326f9d8b2674630d62dbbd655087d55a23bb"), looks := false }, kinds := [], alts := [], laidByText := true, laidKinds := [.data], laidTests := true, laidLooks := .later }
def FnPartFirstCardSaid : Prop := Claim7.holds Tryz.pinned (.plain (OpenSpec.ofChange fnPartFirstSpec)) fnPartFirstCard

/-- THE TIED CARD OF 'laws.FnPartLevel'. -/
def fnPartLevelCard : Claim7 := { stood := { row := fnPartLevelRow, standIns := [], harness := (true, "0cff17d8dfc992e803da956f0e90326f9d8b2674630d62dbbd655087d55a23bb"), looks := false }, kinds := [], alts := [], laidByText := true, laidKinds := [.data], laidTests := true, laidLooks := .later }
def FnPartLevelCardSaid : Prop := Claim7.holds Tryz.pinned (.plain (OpenSpec.ofChange fnPartLevelSpec)) fnPartLevelCard

/-- THE TIED CARD OF 'laws.FnPartBack'. -/
def fnPartBackCard : Claim7 := { stood := { row := fnPartBackRow, standIns := [], harness := (true, "0cff17d8dfc992e803da956f0e90326f9d8b2674630d62dbbd655087d55a23bb"), looks := false }, kinds := [], alts := [], laidByText := true, laidKinds := [.data], laidTests := true, laidLooks := .later }
def FnPartBackCardSaid : Prop := Claim7.holds Tryz.pinned (.plain (OpenSpec.ofChange fnPartBackSpec)) fnPartBackCard

/-- THE TIED CARD OF 'laws.FnPartGo'. -/
def fnPartGoCard : Claim7 := { stood := { row := fnPartGoRow, standIns := [], harness := (true, "0cff17d8dfc992e803da956f0e90326f9d8b2674630d62dbbd655087d55a23bb"), looks := false }, kinds := [], alts := [], laidByText := true, laidKinds := [.data], laidTests := true, laidLooks := .later }
def FnPartGoCardSaid : Prop := Claim7.holds Tryz.pinned (.plain (OpenSpec.ofChange fnPartGoSpec)) fnPartGoCard

/-- THE TIED CARD OF 'laws.FnPartNone'. -/
def fnPartNoneCard : Claim7 := { stood := { row := fnPartNoneRow, standIns := [], harness := (true, "0cff17d8dfc992e803da956f0e90326f9d8b2674630d62dbbd655087d55a23bb"), looks := false }, kinds := [], alts := [], laidByText := true, laidKinds := [.data], laidTests := true, laidLooks := .later }
def FnPartNoneCardSaid : Prop := Claim7.holds Tryz.pinned (.plain (OpenSpec.ofChange fnPartNoneSpec)) fnPartNoneCard

/-- THE TIED CARD OF 'laws.FnPartSet'. -/
def fnPartSetCard : Claim7 := { stood := { row := fnPartSetRow, standIns := [], harness := (true, "0cff17d8dfc992e803da956f0e90326f9d8b2674630d62dbbd655087d55a23bb"), looks := false }, kinds := [], alts := [], laidByText := true, laidKinds := [.data], laidTests := true, laidLooks := .later }
def FnPartSetCardSaid : Prop := Claim7.holds Tryz.pinned (.plain (OpenSpec.ofChange fnPartSetSpec)) fnPartSetCard

/-- THE TIED CARD OF 'laws.FnPartTold'. -/
def fnPartToldCard : Claim7 := { stood := { row := fnPartToldRow, standIns := [], harness := (true, "0cff17d8dfc992e803da956f0e90326f9d8b2674630d62dbbd655087d55a23bb"), looks := false }, kinds := [], alts := [], laidByText := true, laidKinds := [.data], laidTests := true, laidLooks := .later }
def FnPartToldCardSaid : Prop := Claim7.holds Tryz.pinned (.plain (OpenSpec.ofChange fnPartToldSpec)) fnPartToldCard

/-- THE TIED CARD OF 'laws.FnPartKnows'. -/
def fnPartKnowsCard : Claim7 := { stood := { row := fnPartKnowsRow, standIns := [], harness := (true, "0cff17d8dfc992e803da956f0e90326f9d8b2674630d62dbbd655087d55a23bb"), looks := false }, kinds := [], alts := [], laidByText := true, laidKinds := [.data], laidTests := true, laidLooks := .later }
def FnPartKnowsCardSaid : Prop := Claim7.holds Tryz.pinned (.plain (OpenSpec.ofChange fnPartKnowsSpec)) fnPartKnowsCard

/-- THE TIED CARD OF 'laws.FnPartSame'. -/
def fnPartSameCard : Claim7 := { stood := { row := fnPartSameRow, standIns := [], harness := (true, "0cff17d8dfc992e803da956f0e90326f9d8b2674630d62dbbd655087d55a23bb"), looks := false }, kinds := [], alts := [], laidByText := true, laidKinds := [.data], laidTests := true, laidLooks := .later }
def FnPartSameCardSaid : Prop := Claim7.holds Tryz.pinned (.plain (OpenSpec.ofChange fnPartSameSpec)) fnPartSameCard

/-- THE TIED CARD OF 'laws.FnPartTop'. -/
def fnPartTopCard : Claim7 := { stood := { row := fnPartTopRow, standIns := [], harness := (true, "0cff17d8dfc992e803da956f0e90326f9d8b2674630d62dbbd655087d55a23bb"), looks := false }, kinds := [], alts := [], laidByText := true, laidKinds := [.data], laidTests := true, laidLooks := .later }
def FnPartTopCardSaid : Prop := Claim7.holds Tryz.pinned (.plain (OpenSpec.ofChange fnPartTopSpec)) fnPartTopCard

/-- THE SECOND FORM's CARD OF 'laws.FnPartOne'. -/
def fnPartOneUptoCard : Claim7 := { stood := { row := fnPartOneUptoRow, standIns := [], harness := (true, "0cff17d8dfc992e803da956f0e90326f9d8b2674630d62dbbd655087d55a23bb"), looks := false }, kinds := [], alts := [], laidByText := true, laidKinds := [.data], laidTests := true, laidLooks := .later }
def FnPartOneUptoCardSaid : Prop := Claim7.holds Tryz.pinned (.plain (OpenSpec.upto fnPartOneSpec)) fnPartOneUptoCard

/-- THE SECOND FORM's CARD OF 'laws.FnPartAsk'. -/
def fnPartAskUptoCard : Claim7 := { stood := { row := fnPartAskUptoRow, standIns := [], harness := (true, "0cff17d8dfc992e803da956f0e90326f9d8b2674630d62dbbd655087d55a23bb"), looks := false }, kinds := [], alts := [], laidByText := true, laidKinds := [.data], laidTests := true, laidLooks := .later }
def FnPartAskUptoCardSaid : Prop := Claim7.holds Tryz.pinned (.plain (OpenSpec.upto fnPartAskSpec)) fnPartAskUptoCard

/-- THE SECOND FORM's CARD OF 'laws.FnPartFirst'. -/
def fnPartFirstUptoCard : Claim7 := { stood := { row := fnPartFirstUptoRow, standIns := [], harness := (true, "0cff17d8dfc992e803da956f0e90326f9d8b2674630d62dbbd655087d55a23bb"), looks := false }, kinds := [], alts := [], laidByText := true, laidKinds := [.data], laidTests := true, laidLooks := .later }
def FnPartFirstUptoCardSaid : Prop := Claim7.holds Tryz.pinned (.plain (OpenSpec.upto fnPartFirstSpec)) fnPartFirstUptoCard

/-- THE SECOND FORM's CARD OF 'laws.FnPartLevel'. -/
def fnPartLevelUptoCard : Claim7 := { stood := { row := fnPartLevelUptoRow, standIns := [], harness := (true, "0cff17d8dfc992e803da956f0e90326f9d8b2674630d62dbbd655087d55a23bb"), looks := false }, kinds := [], alts := [], laidByText := true, laidKinds := [.data], laidTests := true, laidLooks := .later }
def FnPartLevelUptoCardSaid : Prop := Claim7.holds Tryz.pinned (.plain (OpenSpec.upto fnPartLevelSpec)) fnPartLevelUptoCard

/-- THE SECOND FORM's CARD OF 'laws.FnPartBack'. -/
def fnPartBackUptoCard : Claim7 := { stood := { row := fnPartBackUptoRow, standIns := [], harness := (true, "0cff17d8dfc992e803da956f0e90326f9d8b2674630d62dbbd655087d55a23bb"), looks := false }, kinds := [], alts := [], laidByText := true, laidKinds := [.data], laidTests := true, laidLooks := .later }
def FnPartBackUptoCardSaid : Prop := Claim7.holds Tryz.pinned (.plain (OpenSpec.upto fnPartBackSpec)) fnPartBackUptoCard

/-- THE SECOND FORM's CARD OF 'laws.FnPartGo'. -/
def fnPartGoUptoCard : Claim7 := { stood := { row := fnPartGoUptoRow, standIns := [], harness := (true, "0cff17d8dfc992e803da956f0e90326f9d8b2674630d62dbbd655087d55a23bb"), looks := false }, kinds := [], alts := [], laidByText := true, laidKinds := [.data], laidTests := true, laidLooks := .later }
def FnPartGoUptoCardSaid : Prop := Claim7.holds Tryz.pinned (.plain (OpenSpec.upto fnPartGoSpec)) fnPartGoUptoCard

/-- THE SECOND FORM's CARD OF 'laws.FnPartNone'. -/
def fnPartNoneUptoCard : Claim7 := { stood := { row := fnPartNoneUptoRow, standIns := [], harness := (true, "0cff17d8dfc992e803da956f0e90326f9d8b2674630d62dbbd655087d55a23bb"), looks := false }, kinds := [], alts := [], laidByText := true, laidKinds := [.data], laidTests := true, laidLooks := .later }
def FnPartNoneUptoCardSaid : Prop := Claim7.holds Tryz.pinned (.plain (OpenSpec.upto fnPartNoneSpec)) fnPartNoneUptoCard

/-- THE SECOND FORM's CARD OF 'laws.FnPartSet'. -/
def fnPartSetUptoCard : Claim7 := { stood := { row := fnPartSetUptoRow, standIns := [], harness := (true, "0cff17d8dfc992e803da956f0e90326f9d8b2674630d62dbbd655087d55a23bb"), looks := false }, kinds := [], alts := [], laidByText := true, laidKinds := [.data], laidTests := true, laidLooks := .later }
def FnPartSetUptoCardSaid : Prop := Claim7.holds Tryz.pinned (.plain (OpenSpec.upto fnPartSetSpec)) fnPartSetUptoCard

/-- THE SECOND FORM's CARD OF 'laws.FnPartTold'. -/
def fnPartToldUptoCard : Claim7 := { stood := { row := fnPartToldUptoRow, standIns := [], harness := (true, "0cff17d8dfc992e803da956f0e90326f9d8b2674630d62dbbd655087d55a23bb"), looks := false }, kinds := [], alts := [], laidByText := true, laidKinds := [.data], laidTests := true, laidLooks := .later }
def FnPartToldUptoCardSaid : Prop := Claim7.holds Tryz.pinned (.plain (OpenSpec.upto fnPartToldSpec)) fnPartToldUptoCard

/-- THE SECOND FORM's CARD OF 'laws.FnPartKnows'. -/
def fnPartKnowsUptoCard : Claim7 := { stood := { row := fnPartKnowsUptoRow, standIns := [], harness := (true, "0cff17d8dfc992e803da956f0e90326f9d8b2674630d62dbbd655087d55a23bb"), looks := false }, kinds := [], alts := [], laidByText := true, laidKinds := [.data], laidTests := true, laidLooks := .later }
def FnPartKnowsUptoCardSaid : Prop := Claim7.holds Tryz.pinned (.plain (OpenSpec.upto fnPartKnowsSpec)) fnPartKnowsUptoCard

/-- THE SECOND FORM's CARD OF 'laws.FnPartSame'. -/
def fnPartSameUptoCard : Claim7 := { stood := { row := fnPartSameUptoRow, standIns := [], harness := (true, "0cff17d8dfc992e803da956f0e90326f9d8b2674630d62dbbd655087d55a23bb"), looks := false }, kinds := [], alts := [], laidByText := true, laidKinds := [.data], laidTests := true, laidLooks := .later }
def FnPartSameUptoCardSaid : Prop := Claim7.holds Tryz.pinned (.plain (OpenSpec.upto fnPartSameSpec)) fnPartSameUptoCard

/-- THE SECOND FORM's CARD OF 'laws.FnPartTop'. -/
def fnPartTopUptoCard : Claim7 := { stood := { row := fnPartTopUptoRow, standIns := [], harness := (true, "0cff17d8dfc992e803da956f0e90326f9d8b2674630d62dbbd655087d55a23bb"), looks := false }, kinds := [], alts := [], laidByText := true, laidKinds := [.data], laidTests := true, laidLooks := .later }
def FnPartTopUptoCardSaid : Prop := Claim7.holds Tryz.pinned (.plain (OpenSpec.upto fnPartTopSpec)) fnPartTopUptoCard
end Rows
end Go.Proofs.YtakcbgipdknijaaGreatDoor
