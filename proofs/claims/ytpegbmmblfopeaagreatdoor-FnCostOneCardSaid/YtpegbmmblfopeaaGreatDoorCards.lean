/-
  DERIVED. GIVEN WITH THE SEED: THE CARDS: each row of YtpegbmmblfopeaaGreatDoorRows.lean that lists a variable, with what it lists TIED to the program's text (the seventh form; the later family's looks); each row that meets fmt, with fmt's text TOLD by the authors' own Lean function (tested against real Go, not proved from fmt's source: count such statements apart). THE CARD IS WHAT COUNTS. Prove the row's statement (the work); the ties are given (YtpegbmmblfopeaaGreatDoorTie.lean); close each card by the builder's one call (the guide's Derived/Test/ToyasCard.lean, 'card_holds'). Laid BY PROGRAM, IN A SANDBOX (cutbox-door.mjs). By AI agents, Wed Nov 11 2026. No macro, syntax, notation, axiom, sorry.
-/
import Derived.Test.YtpegbmmblfopeaaGreatDoorRows
import GoSem.ClaimSeven
namespace Go.Proofs.YtpegbmmblfopeaaGreatDoor
namespace Rows

/-- THE TIED CARD OF 'laws.FnCostOf'. -/
def fnCostOfCard : Claim7 := { stood := { row := fnCostOfRow, standIns := [], harness := (true, "fdb3432407a06dda46f85a89a48bae2eba21e8e96c8606b8de0c4ab9ca5af86f"), looks := false }, kinds := [], alts := [], laidByText := true, laidKinds := [.data], laidTests := true, laidLooks := .later }
def FnCostOfCardSaid : Prop := Claim7.holds Tryz.pinned (.plain (OpenSpec.ofChange fnCostOfSpec)) fnCostOfCard

/-- THE TIED CARD OF 'laws.FnCostSteps'. -/
def fnCostStepsCard : Claim7 := { stood := { row := fnCostStepsRow, standIns := [], harness := (true, "fdb3432407a06dda46f85a89a48bae2eba21e8e96c8606b8de0c4ab9ca5af86f"), looks := false }, kinds := [], alts := [], laidByText := true, laidKinds := [.data], laidTests := true, laidLooks := .later }
def FnCostStepsCardSaid : Prop := Claim7.holds Tryz.pinned (.plain (OpenSpec.ofChange fnCostStepsSpec)) fnCostStepsCard

/-- THE TIED CARD OF 'laws.FnCostOne'. -/
def fnCostOneCard : Claim7 := { stood := { row := fnCostOneRow, standIns := [], harness := (true, "fdb3432407a06dda46f85a89a48bae2eba21e8e96c8606b8de0c4ab9ca5af86f"), looks := false }, kinds := [], alts := [], laidByText := true, laidKinds := [.data], laidTests := true, laidLooks := .later }
def FnCostOneCardSaid : Prop := Claim7.holds Tryz.pinned (.plain (OpenSpec.ofChange fnCostOneSpec)) fnCostOneCard

/-- THE TIED CARD OF 'laws.FnPartPlan'. -/
def fnPartPlanCard : Claim7 := { stood := { row := fnPartPlanRow, standIns := [], harness := (true, "fdb3432407a06dda46f85a89a48bae2eba21e8e96c8606b8de0c4ab9ca5af86f"), looks := false }, kinds := [], alts := [], laidByText := true, laidKinds := [.data], laidTests := true, laidLooks := .later }
def FnPartPlanCardSaid : Prop := Claim7.holds Tryz.pinned (.plain (OpenSpec.ofChange fnPartPlanSpec)) fnPartPlanCard

/-- THE TIED CARD OF 'laws.FnCostFind'. -/
def fnCostFindCard : Claim7 := { stood := { row := fnCostFindRow, standIns := [], harness := (true, "fdb3432407a06dda46f85a89a48bae2eba21e8e96c8606b8de0c4ab9ca5af86f"), looks := false }, kinds := [], alts := [], laidByText := true, laidKinds := [.data], laidTests := true, laidLooks := .later }
def FnCostFindCardSaid : Prop := Claim7.holds Tryz.pinned (.plain (OpenSpec.ofChange fnCostFindSpec)) fnCostFindCard

/-- THE TIED CARD OF 'laws.FnCostBest'. -/
def fnCostBestCard : Claim7 := { stood := { row := fnCostBestRow, standIns := [], harness := (true, "fdb3432407a06dda46f85a89a48bae2eba21e8e96c8606b8de0c4ab9ca5af86f"), looks := false }, kinds := [], alts := [], laidByText := true, laidKinds := [.data], laidTests := true, laidLooks := .later }
def FnCostBestCardSaid : Prop := Claim7.holds Tryz.pinned (.plain (OpenSpec.ofChange fnCostBestSpec)) fnCostBestCard

/-- THE TIED CARD OF 'laws.FnCostBestAll'. -/
def fnCostBestAllCard : Claim7 := { stood := { row := fnCostBestAllRow, standIns := [], harness := (true, "fdb3432407a06dda46f85a89a48bae2eba21e8e96c8606b8de0c4ab9ca5af86f"), looks := false }, kinds := [], alts := [], laidByText := true, laidKinds := [.data], laidTests := true, laidLooks := .later }
def FnCostBestAllCardSaid : Prop := Claim7.holds Tryz.pinned (.plain (OpenSpec.ofChange fnCostBestAllSpec)) fnCostBestAllCard

/-- THE TIED CARD OF 'laws.FnPartHides'. -/
def fnPartHidesCard : Claim7 := { stood := { row := fnPartHidesRow, standIns := [], harness := (true, "fdb3432407a06dda46f85a89a48bae2eba21e8e96c8606b8de0c4ab9ca5af86f"), looks := false }, kinds := [], alts := [], laidByText := true, laidKinds := [.data], laidTests := true, laidLooks := .later }
def FnPartHidesCardSaid : Prop := Claim7.holds Tryz.pinned (.plain (OpenSpec.ofChange fnPartHidesSpec)) fnPartHidesCard

/-- THE TIED CARD OF 'laws.FnTurnPart'. -/
def fnTurnPartCard : Claim7 := { stood := { row := fnTurnPartRow, standIns := [], harness := (true, "fdb3432407a06dda46f85a89a48bae2eba21e8e96c8606b8de0c4ab9ca5af86f"), looks := false }, kinds := [], alts := [], laidByText := true, laidKinds := [.data], laidTests := true, laidLooks := .later }
def FnTurnPartCardSaid : Prop := Claim7.holds Tryz.pinned (.plain (OpenSpec.ofChange fnTurnPartSpec)) fnTurnPartCard

/-- THE SECOND FORM's CARD OF 'laws.FnCostOf'. -/
def fnCostOfUptoCard : Claim7 := { stood := { row := fnCostOfUptoRow, standIns := [], harness := (true, "fdb3432407a06dda46f85a89a48bae2eba21e8e96c8606b8de0c4ab9ca5af86f"), looks := false }, kinds := [], alts := [], laidByText := true, laidKinds := [.data], laidTests := true, laidLooks := .later }
def FnCostOfUptoCardSaid : Prop := Claim7.holds Tryz.pinned (.plain (OpenSpec.upto fnCostOfSpec)) fnCostOfUptoCard

/-- THE SECOND FORM's CARD OF 'laws.FnCostSteps'. -/
def fnCostStepsUptoCard : Claim7 := { stood := { row := fnCostStepsUptoRow, standIns := [], harness := (true, "fdb3432407a06dda46f85a89a48bae2eba21e8e96c8606b8de0c4ab9ca5af86f"), looks := false }, kinds := [], alts := [], laidByText := true, laidKinds := [.data], laidTests := true, laidLooks := .later }
def FnCostStepsUptoCardSaid : Prop := Claim7.holds Tryz.pinned (.plain (OpenSpec.upto fnCostStepsSpec)) fnCostStepsUptoCard

/-- THE SECOND FORM's CARD OF 'laws.FnCostOne'. -/
def fnCostOneUptoCard : Claim7 := { stood := { row := fnCostOneUptoRow, standIns := [], harness := (true, "fdb3432407a06dda46f85a89a48bae2eba21e8e96c8606b8de0c4ab9ca5af86f"), looks := false }, kinds := [], alts := [], laidByText := true, laidKinds := [.data], laidTests := true, laidLooks := .later }
def FnCostOneUptoCardSaid : Prop := Claim7.holds Tryz.pinned (.plain (OpenSpec.upto fnCostOneSpec)) fnCostOneUptoCard

/-- THE SECOND FORM's CARD OF 'laws.FnPartPlan'. -/
def fnPartPlanUptoCard : Claim7 := { stood := { row := fnPartPlanUptoRow, standIns := [], harness := (true, "fdb3432407a06dda46f85a89a48bae2eba21e8e96c8606b8de0c4ab9ca5af86f"), looks := false }, kinds := [], alts := [], laidByText := true, laidKinds := [.data], laidTests := true, laidLooks := .later }
def FnPartPlanUptoCardSaid : Prop := Claim7.holds Tryz.pinned (.plain (OpenSpec.upto fnPartPlanSpec)) fnPartPlanUptoCard

/-- THE SECOND FORM's CARD OF 'laws.FnCostFind'. -/
def fnCostFindUptoCard : Claim7 := { stood := { row := fnCostFindUptoRow, standIns := [], harness := (true, "fdb3432407a06dda46f85a89a48bae2eba21e8e96c8606b8de0c4ab9ca5af86f"), looks := false }, kinds := [], alts := [], laidByText := true, laidKinds := [.data], laidTests := true, laidLooks := .later }
def FnCostFindUptoCardSaid : Prop := Claim7.holds Tryz.pinned (.plain (OpenSpec.upto fnCostFindSpec)) fnCostFindUptoCard

/-- THE SECOND FORM's CARD OF 'laws.FnCostBest'. -/
def fnCostBestUptoCard : Claim7 := { stood := { row := fnCostBestUptoRow, standIns := [], harness := (true, "fdb3432407a06dda46f85a89a48bae2eba21e8e96c8606b8de0c4ab9ca5af86f"), looks := false }, kinds := [], alts := [], laidByText := true, laidKinds := [.data], laidTests := true, laidLooks := .later }
def FnCostBestUptoCardSaid : Prop := Claim7.holds Tryz.pinned (.plain (OpenSpec.upto fnCostBestSpec)) fnCostBestUptoCard

/-- THE SECOND FORM's CARD OF 'laws.FnCostBestAll'. -/
def fnCostBestAllUptoCard : Claim7 := { stood := { row := fnCostBestAllUptoRow, standIns := [], harness := (true, "fdb3432407a06dda46f85a89a48bae2eba21e8e96c8606b8de0c4ab9ca5af86f"), looks := false }, kinds := [], alts := [], laidByText := true, laidKinds := [.data], laidTests := true, laidLooks := .later }
def FnCostBestAllUptoCardSaid : Prop := Claim7.holds Tryz.pinned (.plain (OpenSpec.upto fnCostBestAllSpec)) fnCostBestAllUptoCard

/-- THE SECOND FORM's CARD OF 'laws.FnPartHides'. -/
def fnPartHidesUptoCard : Claim7 := { stood := { row := fnPartHidesUptoRow, standIns := [], harness := (true, "fdb3432407a06dda46f85a89a48bae2eba21e8e96c8606b8de0c4ab9ca5af86f"), looks := false }, kinds := [], alts := [], laidByText := true, laidKinds := [.data], laidTests := true, laidLooks := .later }
def FnPartHidesUptoCardSaid : Prop := Claim7.holds Tryz.pinned (.plain (OpenSpec.upto fnPartHidesSpec)) fnPartHidesUptoCard

/-- THE SECOND FORM's CARD OF 'laws.FnTurnPart'. -/
def fnTurnPartUptoCard : Claim7 := { stood := { row := fnTurnPartUptoRow, standIns := [], harness := (true, "fdb3432407a06dda46f85a89a48bae2eba21e8e96c8606b8de0c4ab9ca5af86f"), looks := false }, kinds := [], alts := [], laidByText := true, laidKinds := [.data], laidTests := true, laidLooks := .later }
def FnTurnPartUptoCardSaid : Prop := Claim7.holds Tryz.pinned (.plain (OpenSpec.upto fnTurnPartSpec)) fnTurnPartUptoCard
end Rows
end Go.Proofs.YtpegbmmblfopeaaGreatDoor
