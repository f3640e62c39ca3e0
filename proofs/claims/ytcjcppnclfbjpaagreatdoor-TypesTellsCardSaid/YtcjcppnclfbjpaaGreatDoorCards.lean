/-
  DERIVED. GIVEN WITH THE SEED: THE CARDS: each row of YtcjcppnclfbjpaaGreatDoorRows.lean that lists a variable, with what it lists TIED to the program's text (the seventh form; the later family's looks); each row that meets fmt, with fmt's text TOLD by the authors' own Lean function (tested against real Go, not proved from fmt's source: count such statements apart). THE CARD IS WHAT COUNTS. Prove the row's statement (the work); the ties are given (YtcjcppnclfbjpaaGreatDoorTie.lean); close each card by the builder's one call (the guide's Derived/Test/ToyasCard.lean, 'card_holds'). Laid BY PROGRAM, IN A SANDBOX (cutbox-door.mjs). By AI agents, Wed Nov 11 2026. No macro, syntax, notation, axiom, sorry.
-/
import Derived.Test.YtcjcppnclfbjpaaGreatDoorRows
import GoSem.ClaimSeven
namespace Go.Proofs.YtcjcppnclfbjpaaGreatDoor
namespace Rows

/-- THE TIED CARD OF 'fastilaw18.TypesTells'. -/
def typesTellsCard : Claim7 := { stood := { row := typesTellsRow, standIns := [], harness := (true, "aebe2295ba4c7ebb28cd2e8660bbdf8793b722673adf2fd070e444e71d0bc54f"), looks := true }, kinds := [], alts := [], laidByText := true, laidKinds := [.data, .data, .data, .data, .sentinel, .sentinel, .pinned], laidTests := true, laidLooks := .later }
def TypesTellsCardSaid : Prop := Claim7.holds Tryz.pinned (.plain (OpenSpec.ofChange typesTellsSpec)) typesTellsCard

/-- THE TIED CARD OF 'fastilaw18.TypesRight'. -/
def typesRightCard : Claim7 := { stood := { row := typesRightRow, standIns := [], harness := (true, "aebe2295ba4c7ebb28cd2e8660bbdf8793b722673adf2fd070e444e71d0bc54f"), looks := true }, kinds := [], alts := [], laidByText := true, laidKinds := [.data, .data, .data, .data, .sentinel, .sentinel, .pinned], laidTests := true, laidLooks := .later }
def TypesRightCardSaid : Prop := Claim7.holds Tryz.pinned (.plain (OpenSpec.ofChange typesRightSpec)) typesRightCard

/-- THE TIED CARD OF 'fastilaw18.TypesSteps'. -/
def typesStepsCard : Claim7 := { stood := { row := typesStepsRow, standIns := [], harness := (true, "aebe2295ba4c7ebb28cd2e8660bbdf8793b722673adf2fd070e444e71d0bc54f"), looks := true }, kinds := [], alts := [], laidByText := true, laidKinds := [.data, .data, .data, .data, .sentinel, .sentinel, .pinned], laidTests := true, laidLooks := .later }
def TypesStepsCardSaid : Prop := Claim7.holds Tryz.pinned (.plain (OpenSpec.ofChange typesStepsSpec)) typesStepsCard

/-- THE TIED CARD OF 'fastilaw17.SyntaxWrites'. -/
def syntaxWritesCard : Claim7 := { stood := { row := syntaxWritesRow, standIns := [], harness := (true, "aebe2295ba4c7ebb28cd2e8660bbdf8793b722673adf2fd070e444e71d0bc54f"), looks := true }, kinds := [], alts := [], laidByText := true, laidKinds := [.data, .data, .data, .data, .sentinel, .sentinel, .pinned], laidTests := true, laidLooks := .later }
def SyntaxWritesCardSaid : Prop := Claim7.holds Tryz.pinned (.plain (OpenSpec.ofChange syntaxWritesSpec)) syntaxWritesCard

/-- THE TIED CARD OF 'fastilaw17.SyntaxReads'. -/
def syntaxReadsCard : Claim7 := { stood := { row := syntaxReadsRow, standIns := [], harness := (true, "aebe2295ba4c7ebb28cd2e8660bbdf8793b722673adf2fd070e444e71d0bc54f"), looks := true }, kinds := [], alts := [], laidByText := true, laidKinds := [.data, .data, .data, .data, .sentinel, .sentinel, .pinned], laidTests := true, laidLooks := .later }
def SyntaxReadsCardSaid : Prop := Claim7.holds Tryz.pinned (.plain (OpenSpec.ofChange syntaxReadsSpec)) syntaxReadsCard

/-- THE TIED CARD OF 'fastilaw17.SyntaxBack'. -/
def syntaxBackCard : Claim7 := { stood := { row := syntaxBackRow, standIns := [], harness := (true, "aebe2295ba4c7ebb28cd2e8660bbdf8793b722673adf2fd070e444e71d0bc54f"), looks := true }, kinds := [], alts := [], laidByText := true, laidKinds := [.data, .data, .data, .data, .sentinel, .sentinel, .pinned], laidTests := true, laidLooks := .later }
def SyntaxBackCardSaid : Prop := Claim7.holds Tryz.pinned (.plain (OpenSpec.ofChange syntaxBackSpec)) syntaxBackCard

/-- THE TIED CARD OF 'fastilaw17.SyntaxOnce'. -/
def syntaxOnceCard : Claim7 := { stood := { row := syntaxOnceRow, standIns := [], harness := (true, "aebe2295ba4c7ebb28cd2e8660bbdf8793b722673adf2fd070e444e71d0bc54f"), looks := true }, kinds := [], alts := [], laidByText := true, laidKinds := [.data, .data, .data, .data, .sentinel, .sentinel, .pinned], laidTests := true, laidLooks := .later }
def SyntaxOnceCardSaid : Prop := Claim7.holds Tryz.pinned (.plain (OpenSpec.ofChange syntaxOnceSpec)) syntaxOnceCard

/-- THE TIED CARD OF 'fastilaw17.SyntaxStops'. -/
def syntaxStopsCard : Claim7 := { stood := { row := syntaxStopsRow, standIns := [], harness := (true, "aebe2295ba4c7ebb28cd2e8660bbdf8793b722673adf2fd070e444e71d0bc54f"), looks := true }, kinds := [], alts := [], laidByText := true, laidKinds := [.data, .data, .data, .data, .sentinel, .sentinel, .pinned], laidTests := true, laidLooks := .later }
def SyntaxStopsCardSaid : Prop := Claim7.holds Tryz.pinned (.plain (OpenSpec.ofChange syntaxStopsSpec)) syntaxStopsCard

/-- THE TIED CARD OF 'fastilaw21.PlanMakes'. -/
def planMakesCard : Claim7 := { stood := { row := planMakesRow, standIns := [], harness := (true, "aebe2295ba4c7ebb28cd2e8660bbdf8793b722673adf2fd070e444e71d0bc54f"), looks := true }, kinds := [], alts := [], laidByText := true, laidKinds := [.data, .data, .data, .data, .sentinel, .sentinel, .pinned], laidTests := true, laidLooks := .later }
def PlanMakesCardSaid : Prop := Claim7.holds Tryz.pinned (.plain (OpenSpec.ofChange planMakesSpec)) planMakesCard

/-- THE TIED CARD OF 'fastilaw21.PlanOnce'. -/
def planOnceCard : Claim7 := { stood := { row := planOnceRow, standIns := [], harness := (true, "aebe2295ba4c7ebb28cd2e8660bbdf8793b722673adf2fd070e444e71d0bc54f"), looks := true }, kinds := [], alts := [], laidByText := true, laidKinds := [.data, .data, .data, .data, .sentinel, .sentinel, .pinned], laidTests := true, laidLooks := .later }
def PlanOnceCardSaid : Prop := Claim7.holds Tryz.pinned (.plain (OpenSpec.ofChange planOnceSpec)) planOnceCard

/-- THE SECOND FORM's CARD OF 'fastilaw18.TypesTells'. -/
def typesTellsUptoCard : Claim7 := { stood := { row := typesTellsUptoRow, standIns := [], harness := (true, "aebe2295ba4c7ebb28cd2e8660bbdf8793b722673adf2fd070e444e71d0bc54f"), looks := true }, kinds := [], alts := [], laidByText := true, laidKinds := [.data, .data, .data, .data, .sentinel, .sentinel, .pinned], laidTests := true, laidLooks := .later }
def TypesTellsUptoCardSaid : Prop := Claim7.holds Tryz.pinned (.plain (OpenSpec.upto typesTellsSpec)) typesTellsUptoCard

/-- THE SECOND FORM's CARD OF 'fastilaw18.TypesRight'. -/
def typesRightUptoCard : Claim7 := { stood := { row := typesRightUptoRow, standIns := [], harness := (true, "aebe2295ba4c7ebb28cd2e8660bbdf8793b722673adf2fd070e444e71d0bc54f"), looks := true }, kinds := [], alts := [], laidByText := true, laidKinds := [.data, .data, .data, .data, .sentinel, .sentinel, .pinned], laidTests := true, laidLooks := .later }
def TypesRightUptoCardSaid : Prop := Claim7.holds Tryz.pinned (.plain (OpenSpec.upto typesRightSpec)) typesRightUptoCard

/-- THE SECOND FORM's CARD OF 'fastilaw18.TypesSteps'. -/
def typesStepsUptoCard : Claim7 := { stood := { row := typesStepsUptoRow, standIns := [], harness := (true, "aebe2295ba4c7ebb28cd2e8660bbdf8793b722673adf2fd070e444e71d0bc54f"), looks := true }, kinds := [], alts := [], laidByText := true, laidKinds := [.data, .data, .data, .data, .sentinel, .sentinel, .pinned], laidTests := true, laidLooks := .later }
def TypesStepsUptoCardSaid : Prop := Claim7.holds Tryz.pinned (.plain (OpenSpec.upto typesStepsSpec)) typesStepsUptoCard

/-- THE SECOND FORM's CARD OF 'fastilaw17.SyntaxWrites'. -/
def syntaxWritesUptoCard : Claim7 := { stood := { row := syntaxWritesUptoRow, standIns := [], harness := (true, "aebe2295ba4c7ebb28cd2e8660bbdf8793b722673adf2fd070e444e71d0bc54f"), looks := true }, kinds := [], alts := [], laidByText := true, laidKinds := [.data, .data, .data, .data, .sentinel, .sentinel, .pinned], laidTests := true, laidLooks := .later }
def SyntaxWritesUptoCardSaid : Prop := Claim7.holds Tryz.pinned (.plain (OpenSpec.upto syntaxWritesSpec)) syntaxWritesUptoCard

/-- THE SECOND FORM's CARD OF 'fastilaw17.SyntaxReads'. -/
def syntaxReadsUptoCard : Claim7 := { stood := { row := syntaxReadsUptoRow, standIns := [], harness := (true, "aebe2295ba4c7ebb28cd2e8660bbdf8793b722673adf2fd070e444e71d0bc54f"), looks := true }, kinds := [], alts := [], laidByText := true, laidKinds := [.data, .data, .data, .data, .sentinel, .sentinel, .pinned], laidTests := true, laidLooks := .later }
def SyntaxReadsUptoCardSaid : Prop := Claim7.holds Tryz.pinned (.plain (OpenSpec.upto syntaxReadsSpec)) syntaxReadsUptoCard

/-- THE SECOND FORM's CARD OF 'fastilaw17.SyntaxBack'. -/
def syntaxBackUptoCard : Claim7 := { stood := { row := syntaxBackUptoRow, standIns := [], harness := (true, "aebe2295ba4c7ebb28cd2e8660bbdf8793b722673adf2fd070e444e71d0bc54f"), looks := true }, kinds := [], alts := [], laidByText := true, laidKinds := [.data, .data, .data, .data, .sentinel, .sentinel, .pinned], laidTests := true, laidLooks := .later }
def SyntaxBackUptoCardSaid : Prop := Claim7.holds Tryz.pinned (.plain (OpenSpec.upto syntaxBackSpec)) syntaxBackUptoCard

/-- THE SECOND FORM's CARD OF 'fastilaw17.SyntaxOnce'. -/
def syntaxOnceUptoCard : Claim7 := { stood := { row := syntaxOnceUptoRow, standIns := [], harness := (true, "aebe2295ba4c7ebb28cd2e8660bbdf8793b722673adf2fd070e444e71d0bc54f"), looks := true }, kinds := [], alts := [], laidByText := true, laidKinds := [.data, .data, .data, .data, .sentinel, .sentinel, .pinned], laidTests := true, laidLooks := .later }
def SyntaxOnceUptoCardSaid : Prop := Claim7.holds Tryz.pinned (.plain (OpenSpec.upto syntaxOnceSpec)) syntaxOnceUptoCard

/-- THE SECOND FORM's CARD OF 'fastilaw17.SyntaxStops'. -/
def syntaxStopsUptoCard : Claim7 := { stood := { row := syntaxStopsUptoRow, standIns := [], harness := (true, "aebe2295ba4c7ebb28cd2e8660bbdf8793b722673adf2fd070e444e71d0bc54f"), looks := true }, kinds := [], alts := [], laidByText := true, laidKinds := [.data, .data, .data, .data, .sentinel, .sentinel, .pinned], laidTests := true, laidLooks := .later }
def SyntaxStopsUptoCardSaid : Prop := Claim7.holds Tryz.pinned (.plain (OpenSpec.upto syntaxStopsSpec)) syntaxStopsUptoCard

/-- THE SECOND FORM's CARD OF 'fastilaw21.PlanMakes'. -/
def planMakesUptoCard : Claim7 := { stood := { row := planMakesUptoRow, standIns := [], harness := (true, "aebe2295ba4c7ebb28cd2e8660bbdf8793b722673adf2fd070e444e71d0bc54f"), looks := true }, kinds := [], alts := [], laidByText := true, laidKinds := [.data, .data, .data, .data, .sentinel, .sentinel, .pinned], laidTests := true, laidLooks := .later }
def PlanMakesUptoCardSaid : Prop := Claim7.holds Tryz.pinned (.plain (OpenSpec.upto planMakesSpec)) planMakesUptoCard

/-- THE SECOND FORM's CARD OF 'fastilaw21.PlanOnce'. -/
def planOnceUptoCard : Claim7 := { stood := { row := planOnceUptoRow, standIns := [], harness := (true, "aebe2295ba4c7ebb28cd2e8660bbdf8793b722673adf2fd070e444e71d0bc54f"), looks := true }, kinds := [], alts := [], laidByText := true, laidKinds := [.data, .data, .data, .data, .sentinel, .sentinel, .pinned], laidTests := true, laidLooks := .later }
def PlanOnceUptoCardSaid : Prop := Claim7.holds Tryz.pinned (.plain (OpenSpec.upto planOnceSpec)) planOnceUptoCard
end Rows
end Go.Proofs.YtcjcppnclfbjpaaGreatDoor
