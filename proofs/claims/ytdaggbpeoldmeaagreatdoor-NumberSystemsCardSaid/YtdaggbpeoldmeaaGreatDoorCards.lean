/-
  DERIVED. GIVEN WITH THE SEED: THE CARDS: each row of YtdaggbpeoldmeaaGreatDoorRows.lean that lists a variable, with what it lists TIED to the program's text (the seventh form; the later family's looks); each row that meets fmt, with fmt's text TOLD by the authors' own Lean function (tested against real Go, not proved from fmt's source: count such statements apart). THE CARD IS WHAT COUNTS. Prove the row's statement (the work); the ties are given (YtdaggbpeoldmeaaGreatDoorTie.lean); close each card by the builder's one call (the guide's Derived/Test/ToyasCard.lean, 'card_holds'). Laid BY PROGRAM, IN A SANDBOX (cutbox-door.mjs). By AI agents, Wed Nov 11 2026. No macro, syntax, notation, axiom, sorry.
-/
import Derived.Test.YtdaggbpeoldmeaaGreatDoorRows
import GoSem.ClaimSeven
namespace Go.Proofs.YtdaggbpeoldmeaaGreatDoor
namespace Rows

/-- THE TIED CARD OF 'cruxlaw01.NumberRoots'. -/
def numberRootsCard : Claim7 := { stood := { row := numberRootsRow, standIns := [], harness := (true, "2727c40674ff8a62efb0d2b5bf452a45832371f2c2921a4055da084f6edf6e2b"), looks := true }, kinds := [], alts := [], laidByText := true, laidKinds := [.data, .data, .data, .data, .sentinel, .sentinel, .pinned], laidTests := true, laidLooks := .later }
def NumberRootsCardSaid : Prop := Claim7.holds Tryz.pinned (.plain (OpenSpec.ofChange numberRootsSpec)) numberRootsCard

/-- THE TIED CARD OF 'cruxlaw01.NumberShares'. -/
def numberSharesCard : Claim7 := { stood := { row := numberSharesRow, standIns := [], harness := (true, "2727c40674ff8a62efb0d2b5bf452a45832371f2c2921a4055da084f6edf6e2b"), looks := true }, kinds := [], alts := [], laidByText := true, laidKinds := [.data, .data, .data, .data, .sentinel, .sentinel, .pinned], laidTests := true, laidLooks := .later }
def NumberSharesCardSaid : Prop := Claim7.holds Tryz.pinned (.plain (OpenSpec.ofChange numberSharesSpec)) numberSharesCard

/-- THE TIED CARD OF 'cruxlaw01.NumberSystems'. -/
def numberSystemsCard : Claim7 := { stood := { row := numberSystemsRow, standIns := [], harness := (true, "2727c40674ff8a62efb0d2b5bf452a45832371f2c2921a4055da084f6edf6e2b"), looks := true }, kinds := [], alts := [], laidByText := true, laidKinds := [.data, .data, .data, .data, .sentinel, .sentinel, .pinned], laidTests := true, laidLooks := .later }
def NumberSystemsCardSaid : Prop := Claim7.holds Tryz.pinned (.plain (OpenSpec.ofChange numberSystemsSpec)) numberSystemsCard

/-- THE TIED CARD OF 'cruxlaw01.NumberClocks'. -/
def numberClocksCard : Claim7 := { stood := { row := numberClocksRow, standIns := [], harness := (true, "2727c40674ff8a62efb0d2b5bf452a45832371f2c2921a4055da084f6edf6e2b"), looks := true }, kinds := [], alts := [], laidByText := true, laidKinds := [.data, .data, .data, .data, .sentinel, .sentinel, .pinned], laidTests := true, laidLooks := .later }
def NumberClocksCardSaid : Prop := Claim7.holds Tryz.pinned (.plain (OpenSpec.ofChange numberClocksSpec)) numberClocksCard

/-- THE TIED CARD OF 'cruxlaw01.NumberTickets'. -/
def numberTicketsCard : Claim7 := { stood := { row := numberTicketsRow, standIns := [], harness := (true, "2727c40674ff8a62efb0d2b5bf452a45832371f2c2921a4055da084f6edf6e2b"), looks := true }, kinds := [], alts := [], laidByText := true, laidKinds := [.data, .data, .data, .data, .sentinel, .sentinel, .pinned], laidTests := true, laidLooks := .later }
def NumberTicketsCardSaid : Prop := Claim7.holds Tryz.pinned (.plain (OpenSpec.ofChange numberTicketsSpec)) numberTicketsCard

/-- THE TIED CARD OF 'cruxlaw01.NumberDeals'. -/
def numberDealsCard : Claim7 := { stood := { row := numberDealsRow, standIns := [], harness := (true, "2727c40674ff8a62efb0d2b5bf452a45832371f2c2921a4055da084f6edf6e2b"), looks := true }, kinds := [], alts := [], laidByText := true, laidKinds := [.data, .data, .data, .data, .sentinel, .sentinel, .pinned], laidTests := true, laidLooks := .later }
def NumberDealsCardSaid : Prop := Claim7.holds Tryz.pinned (.plain (OpenSpec.ofChange numberDealsSpec)) numberDealsCard

/-- THE TIED CARD OF 'cruxlaw01.NumberReads'. -/
def numberReadsCard : Claim7 := { stood := { row := numberReadsRow, standIns := [], harness := (true, "2727c40674ff8a62efb0d2b5bf452a45832371f2c2921a4055da084f6edf6e2b"), looks := true }, kinds := [], alts := [], laidByText := true, laidKinds := [.data, .data, .data, .data, .sentinel, .sentinel, .pinned], laidTests := true, laidLooks := .later }
def NumberReadsCardSaid : Prop := Claim7.holds Tryz.pinned (.plain (OpenSpec.ofChange numberReadsSpec)) numberReadsCard

/-- THE TIED CARD OF 'cruxlaw01.NumberSpans'. -/
def numberSpansCard : Claim7 := { stood := { row := numberSpansRow, standIns := [], harness := (true, "2727c40674ff8a62efb0d2b5bf452a45832371f2c2921a4055da084f6edf6e2b"), looks := true }, kinds := [], alts := [], laidByText := true, laidKinds := [.data, .data, .data, .data, .sentinel, .sentinel, .pinned], laidTests := true, laidLooks := .later }
def NumberSpansCardSaid : Prop := Claim7.holds Tryz.pinned (.plain (OpenSpec.ofChange numberSpansSpec)) numberSpansCard

/-- THE TIED CARD OF 'cruxlaw01.NumberEncloses'. -/
def numberEnclosesCard : Claim7 := { stood := { row := numberEnclosesRow, standIns := [], harness := (true, "2727c40674ff8a62efb0d2b5bf452a45832371f2c2921a4055da084f6edf6e2b"), looks := true }, kinds := [], alts := [], laidByText := true, laidKinds := [.data, .data, .data, .data, .sentinel, .sentinel, .pinned], laidTests := true, laidLooks := .later }
def NumberEnclosesCardSaid : Prop := Claim7.holds Tryz.pinned (.plain (OpenSpec.ofChange numberEnclosesSpec)) numberEnclosesCard

/-- THE TIED CARD OF 'cruxlaw01.NumberTables'. -/
def numberTablesCard : Claim7 := { stood := { row := numberTablesRow, standIns := [], harness := (true, "2727c40674ff8a62efb0d2b5bf452a45832371f2c2921a4055da084f6edf6e2b"), looks := true }, kinds := [], alts := [], laidByText := true, laidKinds := [.data, .data, .data, .data, .sentinel, .sentinel, .pinned], laidTests := true, laidLooks := .later }
def NumberTablesCardSaid : Prop := Claim7.holds Tryz.pinned (.plain (OpenSpec.ofChange numberTablesSpec)) numberTablesCard

/-- THE TIED CARD OF 'cruxlaw01.NumberVectors'. -/
def numberVectorsCard : Claim7 := { stood := { row := numberVectorsRow, standIns := [], harness := (true, "2727c40674ff8a62efb0d2b5bf452a45832371f2c2921a4055da084f6edf6e2b"), looks := true }, kinds := [], alts := [], laidByText := true, laidKinds := [.data, .data, .data, .data, .sentinel, .sentinel, .pinned], laidTests := true, laidLooks := .later }
def NumberVectorsCardSaid : Prop := Claim7.holds Tryz.pinned (.plain (OpenSpec.ofChange numberVectorsSpec)) numberVectorsCard

/-- THE TIED CARD OF 'cruxlaw01.NumberAngles'. -/
def numberAnglesCard : Claim7 := { stood := { row := numberAnglesRow, standIns := [], harness := (true, "2727c40674ff8a62efb0d2b5bf452a45832371f2c2921a4055da084f6edf6e2b"), looks := true }, kinds := [], alts := [], laidByText := true, laidKinds := [.data, .data, .data, .data, .sentinel, .sentinel, .pinned], laidTests := true, laidLooks := .later }
def NumberAnglesCardSaid : Prop := Claim7.holds Tryz.pinned (.plain (OpenSpec.ofChange numberAnglesSpec)) numberAnglesCard

/-- THE TIED CARD OF 'cruxlaw01.NumberForms'. -/
def numberFormsCard : Claim7 := { stood := { row := numberFormsRow, standIns := [], harness := (true, "2727c40674ff8a62efb0d2b5bf452a45832371f2c2921a4055da084f6edf6e2b"), looks := true }, kinds := [], alts := [], laidByText := true, laidKinds := [.data, .data, .data, .data, .sentinel, .sentinel, .pinned], laidTests := true, laidLooks := .later }
def NumberFormsCardSaid : Prop := Claim7.holds Tryz.pinned (.plain (OpenSpec.ofChange numberFormsSpec)) numberFormsCard

/-- THE TIED CARD OF 'cruxlaw01.NumberSums'. -/
def numberSumsCard : Claim7 := { stood := { row := numberSumsRow, standIns := [], harness := (true, "2727c40674ff8a62efb0d2b5bf452a45832371f2c2921a4055da084f6edf6e2b"), looks := true }, kinds := [], alts := [], laidByText := true, laidKinds := [.data, .data, .data, .data, .sentinel, .sentinel, .pinned], laidTests := true, laidLooks := .later }
def NumberSumsCardSaid : Prop := Claim7.holds Tryz.pinned (.plain (OpenSpec.ofChange numberSumsSpec)) numberSumsCard

/-- THE SECOND FORM's CARD OF 'cruxlaw01.NumberRoots'. -/
def numberRootsUptoCard : Claim7 := { stood := { row := numberRootsUptoRow, standIns := [], harness := (true, "2727c40674ff8a62efb0d2b5bf452a45832371f2c2921a4055da084f6edf6e2b"), looks := true }, kinds := [], alts := [], laidByText := true, laidKinds := [.data, .data, .data, .data, .sentinel, .sentinel, .pinned], laidTests := true, laidLooks := .later }
def NumberRootsUptoCardSaid : Prop := Claim7.holds Tryz.pinned (.plain (OpenSpec.upto numberRootsSpec)) numberRootsUptoCard

/-- THE SECOND FORM's CARD OF 'cruxlaw01.NumberShares'. -/
def numberSharesUptoCard : Claim7 := { stood := { row := numberSharesUptoRow, standIns := [], harness := (true, "2727c40674ff8a62efb0d2b5bf452a45832371f2c2921a4055da084f6edf6e2b"), looks := true }, kinds := [], alts := [], laidByText := true, laidKinds := [.data, .data, .data, .data, .sentinel, .sentinel, .pinned], laidTests := true, laidLooks := .later }
def NumberSharesUptoCardSaid : Prop := Claim7.holds Tryz.pinned (.plain (OpenSpec.upto numberSharesSpec)) numberSharesUptoCard

/-- THE SECOND FORM's CARD OF 'cruxlaw01.NumberSystems'. -/
def numberSystemsUptoCard : Claim7 := { stood := { row := numberSystemsUptoRow, standIns := [], harness := (true, "2727c40674ff8a62efb0d2b5bf452a45832371f2c2921a4055da084f6edf6e2b"), looks := true }, kinds := [], alts := [], laidByText := true, laidKinds := [.data, .data, .data, .data, .sentinel, .sentinel, .pinned], laidTests := true, laidLooks := .later }
def NumberSystemsUptoCardSaid : Prop := Claim7.holds Tryz.pinned (.plain (OpenSpec.upto numberSystemsSpec)) numberSystemsUptoCard

/-- THE SECOND FORM's CARD OF 'cruxlaw01.NumberClocks'. -/
def numberClocksUptoCard : Claim7 := { stood := { row := numberClocksUptoRow, standIns := [], harness := (true, "2727c40674ff8a62efb0d2b5bf452a45832371f2c2921a4055da084f6edf6e2b"), looks := true }, kinds := [], alts := [], laidByText := true, laidKinds := [.data, .data, .data, .data, .sentinel, .sentinel, .pinned], laidTests := true, laidLooks := .later }
def NumberClocksUptoCardSaid : Prop := Claim7.holds Tryz.pinned (.plain (OpenSpec.upto numberClocksSpec)) numberClocksUptoCard

/-- THE SECOND FORM's CARD OF 'cruxlaw01.NumberTickets'. -/
def numberTicketsUptoCard : Claim7 := { stood := { row := numberTicketsUptoRow, standIns := [], harness := (true, "2727c40674ff8a62efb0d2b5bf452a45832371f2c2921a4055da084f6edf6e2b"), looks := true }, kinds := [], alts := [], laidByText := true, laidKinds := [.data, .data, .data, .data, .sentinel, .sentinel, .pinned], laidTests := true, laidLooks := .later }
def NumberTicketsUptoCardSaid : Prop := Claim7.holds Tryz.pinned (.plain (OpenSpec.upto numberTicketsSpec)) numberTicketsUptoCard

/-- THE SECOND FORM's CARD OF 'cruxlaw01.NumberDeals'. -/
def numberDealsUptoCard : Claim7 := { stood := { row := numberDealsUptoRow, standIns := [], harness := (true, "2727c40674ff8a62efb0d2b5bf452a45832371f2c2921a4055da084f6edf6e2b"), looks := true }, kinds := [], alts := [], laidByText := true, laidKinds := [.data, .data, .data, .data, .sentinel, .sentinel, .pinned], laidTests := true, laidLooks := .later }
def NumberDealsUptoCardSaid : Prop := Claim7.holds Tryz.pinned (.plain (OpenSpec.upto numberDealsSpec)) numberDealsUptoCard

/-- THE SECOND FORM's CARD OF 'cruxlaw01.NumberReads'. -/
def numberReadsUptoCard : Claim7 := { stood := { row := numberReadsUptoRow, standIns := [], harness := (true, "2727c40674ff8a62efb0d2b5bf452a45832371f2c2921a4055da084f6edf6e2b"), looks := true }, kinds := [], alts := [], laidByText := true, laidKinds := [.data, .data, .data, .data, .sentinel, .sentinel, .pinned], laidTests := true, laidLooks := .later }
def NumberReadsUptoCardSaid : Prop := Claim7.holds Tryz.pinned (.plain (OpenSpec.upto numberReadsSpec)) numberReadsUptoCard

/-- THE SECOND FORM's CARD OF 'cruxlaw01.NumberSpans'. -/
def numberSpansUptoCard : Claim7 := { stood := { row := numberSpansUptoRow, standIns := [], harness := (true, "2727c40674ff8a62efb0d2b5bf452a45832371f2c2921a4055da084f6edf6e2b"), looks := true }, kinds := [], alts := [], laidByText := true, laidKinds := [.data, .data, .data, .data, .sentinel, .sentinel, .pinned], laidTests := true, laidLooks := .later }
def NumberSpansUptoCardSaid : Prop := Claim7.holds Tryz.pinned (.plain (OpenSpec.upto numberSpansSpec)) numberSpansUptoCard

/-- THE SECOND FORM's CARD OF 'cruxlaw01.NumberEncloses'. -/
def numberEnclosesUptoCard : Claim7 := { stood := { row := numberEnclosesUptoRow, standIns := [], harness := (true, "2727c40674ff8a62efb0d2b5bf452a45832371f2c2921a4055da084f6edf6e2b"), looks := true }, kinds := [], alts := [], laidByText := true, laidKinds := [.data, .data, .data, .data, .sentinel, .sentinel, .pinned], laidTests := true, laidLooks := .later }
def NumberEnclosesUptoCardSaid : Prop := Claim7.holds Tryz.pinned (.plain (OpenSpec.upto numberEnclosesSpec)) numberEnclosesUptoCard

/-- THE SECOND FORM's CARD OF 'cruxlaw01.NumberTables'. -/
def numberTablesUptoCard : Claim7 := { stood := { row := numberTablesUptoRow, standIns := [], harness := (true, "2727c40674ff8a62efb0d2b5bf452a45832371f2c2921a4055da084f6edf6e2b"), looks := true }, kinds := [], alts := [], laidByText := true, laidKinds := [.data, .data, .data, .data, .sentinel, .sentinel, .pinned], laidTests := true, laidLooks := .later }
def NumberTablesUptoCardSaid : Prop := Claim7.holds Tryz.pinned (.plain (OpenSpec.upto numberTablesSpec)) numberTablesUptoCard

/-- THE SECOND FORM's CARD OF 'cruxlaw01.NumberVectors'. -/
def numberVectorsUptoCard : Claim7 := { stood := { row := numberVectorsUptoRow, standIns := [], harness := (true, "2727c40674ff8a62efb0d2b5bf452a45832371f2c2921a4055da084f6edf6e2b"), looks := true }, kinds := [], alts := [], laidByText := true, laidKinds := [.data, .data, .data, .data, .sentinel, .sentinel, .pinned], laidTests := true, laidLooks := .later }
def NumberVectorsUptoCardSaid : Prop := Claim7.holds Tryz.pinned (.plain (OpenSpec.upto numberVectorsSpec)) numberVectorsUptoCard

/-- THE SECOND FORM's CARD OF 'cruxlaw01.NumberAngles'. -/
def numberAnglesUptoCard : Claim7 := { stood := { row := numberAnglesUptoRow, standIns := [], harness := (true, "2727c40674ff8a62efb0d2b5bf452a45832371f2c2921a4055da084f6edf6e2b"), looks := true }, kinds := [], alts := [], laidByText := true, laidKinds := [.data, .data, .data, .data, .sentinel, .sentinel, .pinned], laidTests := true, laidLooks := .later }
def NumberAnglesUptoCardSaid : Prop := Claim7.holds Tryz.pinned (.plain (OpenSpec.upto numberAnglesSpec)) numberAnglesUptoCard

/-- THE SECOND FORM's CARD OF 'cruxlaw01.NumberForms'. -/
def numberFormsUptoCard : Claim7 := { stood := { row := numberFormsUptoRow, standIns := [], harness := (true, "2727c40674ff8a62efb0d2b5bf452a45832371f2c2921a4055da084f6edf6e2b"), looks := true }, kinds := [], alts := [], laidByText := true, laidKinds := [.data, .data, .data, .data, .sentinel, .sentinel, .pinned], laidTests := true, laidLooks := .later }
def NumberFormsUptoCardSaid : Prop := Claim7.holds Tryz.pinned (.plain (OpenSpec.upto numberFormsSpec)) numberFormsUptoCard

/-- THE SECOND FORM's CARD OF 'cruxlaw01.NumberSums'. -/
def numberSumsUptoCard : Claim7 := { stood := { row := numberSumsUptoRow, standIns := [], harness := (true, "2727c40674ff8a62efb0d2b5bf452a45832371f2c2921a4055da084f6edf6e2b"), looks := true }, kinds := [], alts := [], laidByText := true, laidKinds := [.data, .data, .data, .data, .sentinel, .sentinel, .pinned], laidTests := true, laidLooks := .later }
def NumberSumsUptoCardSaid : Prop := Claim7.holds Tryz.pinned (.plain (OpenSpec.upto numberSumsSpec)) numberSumsUptoCard
end Rows
end Go.Proofs.YtdaggbpeoldmeaaGreatDoor
