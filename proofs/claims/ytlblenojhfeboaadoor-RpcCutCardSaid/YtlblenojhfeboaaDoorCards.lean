/-
  DERIVED. GIVEN WITH THE SEED: THE CARDS: each row of YtlblenojhfeboaaDoorRows.lean that lists a variable, with what it lists TIED to the program's text (the seventh form; the later family's looks); each row that meets fmt, with fmt's text TOLD by the authors' own Lean function (tested against real Go, not proved from fmt's source: count such statements apart). THE CARD IS WHAT COUNTS. Prove the row's statement (the work); the ties are given (YtlblenojhfeboaaDoorTie.lean); close each card by the builder's one call (the guide's Derived/Test/ToyasCard.lean, 'card_holds'). Laid BY PROGRAM, IN A SANDBOX (cutbox-door.mjs). By AI agents, Wed Nov 11 2026. No macro, syntax, notation, axiom, sorry.
-/
import Derived.Test.YtlblenojhfeboaaDoorRows
import GoSem.ClaimSeven
namespace Go.Proofs.YtlblenojhfeboaaDoor
namespace Rows

/-- THE TIED CARD OF 'posthouselaw03.FhParses'. -/
def fhParsesCard : Claim7 := { stood := { row := fhParsesRow, standIns := [], harness := (true, "fc8b623777c1cab4b6384b1653cce8e554bec78a192ef5dc9aa5884a7d7217f3"), looks := true }, kinds := [], alts := [], laidByText := true, laidKinds := [.data, .data, .data, .data], laidTests := true, laidLooks := .later }
def FhParsesCardSaid : Prop := Claim7.holds Tryd.pinned (.plain (OpenSpec.ofChange fhParsesSpec)) fhParsesCard

/-- THE TIED CARD OF 'posthouselaw03.FhApart'. -/
def fhApartCard : Claim7 := { stood := { row := fhApartRow, standIns := [], harness := (true, "fc8b623777c1cab4b6384b1653cce8e554bec78a192ef5dc9aa5884a7d7217f3"), looks := true }, kinds := [], alts := [], laidByText := true, laidKinds := [.data, .data, .data, .data], laidTests := true, laidLooks := .later }
def FhApartCardSaid : Prop := Claim7.holds Tryd.pinned (.plain (OpenSpec.ofChange fhApartSpec)) fhApartCard

/-- THE TIED CARD OF 'posthouselaw03.FhNodes'. -/
def fhNodesCard : Claim7 := { stood := { row := fhNodesRow, standIns := [], harness := (true, "fc8b623777c1cab4b6384b1653cce8e554bec78a192ef5dc9aa5884a7d7217f3"), looks := true }, kinds := [], alts := [], laidByText := true, laidKinds := [.data, .data, .data, .data], laidTests := true, laidLooks := .later }
def FhNodesCardSaid : Prop := Claim7.holds Tryd.pinned (.plain (OpenSpec.ofChange fhNodesSpec)) fhNodesCard

/-- THE TIED CARD OF 'posthouselaw03.FhMakes'. -/
def fhMakesCard : Claim7 := { stood := { row := fhMakesRow, standIns := [], harness := (true, "fc8b623777c1cab4b6384b1653cce8e554bec78a192ef5dc9aa5884a7d7217f3"), looks := true }, kinds := [], alts := [], laidByText := true, laidKinds := [.data, .data, .data, .data], laidTests := true, laidLooks := .later }
def FhMakesCardSaid : Prop := Claim7.holds Tryd.pinned (.plain (OpenSpec.ofChange fhMakesSpec)) fhMakesCard

/-- THE TIED CARD OF 'posthouselaw03.FhReads'. -/
def fhReadsCard : Claim7 := { stood := { row := fhReadsRow, standIns := [], harness := (true, "fc8b623777c1cab4b6384b1653cce8e554bec78a192ef5dc9aa5884a7d7217f3"), looks := true }, kinds := [], alts := [], laidByText := true, laidKinds := [.data, .data, .data, .data], laidTests := true, laidLooks := .later }
def FhReadsCardSaid : Prop := Claim7.holds Tryd.pinned (.plain (OpenSpec.ofChange fhReadsSpec)) fhReadsCard

/-- THE TIED CARD OF 'posthouselaw09.RpcPuts'. -/
def rpcPutsCard : Claim7 := { stood := { row := rpcPutsRow, standIns := [], harness := (true, "fc8b623777c1cab4b6384b1653cce8e554bec78a192ef5dc9aa5884a7d7217f3"), looks := true }, kinds := [], alts := [], laidByText := true, laidKinds := [.data, .pinned], laidTests := true, laidLooks := .later }
def RpcPutsCardSaid : Prop := Claim7.holds Tryd.pinned (.plain (OpenSpec.ofChange rpcPutsSpec)) rpcPutsCard

/-- THE TIED CARD OF 'posthouselaw09.RpcGets'. -/
def rpcGetsCard : Claim7 := { stood := { row := rpcGetsRow, standIns := [], harness := (true, "fc8b623777c1cab4b6384b1653cce8e554bec78a192ef5dc9aa5884a7d7217f3"), looks := true }, kinds := [], alts := [], laidByText := true, laidKinds := [.data, .pinned], laidTests := true, laidLooks := .later }
def RpcGetsCardSaid : Prop := Claim7.holds Tryd.pinned (.plain (OpenSpec.ofChange rpcGetsSpec)) rpcGetsCard

/-- THE TIED CARD OF 'posthouselaw09.RpcCut'. -/
def rpcCutCard : Claim7 := { stood := { row := rpcCutRow, standIns := [], harness := (true, "fc8b623777c1cab4b6384b1653cce8e554bec78a192ef5dc9aa5884a7d7217f3"), looks := true }, kinds := [], alts := [], laidByText := true, laidKinds := [.data, .pinned], laidTests := true, laidLooks := .later }
def RpcCutCardSaid : Prop := Claim7.holds Tryd.pinned (.plain (OpenSpec.ofChange rpcCutSpec)) rpcCutCard

/-- THE SECOND FORM's CARD OF 'posthouselaw03.FhParses'. -/
def fhParsesUptoCard : Claim7 := { stood := { row := fhParsesUptoRow, standIns := [], harness := (true, "fc8b623777c1cab4b6384b1653cce8e554bec78a192ef5dc9aa5884a7d7217f3"), looks := true }, kinds := [], alts := [], laidByText := true, laidKinds := [.data, .data, .data, .data], laidTests := true, laidLooks := .later }
def FhParsesUptoCardSaid : Prop := Claim7.holds Tryd.pinned (.plain (OpenSpec.upto fhParsesSpec)) fhParsesUptoCard

/-- THE SECOND FORM's CARD OF 'posthouselaw03.FhApart'. -/
def fhApartUptoCard : Claim7 := { stood := { row := fhApartUptoRow, standIns := [], harness := (true, "fc8b623777c1cab4b6384b1653cce8e554bec78a192ef5dc9aa5884a7d7217f3"), looks := true }, kinds := [], alts := [], laidByText := true, laidKinds := [.data, .data, .data, .data], laidTests := true, laidLooks := .later }
def FhApartUptoCardSaid : Prop := Claim7.holds Tryd.pinned (.plain (OpenSpec.upto fhApartSpec)) fhApartUptoCard

/-- THE SECOND FORM's CARD OF 'posthouselaw03.FhNodes'. -/
def fhNodesUptoCard : Claim7 := { stood := { row := fhNodesUptoRow, standIns := [], harness := (true, "fc8b623777c1cab4b6384b1653cce8e554bec78a192ef5dc9aa5884a7d7217f3"), looks := true }, kinds := [], alts := [], laidByText := true, laidKinds := [.data, .data, .data, .data], laidTests := true, laidLooks := .later }
def FhNodesUptoCardSaid : Prop := Claim7.holds Tryd.pinned (.plain (OpenSpec.upto fhNodesSpec)) fhNodesUptoCard

/-- THE SECOND FORM's CARD OF 'posthouselaw03.FhMakes'. -/
def fhMakesUptoCard : Claim7 := { stood := { row := fhMakesUptoRow, standIns := [], harness := (true, "fc8b623777c1cab4b6384b1653cce8e554bec78a192ef5dc9aa5884a7d7217f3"), looks := true }, kinds := [], alts := [], laidByText := true, laidKinds := [.data, .data, .data, .data], laidTests := true, laidLooks := .later }
def FhMakesUptoCardSaid : Prop := Claim7.holds Tryd.pinned (.plain (OpenSpec.upto fhMakesSpec)) fhMakesUptoCard

/-- THE SECOND FORM's CARD OF 'posthouselaw03.FhReads'. -/
def fhReadsUptoCard : Claim7 := { stood := { row := fhReadsUptoRow, standIns := [], harness := (true, "fc8b623777c1cab4b6384b1653cce8e554bec78a192ef5dc9aa5884a7d7217f3"), looks := true }, kinds := [], alts := [], laidByText := true, laidKinds := [.data, .data, .data, .data], laidTests := true, laidLooks := .later }
def FhReadsUptoCardSaid : Prop := Claim7.holds Tryd.pinned (.plain (OpenSpec.upto fhReadsSpec)) fhReadsUptoCard

/-- THE SECOND FORM's CARD OF 'posthouselaw09.RpcPuts'. -/
def rpcPutsUptoCard : Claim7 := { stood := { row := rpcPutsUptoRow, standIns := [], harness := (true, "fc8b623777c1cab4b6384b1653cce8e554bec78a192ef5dc9aa5884a7d7217f3"), looks := true }, kinds := [], alts := [], laidByText := true, laidKinds := [.data, .pinned], laidTests := true, laidLooks := .later }
def RpcPutsUptoCardSaid : Prop := Claim7.holds Tryd.pinned (.plain (OpenSpec.upto rpcPutsSpec)) rpcPutsUptoCard

/-- THE SECOND FORM's CARD OF 'posthouselaw09.RpcGets'. -/
def rpcGetsUptoCard : Claim7 := { stood := { row := rpcGetsUptoRow, standIns := [], harness := (true, "fc8b623777c1cab4b6384b1653cce8e554bec78a192ef5dc9aa5884a7d7217f3"), looks := true }, kinds := [], alts := [], laidByText := true, laidKinds := [.data, .pinned], laidTests := true, laidLooks := .later }
def RpcGetsUptoCardSaid : Prop := Claim7.holds Tryd.pinned (.plain (OpenSpec.upto rpcGetsSpec)) rpcGetsUptoCard

/-- THE SECOND FORM's CARD OF 'posthouselaw09.RpcCut'. -/
def rpcCutUptoCard : Claim7 := { stood := { row := rpcCutUptoRow, standIns := [], harness := (true, "fc8b623777c1cab4b6384b1653cce8e554bec78a192ef5dc9aa5884a7d7217f3"), looks := true }, kinds := [], alts := [], laidByText := true, laidKinds := [.data, .pinned], laidTests := true, laidLooks := .later }
def RpcCutUptoCardSaid : Prop := Claim7.holds Tryd.pinned (.plain (OpenSpec.upto rpcCutSpec)) rpcCutUptoCard
end Rows
end Go.Proofs.YtlblenojhfeboaaDoor
