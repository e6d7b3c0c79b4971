/-
  DERIVED. GIVEN WITH THE SEED: THE CARDS: each row of YtolcecpmiepggaaDoorRows.lean that lists a variable, with what it lists TIED to the program's text (the seventh form; the later family's looks); each row that meets fmt, with fmt's text TOLD by the authors' own Lean function (tested against real Go, not proved from fmt's source: count such statements apart). THE CARD IS WHAT COUNTS. Prove the row's statement (the work); the ties are given (YtolcecpmiepggaaDoorTie.lean); close each card by the builder's one call (the guide's Derived/Test/ToyasCard.lean, 'card_holds'). Laid BY PROGRAM, IN A SANDBOX (cutbox-door.mjs). By AI agents, Wed Nov 11 2026. No macro, syntax, notation, axiom, sorry.
-/
import Derived.Test.YtolcecpmiepggaaDoorRows
import GoSem.ClaimSeven
namespace Go.Proofs.YtolcecpmiepggaaDoor
namespace Rows

/-- THE TIED CARD OF 'posthouselaw03.FhParses'. -/
def fhParsesCard : Claim7 := { stood := { row := fhParsesRow, standIns := [], harness := (true, "d3d52d904efe1d9bb9422b92425d8ee1b7d6eb610c23a5f470d24a9286769d06"), looks := true }, kinds := [], alts := [], laidByText := true, laidKinds := [.data, .data, .data, .data], laidTests := true, laidLooks := .later }
def FhParsesCardSaid : Prop := Claim7.holds Tryd.pinned (.plain (OpenSpec.ofChange fhParsesSpec)) fhParsesCard

/-- THE TIED CARD OF 'posthouselaw03.FhApart'. -/
def fhApartCard : Claim7 := { stood := { row := fhApartRow, standIns := [], harness := (true, "d3d52d904efe1d9bb9422b92425d8ee1b7d6eb610c23a5f470d24a9286769d06"), looks := true }, kinds := [], alts := [], laidByText := true, laidKinds := [.data, .data, .data, .data], laidTests := true, laidLooks := .later }
def FhApartCardSaid : Prop := Claim7.holds Tryd.pinned (.plain (OpenSpec.ofChange fhApartSpec)) fhApartCard

/-- THE TIED CARD OF 'posthouselaw03.FhNodes'. -/
def fhNodesCard : Claim7 := { stood := { row := fhNodesRow, standIns := [], harness := (true, "d3d52d904efe1d9bb9422b92425d8ee1b7d6eb610c23a5f470d24a9286769d06"), looks := true }, kinds := [], alts := [], laidByText := true, laidKinds := [.data, .data, .data, .data], laidTests := true, laidLooks := .later }
def FhNodesCardSaid : Prop := Claim7.holds Tryd.pinned (.plain (OpenSpec.ofChange fhNodesSpec)) fhNodesCard

/-- THE TIED CARD OF 'posthouselaw01.XdrSame'. -/
def xdrSameCard : Claim7 := { stood := { row := xdrSameRow, standIns := [], harness := (true, "d3d52d904efe1d9bb9422b92425d8ee1b7d6eb610c23a5f470d24a9286769d06"), looks := true }, kinds := [], alts := [], laidByText := true, laidKinds := [.data, .pinned], laidTests := true, laidLooks := .later }
def XdrSameCardSaid : Prop := Claim7.holds Tryd.pinned (.plain (OpenSpec.ofChange xdrSameSpec)) xdrSameCard

/-- THE TIED CARD OF 'posthouselaw01.XdrBack'. -/
def xdrBackCard : Claim7 := { stood := { row := xdrBackRow, standIns := [], harness := (true, "d3d52d904efe1d9bb9422b92425d8ee1b7d6eb610c23a5f470d24a9286769d06"), looks := true }, kinds := [], alts := [], laidByText := true, laidKinds := [.data, .pinned], laidTests := true, laidLooks := .later }
def XdrBackCardSaid : Prop := Claim7.holds Tryd.pinned (.plain (OpenSpec.ofChange xdrBackSpec)) xdrBackCard

/-- THE TIED CARD OF 'posthouselaw01.XdrReads'. -/
def xdrReadsCard : Claim7 := { stood := { row := xdrReadsRow, standIns := [], harness := (true, "d3d52d904efe1d9bb9422b92425d8ee1b7d6eb610c23a5f470d24a9286769d06"), looks := true }, kinds := [], alts := [], laidByText := true, laidKinds := [.data, .pinned], laidTests := true, laidLooks := .later }
def XdrReadsCardSaid : Prop := Claim7.holds Tryd.pinned (.plain (OpenSpec.ofChange xdrReadsSpec)) xdrReadsCard

/-- THE TIED CARD OF 'posthouselaw01.XdrNil'. -/
def xdrNilCard : Claim7 := { stood := { row := xdrNilRow, standIns := [], harness := (true, "d3d52d904efe1d9bb9422b92425d8ee1b7d6eb610c23a5f470d24a9286769d06"), looks := true }, kinds := [], alts := [], laidByText := true, laidKinds := [.data, .pinned], laidTests := true, laidLooks := .later }
def XdrNilCardSaid : Prop := Claim7.holds Tryd.pinned (.plain (OpenSpec.ofChange xdrNilSpec)) xdrNilCard

/-- THE TIED CARD OF 'posthouselaw03.FhMakes'. -/
def fhMakesCard : Claim7 := { stood := { row := fhMakesRow, standIns := [], harness := (true, "d3d52d904efe1d9bb9422b92425d8ee1b7d6eb610c23a5f470d24a9286769d06"), looks := true }, kinds := [], alts := [], laidByText := true, laidKinds := [.data, .data, .data, .data], laidTests := true, laidLooks := .later }
def FhMakesCardSaid : Prop := Claim7.holds Tryd.pinned (.plain (OpenSpec.ofChange fhMakesSpec)) fhMakesCard

/-- THE TIED CARD OF 'posthouselaw03.FhReads'. -/
def fhReadsCard : Claim7 := { stood := { row := fhReadsRow, standIns := [], harness := (true, "d3d52d904efe1d9bb9422b92425d8ee1b7d6eb610c23a5f470d24a9286769d06"), looks := true }, kinds := [], alts := [], laidByText := true, laidKinds := [.data, .data, .data, .data], laidTests := true, laidLooks := .later }
def FhReadsCardSaid : Prop := Claim7.holds Tryd.pinned (.plain (OpenSpec.ofChange fhReadsSpec)) fhReadsCard

/-- THE TIED CARD OF 'posthouselaw09.RpcPuts'. -/
def rpcPutsCard : Claim7 := { stood := { row := rpcPutsRow, standIns := [], harness := (true, "d3d52d904efe1d9bb9422b92425d8ee1b7d6eb610c23a5f470d24a9286769d06"), looks := true }, kinds := [], alts := [], laidByText := true, laidKinds := [.data, .pinned], laidTests := true, laidLooks := .later }
def RpcPutsCardSaid : Prop := Claim7.holds Tryd.pinned (.plain (OpenSpec.ofChange rpcPutsSpec)) rpcPutsCard

/-- THE TIED CARD OF 'posthouselaw09.RpcGets'. -/
def rpcGetsCard : Claim7 := { stood := { row := rpcGetsRow, standIns := [], harness := (true, "d3d52d904efe1d9bb9422b92425d8ee1b7d6eb610c23a5f470d24a9286769d06"), looks := true }, kinds := [], alts := [], laidByText := true, laidKinds := [.data, .pinned], laidTests := true, laidLooks := .later }
def RpcGetsCardSaid : Prop := Claim7.holds Tryd.pinned (.plain (OpenSpec.ofChange rpcGetsSpec)) rpcGetsCard

/-- THE TIED CARD OF 'posthouselaw09.RpcCut'. -/
def rpcCutCard : Claim7 := { stood := { row := rpcCutRow, standIns := [], harness := (true, "d3d52d904efe1d9bb9422b92425d8ee1b7d6eb610c23a5f470d24a9286769d06"), looks := true }, kinds := [], alts := [], laidByText := true, laidKinds := [.data, .pinned], laidTests := true, laidLooks := .later }
def RpcCutCardSaid : Prop := Claim7.holds Tryd.pinned (.plain (OpenSpec.ofChange rpcCutSpec)) rpcCutCard

/-- THE SECOND FORM's CARD OF 'posthouselaw03.FhParses'. -/
def fhParsesUptoCard : Claim7 := { stood := { row := fhParsesUptoRow, standIns := [], harness := (true, "d3d52d904efe1d9bb9422b92425d8ee1b7d6eb610c23a5f470d24a9286769d06"), looks := true }, kinds := [], alts := [], laidByText := true, laidKinds := [.data, .data, .data, .data], laidTests := true, laidLooks := .later }
def FhParsesUptoCardSaid : Prop := Claim7.holds Tryd.pinned (.plain (OpenSpec.upto fhParsesSpec)) fhParsesUptoCard

/-- THE SECOND FORM's CARD OF 'posthouselaw03.FhApart'. -/
def fhApartUptoCard : Claim7 := { stood := { row := fhApartUptoRow, standIns := [], harness := (true, "d3d52d904efe1d9bb9422b92425d8ee1b7d6eb610c23a5f470d24a9286769d06"), looks := true }, kinds := [], alts := [], laidByText := true, laidKinds := [.data, .data, .data, .data], laidTests := true, laidLooks := .later }
def FhApartUptoCardSaid : Prop := Claim7.holds Tryd.pinned (.plain (OpenSpec.upto fhApartSpec)) fhApartUptoCard

/-- THE SECOND FORM's CARD OF 'posthouselaw03.FhNodes'. -/
def fhNodesUptoCard : Claim7 := { stood := { row := fhNodesUptoRow, standIns := [], harness := (true, "d3d52d904efe1d9bb9422b92425d8ee1b7d6eb610c23a5f470d24a9286769d06"), looks := true }, kinds := [], alts := [], laidByText := true, laidKinds := [.data, .data, .data, .data], laidTests := true, laidLooks := .later }
def FhNodesUptoCardSaid : Prop := Claim7.holds Tryd.pinned (.plain (OpenSpec.upto fhNodesSpec)) fhNodesUptoCard

/-- THE SECOND FORM's CARD OF 'posthouselaw01.XdrSame'. -/
def xdrSameUptoCard : Claim7 := { stood := { row := xdrSameUptoRow, standIns := [], harness := (true, "d3d52d904efe1d9bb9422b92425d8ee1b7d6eb610c23a5f470d24a9286769d06"), looks := true }, kinds := [], alts := [], laidByText := true, laidKinds := [.data, .pinned], laidTests := true, laidLooks := .later }
def XdrSameUptoCardSaid : Prop := Claim7.holds Tryd.pinned (.plain (OpenSpec.upto xdrSameSpec)) xdrSameUptoCard

/-- THE SECOND FORM's CARD OF 'posthouselaw01.XdrBack'. -/
def xdrBackUptoCard : Claim7 := { stood := { row := xdrBackUptoRow, standIns := [], harness := (true, "d3d52d904efe1d9bb9422b92425d8ee1b7d6eb610c23a5f470d24a9286769d06"), looks := true }, kinds := [], alts := [], laidByText := true, laidKinds := [.data, .pinned], laidTests := true, laidLooks := .later }
def XdrBackUptoCardSaid : Prop := Claim7.holds Tryd.pinned (.plain (OpenSpec.upto xdrBackSpec)) xdrBackUptoCard

/-- THE SECOND FORM's CARD OF 'posthouselaw01.XdrReads'. -/
def xdrReadsUptoCard : Claim7 := { stood := { row := xdrReadsUptoRow, standIns := [], harness := (true, "d3d52d904efe1d9bb9422b92425d8ee1b7d6eb610c23a5f470d24a9286769d06"), looks := true }, kinds := [], alts := [], laidByText := true, laidKinds := [.data, .pinned], laidTests := true, laidLooks := .later }
def XdrReadsUptoCardSaid : Prop := Claim7.holds Tryd.pinned (.plain (OpenSpec.upto xdrReadsSpec)) xdrReadsUptoCard

/-- THE SECOND FORM's CARD OF 'posthouselaw01.XdrNil'. -/
def xdrNilUptoCard : Claim7 := { stood := { row := xdrNilUptoRow, standIns := [], harness := (true, "d3d52d904efe1d9bb9422b92425d8ee1b7d6eb610c23a5f470d24a9286769d06"), looks := true }, kinds := [], alts := [], laidByText := true, laidKinds := [.data, .pinned], laidTests := true, laidLooks := .later }
def XdrNilUptoCardSaid : Prop := Claim7.holds Tryd.pinned (.plain (OpenSpec.upto xdrNilSpec)) xdrNilUptoCard

/-- THE SECOND FORM's CARD OF 'posthouselaw03.FhMakes'. -/
def fhMakesUptoCard : Claim7 := { stood := { row := fhMakesUptoRow, standIns := [], harness := (true, "d3d52d904efe1d9bb9422b92425d8ee1b7d6eb610c23a5f470d24a9286769d06"), looks := true }, kinds := [], alts := [], laidByText := true, laidKinds := [.data, .data, .data, .data], laidTests := true, laidLooks := .later }
def FhMakesUptoCardSaid : Prop := Claim7.holds Tryd.pinned (.plain (OpenSpec.upto fhMakesSpec)) fhMakesUptoCard

/-- THE SECOND FORM's CARD OF 'posthouselaw03.FhReads'. -/
def fhReadsUptoCard : Claim7 := { stood := { row := fhReadsUptoRow, standIns := [], harness := (true, "d3d52d904efe1d9bb9422b92425d8ee1b7d6eb610c23a5f470d24a9286769d06"), looks := true }, kinds := [], alts := [], laidByText := true, laidKinds := [.data, .data, .data, .data], laidTests := true, laidLooks := .later }
def FhReadsUptoCardSaid : Prop := Claim7.holds Tryd.pinned (.plain (OpenSpec.upto fhReadsSpec)) fhReadsUptoCard

/-- THE SECOND FORM's CARD OF 'posthouselaw09.RpcPuts'. -/
def rpcPutsUptoCard : Claim7 := { stood := { row := rpcPutsUptoRow, standIns := [], harness := (true, "d3d52d904efe1d9bb9422b92425d8ee1b7d6eb610c23a5f470d24a9286769d06"), looks := true }, kinds := [], alts := [], laidByText := true, laidKinds := [.data, .pinned], laidTests := true, laidLooks := .later }
def RpcPutsUptoCardSaid : Prop := Claim7.holds Tryd.pinned (.plain (OpenSpec.upto rpcPutsSpec)) rpcPutsUptoCard

/-- THE SECOND FORM's CARD OF 'posthouselaw09.RpcGets'. -/
def rpcGetsUptoCard : Claim7 := { stood := { row := rpcGetsUptoRow, standIns := [], harness := (true, "d3d52d904efe1d9bb9422b92425d8ee1b7d6eb610c23a5f470d24a9286769d06"), looks := true }, kinds := [], alts := [], laidByText := true, laidKinds := [.data, .pinned], laidTests := true, laidLooks := .later }
def RpcGetsUptoCardSaid : Prop := Claim7.holds Tryd.pinned (.plain (OpenSpec.upto rpcGetsSpec)) rpcGetsUptoCard

/-- THE SECOND FORM's CARD OF 'posthouselaw09.RpcCut'. -/
def rpcCutUptoCard : Claim7 := { stood := { row := rpcCutUptoRow, standIns := [], harness := (true, "d3d52d904efe1d9bb9422b92425d8ee1b7d6eb610c23a5f470d24a9286769d06"), looks := true }, kinds := [], alts := [], laidByText := true, laidKinds := [.data, .pinned], laidTests := true, laidLooks := .later }
def RpcCutUptoCardSaid : Prop := Claim7.holds Tryd.pinned (.plain (OpenSpec.upto rpcCutSpec)) rpcCutUptoCard
end Rows
end Go.Proofs.YtolcecpmiepggaaDoor
