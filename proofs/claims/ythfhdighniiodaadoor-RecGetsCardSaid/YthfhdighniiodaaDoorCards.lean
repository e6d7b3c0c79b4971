/-
  DERIVED. GIVEN WITH THE SEED: THE CARDS: each row of YthfhdighniiodaaDoorRows.lean that lists a variable, with what it lists TIED to the program's text (the seventh form; the later family's looks); each row that meets fmt, with fmt's text TOLD by the authors' own Lean function (tested against real Go, not proved from fmt's source: count such statements apart). THE CARD IS WHAT COUNTS. Prove the row's statement (the work); the ties are given (YthfhdighniiodaaDoorTie.lean); close each card by the builder's one call (the guide's Derived/Test/ToyasCard.lean, 'card_holds'). Laid BY PROGRAM, IN A SANDBOX (cutbox-door.mjs). By AI agents, Wed Nov 11 2026. No macro, syntax, notation, axiom, sorry.
-/
import Derived.Test.YthfhdighniiodaaDoorRows
import GoSem.ClaimSeven
namespace Go.Proofs.YthfhdighniiodaaDoor
namespace Rows

/-- THE TIED CARD OF 'posthouselaw09.RpcPuts'. -/
def rpcPutsCard : Claim7 := { stood := { row := rpcPutsRow, standIns := [], harness := (true, "bcde7643a1466f390899ca72850551e663bff9462272335793453d7177a52199"), looks := true }, kinds := [], alts := [], laidByText := true, laidKinds := [.data, .pinned], laidTests := true, laidLooks := .later }
def RpcPutsCardSaid : Prop := Claim7.holds Tryd.pinned (.plain (OpenSpec.ofChange rpcPutsSpec)) rpcPutsCard

/-- THE TIED CARD OF 'posthouselaw09.RpcGets'. -/
def rpcGetsCard : Claim7 := { stood := { row := rpcGetsRow, standIns := [], harness := (true, "bcde7643a1466f390899ca72850551e663bff9462272335793453d7177a52199"), looks := true }, kinds := [], alts := [], laidByText := true, laidKinds := [.data, .pinned], laidTests := true, laidLooks := .later }
def RpcGetsCardSaid : Prop := Claim7.holds Tryd.pinned (.plain (OpenSpec.ofChange rpcGetsSpec)) rpcGetsCard

/-- THE TIED CARD OF 'posthouselaw09.RpcCut'. -/
def rpcCutCard : Claim7 := { stood := { row := rpcCutRow, standIns := [], harness := (true, "bcde7643a1466f390899ca72850551e663bff9462272335793453d7177a52199"), looks := true }, kinds := [], alts := [], laidByText := true, laidKinds := [.data, .pinned], laidTests := true, laidLooks := .later }
def RpcCutCardSaid : Prop := Claim7.holds Tryd.pinned (.plain (OpenSpec.ofChange rpcCutSpec)) rpcCutCard

/-- THE TIED CARD OF 'posthouselaw17.RecPuts'. -/
def recPutsCard : Claim7 := { stood := { row := recPutsRow, standIns := [], harness := (true, "bcde7643a1466f390899ca72850551e663bff9462272335793453d7177a52199"), looks := true }, kinds := [], alts := [], laidByText := true, laidKinds := [.data, .pinned], laidTests := true, laidLooks := .later }
def RecPutsCardSaid : Prop := Claim7.holds Tryd.pinned (.plain (OpenSpec.ofChange recPutsSpec)) recPutsCard

/-- THE TIED CARD OF 'posthouselaw17.RecGets'. -/
def recGetsCard : Claim7 := { stood := { row := recGetsRow, standIns := [], harness := (true, "bcde7643a1466f390899ca72850551e663bff9462272335793453d7177a52199"), looks := true }, kinds := [], alts := [], laidByText := true, laidKinds := [.data, .pinned], laidTests := true, laidLooks := .later }
def RecGetsCardSaid : Prop := Claim7.holds Tryd.pinned (.plain (OpenSpec.ofChange recGetsSpec)) recGetsCard

/-- THE TIED CARD OF 'posthouselaw07.CallPuts'. -/
def callPutsCard : Claim7 := { stood := { row := callPutsRow, standIns := [], harness := (true, "bcde7643a1466f390899ca72850551e663bff9462272335793453d7177a52199"), looks := true }, kinds := [], alts := [], laidByText := true, laidKinds := [.data, .pinned], laidTests := true, laidLooks := .later }
def CallPutsCardSaid : Prop := Claim7.holds Tryd.pinned (.plain (OpenSpec.ofChange callPutsSpec)) callPutsCard

/-- THE TIED CARD OF 'posthouselaw07.CallGets'. -/
def callGetsCard : Claim7 := { stood := { row := callGetsRow, standIns := [], harness := (true, "bcde7643a1466f390899ca72850551e663bff9462272335793453d7177a52199"), looks := true }, kinds := [], alts := [], laidByText := true, laidKinds := [.data, .pinned], laidTests := true, laidLooks := .later }
def CallGetsCardSaid : Prop := Claim7.holds Tryd.pinned (.plain (OpenSpec.ofChange callGetsSpec)) callGetsCard

/-- THE TIED CARD OF 'posthouselaw07.CallCut'. -/
def callCutCard : Claim7 := { stood := { row := callCutRow, standIns := [], harness := (true, "bcde7643a1466f390899ca72850551e663bff9462272335793453d7177a52199"), looks := true }, kinds := [], alts := [], laidByText := true, laidKinds := [.data, .pinned], laidTests := true, laidLooks := .later }
def CallCutCardSaid : Prop := Claim7.holds Tryd.pinned (.plain (OpenSpec.ofChange callCutSpec)) callCutCard

/-- THE SECOND FORM's CARD OF 'posthouselaw09.RpcPuts'. -/
def rpcPutsUptoCard : Claim7 := { stood := { row := rpcPutsUptoRow, standIns := [], harness := (true, "bcde7643a1466f390899ca72850551e663bff9462272335793453d7177a52199"), looks := true }, kinds := [], alts := [], laidByText := true, laidKinds := [.data, .pinned], laidTests := true, laidLooks := .later }
def RpcPutsUptoCardSaid : Prop := Claim7.holds Tryd.pinned (.plain (OpenSpec.upto rpcPutsSpec)) rpcPutsUptoCard

/-- THE SECOND FORM's CARD OF 'posthouselaw09.RpcGets'. -/
def rpcGetsUptoCard : Claim7 := { stood := { row := rpcGetsUptoRow, standIns := [], harness := (true, "bcde7643a1466f390899ca72850551e663bff9462272335793453d7177a52199"), looks := true }, kinds := [], alts := [], laidByText := true, laidKinds := [.data, .pinned], laidTests := true, laidLooks := .later }
def RpcGetsUptoCardSaid : Prop := Claim7.holds Tryd.pinned (.plain (OpenSpec.upto rpcGetsSpec)) rpcGetsUptoCard

/-- THE SECOND FORM's CARD OF 'posthouselaw09.RpcCut'. -/
def rpcCutUptoCard : Claim7 := { stood := { row := rpcCutUptoRow, standIns := [], harness := (true, "bcde7643a1466f390899ca72850551e663bff9462272335793453d7177a52199"), looks := true }, kinds := [], alts := [], laidByText := true, laidKinds := [.data, .pinned], laidTests := true, laidLooks := .later }
def RpcCutUptoCardSaid : Prop := Claim7.holds Tryd.pinned (.plain (OpenSpec.upto rpcCutSpec)) rpcCutUptoCard

/-- THE SECOND FORM's CARD OF 'posthouselaw17.RecPuts'. -/
def recPutsUptoCard : Claim7 := { stood := { row := recPutsUptoRow, standIns := [], harness := (true, "bcde7643a1466f390899ca72850551e663bff9462272335793453d7177a52199"), looks := true }, kinds := [], alts := [], laidByText := true, laidKinds := [.data, .pinned], laidTests := true, laidLooks := .later }
def RecPutsUptoCardSaid : Prop := Claim7.holds Tryd.pinned (.plain (OpenSpec.upto recPutsSpec)) recPutsUptoCard

/-- THE SECOND FORM's CARD OF 'posthouselaw17.RecGets'. -/
def recGetsUptoCard : Claim7 := { stood := { row := recGetsUptoRow, standIns := [], harness := (true, "bcde7643a1466f390899ca72850551e663bff9462272335793453d7177a52199"), looks := true }, kinds := [], alts := [], laidByText := true, laidKinds := [.data, .pinned], laidTests := true, laidLooks := .later }
def RecGetsUptoCardSaid : Prop := Claim7.holds Tryd.pinned (.plain (OpenSpec.upto recGetsSpec)) recGetsUptoCard

/-- THE SECOND FORM's CARD OF 'posthouselaw07.CallPuts'. -/
def callPutsUptoCard : Claim7 := { stood := { row := callPutsUptoRow, standIns := [], harness := (true, "bcde7643a1466f390899ca72850551e663bff9462272335793453d7177a52199"), looks := true }, kinds := [], alts := [], laidByText := true, laidKinds := [.data, .pinned], laidTests := true, laidLooks := .later }
def CallPutsUptoCardSaid : Prop := Claim7.holds Tryd.pinned (.plain (OpenSpec.upto callPutsSpec)) callPutsUptoCard

/-- THE SECOND FORM's CARD OF 'posthouselaw07.CallGets'. -/
def callGetsUptoCard : Claim7 := { stood := { row := callGetsUptoRow, standIns := [], harness := (true, "bcde7643a1466f390899ca72850551e663bff9462272335793453d7177a52199"), looks := true }, kinds := [], alts := [], laidByText := true, laidKinds := [.data, .pinned], laidTests := true, laidLooks := .later }
def CallGetsUptoCardSaid : Prop := Claim7.holds Tryd.pinned (.plain (OpenSpec.upto callGetsSpec)) callGetsUptoCard

/-- THE SECOND FORM's CARD OF 'posthouselaw07.CallCut'. -/
def callCutUptoCard : Claim7 := { stood := { row := callCutUptoRow, standIns := [], harness := (true, "bcde7643a1466f390899ca72850551e663bff9462272335793453d7177a52199"), looks := true }, kinds := [], alts := [], laidByText := true, laidKinds := [.data, .pinned], laidTests := true, laidLooks := .later }
def CallCutUptoCardSaid : Prop := Claim7.holds Tryd.pinned (.plain (OpenSpec.upto callCutSpec)) callCutUptoCard
end Rows
end Go.Proofs.YthfhdighniiodaaDoor
