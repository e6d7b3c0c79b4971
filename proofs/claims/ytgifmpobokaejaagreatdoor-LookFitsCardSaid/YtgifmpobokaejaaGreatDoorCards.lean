/-
  DERIVED. GIVEN WITH THE SEED: THE CARDS: each row of YtgifmpobokaejaaGreatDoorRows.lean that lists a variable, with what it lists TIED to the program's text (the seventh form; the later family's looks); each row that meets fmt, with fmt's text TOLD by the authors' own Lean function (tested against real Go, not proved from fmt's source: count such statements apart). THE CARD IS WHAT COUNTS. Prove the row's statement (the work); the ties are given (YtgifmpobokaejaaGreatDoorTie.lean); close each card by the builder's one call (the guide's Derived/Test/ToyasCard.lean, 'card_holds'). Laid BY PROGRAM, IN A SANDBOX (cutbox-door.mjs). By AI agents, Wed Nov 11 2026. No macro, syntax, notation, axiom, sorry.
-/
import Derived.Test.YtgifmpobokaejaaGreatDoorRows
import GoSem.ClaimSeven
namespace Go.Proofs.YtgifmpobokaejaaGreatDoor
namespace Rows

/-- THE TIED CARD OF 'posthouselaw22.LookDoes'. -/
def lookDoesCard : Claim7 := { stood := { row := lookDoesRow, standIns := [], harness := (true, "dcb4a9958423380fd5c11aec1ec3f8ee7d22558ffee02f94f59626a1d5d23637"), looks := true }, kinds := [], alts := [], laidByText := true, laidKinds := [.data, .data, .data, .sentinel, .sentinel], laidTests := true, laidLooks := .later }
def LookDoesCardSaid : Prop := Claim7.holds Tryz.pinned (.plain (OpenSpec.ofChange lookDoesSpec)) lookDoesCard

/-- THE TIED CARD OF 'posthouselaw22.LookFits'. -/
def lookFitsCard : Claim7 := { stood := { row := lookFitsRow, standIns := [], harness := (true, "dcb4a9958423380fd5c11aec1ec3f8ee7d22558ffee02f94f59626a1d5d23637"), looks := true }, kinds := [], alts := [], laidByText := true, laidKinds := [.data, .data, .data, .sentinel, .sentinel], laidTests := true, laidLooks := .later }
def LookFitsCardSaid : Prop := Claim7.holds Tryz.pinned (.plain (OpenSpec.ofChange lookFitsSpec)) lookFitsCard

/-- THE TIED CARD OF 'posthouselaw22.LookNews'. -/
def lookNewsCard : Claim7 := { stood := { row := lookNewsRow, standIns := [], harness := (true, "dcb4a9958423380fd5c11aec1ec3f8ee7d22558ffee02f94f59626a1d5d23637"), looks := true }, kinds := [], alts := [], laidByText := true, laidKinds := [.data, .data, .data, .sentinel, .sentinel], laidTests := true, laidLooks := .later }
def LookNewsCardSaid : Prop := Claim7.holds Tryz.pinned (.plain (OpenSpec.ofChange lookNewsSpec)) lookNewsCard

/-- THE TIED CARD OF 'posthouselaw22.LookChecks'. -/
def lookChecksCard : Claim7 := { stood := { row := lookChecksRow, standIns := [], harness := (true, "dcb4a9958423380fd5c11aec1ec3f8ee7d22558ffee02f94f59626a1d5d23637"), looks := true }, kinds := [], alts := [], laidByText := true, laidKinds := [.data, .data, .data, .sentinel, .sentinel], laidTests := true, laidLooks := .later }
def LookChecksCardSaid : Prop := Claim7.holds Tryz.pinned (.plain (OpenSpec.ofChange lookChecksSpec)) lookChecksCard

/-- THE SECOND FORM's CARD OF 'posthouselaw22.LookDoes'. -/
def lookDoesUptoCard : Claim7 := { stood := { row := lookDoesUptoRow, standIns := [], harness := (true, "dcb4a9958423380fd5c11aec1ec3f8ee7d22558ffee02f94f59626a1d5d23637"), looks := true }, kinds := [], alts := [], laidByText := true, laidKinds := [.data, .data, .data, .sentinel, .sentinel], laidTests := true, laidLooks := .later }
def LookDoesUptoCardSaid : Prop := Claim7.holds Tryz.pinned (.plain (OpenSpec.upto lookDoesSpec)) lookDoesUptoCard

/-- THE SECOND FORM's CARD OF 'posthouselaw22.LookFits'. -/
def lookFitsUptoCard : Claim7 := { stood := { row := lookFitsUptoRow, standIns := [], harness := (true, "dcb4a9958423380fd5c11aec1ec3f8ee7d22558ffee02f94f59626a1d5d23637"), looks := true }, kinds := [], alts := [], laidByText := true, laidKinds := [.data, .data, .data, .sentinel, .sentinel], laidTests := true, laidLooks := .later }
def LookFitsUptoCardSaid : Prop := Claim7.holds Tryz.pinned (.plain (OpenSpec.upto lookFitsSpec)) lookFitsUptoCard

/-- THE SECOND FORM's CARD OF 'posthouselaw22.LookNews'. -/
def lookNewsUptoCard : Claim7 := { stood := { row := lookNewsUptoRow, standIns := [], harness := (true, "dcb4a9958423380fd5c11aec1ec3f8ee7d22558ffee02f94f59626a1d5d23637"), looks := true }, kinds := [], alts := [], laidByText := true, laidKinds := [.data, .data, .data, .sentinel, .sentinel], laidTests := true, laidLooks := .later }
def LookNewsUptoCardSaid : Prop := Claim7.holds Tryz.pinned (.plain (OpenSpec.upto lookNewsSpec)) lookNewsUptoCard

/-- THE SECOND FORM's CARD OF 'posthouselaw22.LookChecks'. -/
def lookChecksUptoCard : Claim7 := { stood := { row := lookChecksUptoRow, standIns := [], harness := (true, "dcb4a9958423380fd5c11aec1ec3f8ee7d22558ffee02f94f59626a1d5d23637"), looks := true }, kinds := [], alts := [], laidByText := true, laidKinds := [.data, .data, .data, .sentinel, .sentinel], laidTests := true, laidLooks := .later }
def LookChecksUptoCardSaid : Prop := Claim7.holds Tryz.pinned (.plain (OpenSpec.upto lookChecksSpec)) lookChecksUptoCard
end Rows
end Go.Proofs.YtgifmpobokaejaaGreatDoor
