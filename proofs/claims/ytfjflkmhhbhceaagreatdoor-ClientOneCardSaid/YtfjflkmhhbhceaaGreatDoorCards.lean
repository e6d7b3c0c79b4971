/-
  DERIVED. GIVEN WITH THE SEED: THE CARDS: each row of YtfjflkmhhbhceaaGreatDoorRows.lean that lists a variable, with what it lists TIED to the program's text (the seventh form; the later family's looks); each row that meets fmt, with fmt's text TOLD by the authors' own Lean function (tested against real Go, not proved from fmt's source: count such statements apart). THE CARD IS WHAT COUNTS. Prove the row's statement (the work); the ties are given (YtfjflkmhhbhceaaGreatDoorTie.lean); close each card by the builder's one call (the guide's Derived/Test/ToyasCard.lean, 'card_holds'). Laid BY PROGRAM, IN A SANDBOX (cutbox-door.mjs). By AI agents, Wed Nov 11 2026. No macro, syntax, notation, axiom, sorry.
-/
import Derived.Test.YtfjflkmhhbhceaaGreatDoorRows
import GoSem.ClaimSeven
namespace Go.Proofs.YtfjflkmhhbhceaaGreatDoor
namespace Rows

/-- THE TIED CARD OF 'posthouselaw33.ClientOne'. -/
def clientOneCard : Claim7 := { stood := { row := clientOneRow, standIns := [], harness := (true, "64c674dc89a5a6c209db3df21bbb4f7b1805095535ab02e3125baa8ce74c4b10"), looks := true }, kinds := [], alts := [], laidByText := true, laidKinds := [.data, .data, .data, .data, .pinned], laidTests := true, laidLooks := .later }
def ClientOneCardSaid : Prop := Claim7.holds Tryz.pinned (.plain (OpenSpec.ofChange clientOneSpec)) clientOneCard

/-- THE TIED CARD OF 'posthouselaw33.ClientWrites'. -/
def clientWritesCard : Claim7 := { stood := { row := clientWritesRow, standIns := [], harness := (true, "64c674dc89a5a6c209db3df21bbb4f7b1805095535ab02e3125baa8ce74c4b10"), looks := true }, kinds := [], alts := [], laidByText := true, laidKinds := [.data, .data, .data, .data, .pinned], laidTests := true, laidLooks := .later }
def ClientWritesCardSaid : Prop := Claim7.holds Tryz.pinned (.plain (OpenSpec.ofChange clientWritesSpec)) clientWritesCard

/-- THE TIED CARD OF 'posthouselaw33.ClientNil'. -/
def clientNilCard : Claim7 := { stood := { row := clientNilRow, standIns := [], harness := (true, "64c674dc89a5a6c209db3df21bbb4f7b1805095535ab02e3125baa8ce74c4b10"), looks := true }, kinds := [], alts := [], laidByText := true, laidKinds := [.data, .data, .data, .data, .pinned], laidTests := true, laidLooks := .later }
def ClientNilCardSaid : Prop := Claim7.holds Tryz.pinned (.plain (OpenSpec.ofChange clientNilSpec)) clientNilCard

/-- THE SECOND FORM's CARD OF 'posthouselaw33.ClientOne'. -/
def clientOneUptoCard : Claim7 := { stood := { row := clientOneUptoRow, standIns := [], harness := (true, "64c674dc89a5a6c209db3df21bbb4f7b1805095535ab02e3125baa8ce74c4b10"), looks := true }, kinds := [], alts := [], laidByText := true, laidKinds := [.data, .data, .data, .data, .pinned], laidTests := true, laidLooks := .later }
def ClientOneUptoCardSaid : Prop := Claim7.holds Tryz.pinned (.plain (OpenSpec.upto clientOneSpec)) clientOneUptoCard

/-- THE SECOND FORM's CARD OF 'posthouselaw33.ClientWrites'. -/
def clientWritesUptoCard : Claim7 := { stood := { row := clientWritesUptoRow, standIns := [], harness := (true, "64c674dc89a5a6c209db3df21bbb4f7b1805095535ab02e3125baa8ce74c4b10"), looks := true }, kinds := [], alts := [], laidByText := true, laidKinds := [.data, .data, .data, .data, .pinned], laidTests := true, laidLooks := .later }
def ClientWritesUptoCardSaid : Prop := Claim7.holds Tryz.pinned (.plain (OpenSpec.upto clientWritesSpec)) clientWritesUptoCard

/-- THE SECOND FORM's CARD OF 'posthouselaw33.ClientNil'. -/
def clientNilUptoCard : Claim7 := { stood := { row := clientNilUptoRow, standIns := [], harness := (true, "64c674dc89a5a6c209db3df21bbb4f7b1805095535ab02e3125baa8ce74c4b10"), looks := true }, kinds := [], alts := [], laidByText := true, laidKinds := [.data, .data, .data, .data, .pinned], laidTests := true, laidLooks := .later }
def ClientNilUptoCardSaid : Prop := Claim7.holds Tryz.pinned (.plain (OpenSpec.upto clientNilSpec)) clientNilUptoCard
end Rows
end Go.Proofs.YtfjflkmhhbhceaaGreatDoor
