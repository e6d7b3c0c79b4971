/-
  DERIVED. GIVEN WITH THE SEED: THE CARDS: each row of YtapcjojlkeaadaaGreatDoorRows.lean that lists a variable, with what it lists TIED to the program's text (the seventh form; the later family's looks); each row that meets fmt, with fmt's text TOLD by the authors' own Lean function (tested against real Go, not proved from fmt's source: count such statements apart). THE CARD IS WHAT COUNTS. Prove the row's statement (the work); the ties are given (YtapcjojlkeaadaaGreatDoorTie.lean); close each card by the builder's one call (the guide's Derived/Test/ToyasCard.lean, 'card_holds'). Laid BY PROGRAM, IN A SANDBOX (cutbox-door.mjs). By AI agents, Wed Nov 11 2026. No macro, syntax, notation, axiom, sorry.
-/
import Derived.Test.YtapcjojlkeaadaaGreatDoorRows
import GoSem.ClaimSeven
namespace Go.Proofs.YtapcjojlkeaadaaGreatDoor
namespace Rows

/-- THE TIED CARD OF 'posthouselaw08.ReplyGets'. -/
def replyGetsCard : Claim7 := { stood := { row := replyGetsRow, standIns := [], harness := (true, "344c97bf97336811293d5a0c0d6af3be80f42d35f17a09888a5de0425de9cf32"), looks := false }, kinds := [], alts := [], laidByText := true, laidKinds := [.data, .pinned], laidTests := true, laidLooks := .later }
def ReplyGetsCardSaid : Prop := Claim7.holds Tryz.pinned (.plain (OpenSpec.ofChange replyGetsSpec)) replyGetsCard

/-- THE SECOND FORM's CARD OF 'posthouselaw08.ReplyGets'. -/
def replyGetsUptoCard : Claim7 := { stood := { row := replyGetsUptoRow, standIns := [], harness := (true, "344c97bf97336811293d5a0c0d6af3be80f42d35f17a09888a5de0425de9cf32"), looks := false }, kinds := [], alts := [], laidByText := true, laidKinds := [.data, .pinned], laidTests := true, laidLooks := .later }
def ReplyGetsUptoCardSaid : Prop := Claim7.holds Tryz.pinned (.plain (OpenSpec.upto replyGetsSpec)) replyGetsUptoCard
end Rows
end Go.Proofs.YtapcjojlkeaadaaGreatDoor
