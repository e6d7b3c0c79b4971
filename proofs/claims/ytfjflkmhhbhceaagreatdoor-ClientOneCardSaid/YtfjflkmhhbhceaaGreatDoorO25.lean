/-
  Layer 3, plain laws: numbers' digits and handles' texts. No condition.
-/
import Derived.Test.YtfjflkmhhbhceaaGreatDoorO03
import Derived.Lib.ItoaNum
import Derived.Lib.IndexMore
import Derived.Lib.AtoiAllCases
namespace Go.Proofs.YtfjflkmhhbhceaaGreatDoor
open Go.RowKit
end Go.Proofs.YtfjflkmhhbhceaaGreatDoor
