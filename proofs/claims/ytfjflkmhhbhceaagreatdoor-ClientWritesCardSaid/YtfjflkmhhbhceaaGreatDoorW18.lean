/-
  Layer 7, walks: the document's Check (written by wip/tools/gencheck7.py). No condition.
-/
import Derived.Test.YtfjflkmhhbhceaaGreatDoorW14
import Derived.Test.YtfjflkmhhbhceaaGreatDoorW16
import Derived.Test.YtfjflkmhhbhceaaGreatDoorW15
import Derived.BigQuiet
namespace Go.Proofs.YtfjflkmhhbhceaaGreatDoor
open Go.RowKit
end Go.Proofs.YtfjflkmhhbhceaaGreatDoor