/-
  Layer 33, plain: the fixed run that ends each of its laws. No condition.
-/
import Derived.Test.YtfjflkmhhbhceaaGreatDoorW30
import Derived.Test.YtfjflkmhhbhceaaGreatDoorW40
import Derived.Test.YtfjflkmhhbhceaaGreatDoorW17
namespace Go.Proofs.YtfjflkmhhbhceaaGreatDoor
open Go.RowKit
/-- the fixed run of layer 33's laws -/
def run33a : ClD × List Packet × Int := (clNew 2 5 1 rootL).ask ⟨3, 0, 0, 0, 0, 0, { callZ with data := [97, 98] }⟩ 1 0
def run33b : ClD × List Packet × Int := run33a.1.ask ⟨3, 0, 0, 0, 0, 0, { callZ with offset := 2, data := [99] }⟩ 2 0
def run33c : ClD × List Packet × Int := run33b.1.ask ⟨4, 0, 0, 0, 0, 0, callZ⟩ 3 0
theorem run33a_is : run33a.2 = ([], 0) := by decide +kernel
theorem run33b_is : run33b.2 = ([], 0) := by decide +kernel
theorem run33c_is : run33c.2.2 = 0 ∧ run33c.2.1.length = 1 ∧ run33c.1.busy = true ∧ run33c.1.recs.length = 1 ∧ run33c.1.sent.to_ = 1 := by decide +kernel
theorem run33c_to : run33c.2.1 = [run33c.1.sent] := by decide +kernel
theorem run33_get : (getM9 run33c.1.sent.data).2 = 0 ∧ (getM9 run33c.1.sent.data).1.proc = 7 ∧ (dGet 7 (getM9 run33c.1.sent.data).1.body).2 = true ∧ (dGet 7 (getM9 run33c.1.sent.data).1.body).1.data = [97, 98, 99] := by decide +kernel
end Go.Proofs.YtfjflkmhhbhceaaGreatDoor
