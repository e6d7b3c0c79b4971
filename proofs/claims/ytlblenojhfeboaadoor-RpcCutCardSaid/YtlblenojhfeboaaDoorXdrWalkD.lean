/-
  Layer 1, walks: a thing's bytes by the reference; a thing put to a writer. Condition: texts of at most 2^20 bytes.
-/
import Derived.Test.YtlblenojhfeboaaDoorXdrThing
import Derived.Test.YtlblenojhfeboaaDoorXdrWalkC
namespace Go.Proofs.YtlblenojhfeboaaDoor
open Go.RowKit
attribute [local go_sem ↓] Go.wp_at_zero Go.wp_at_succ

end Go.Proofs.YtlblenojhfeboaaDoor
