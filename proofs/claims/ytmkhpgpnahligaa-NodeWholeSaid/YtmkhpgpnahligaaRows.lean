/-
  No cell of these rows narrows 'for every input' (looked for: loops, veiled, ifaces, maps, wideKeys, modest, calm, conditions, laid).
  DERIVED. THE GIVEN ROWS OF THIS SEAT. 4 by the template 'for every input the law returns true; each argument reads behind the call as it read before'; 0 by the template 'total and deterministic' (their statements: YtmkhpgpnahligaaTotals.lean).
  GIVEN WITH THE SEED: the statements are not yours to turn. If you find one false, say at which input.
  Laid BY PROGRAM, IN A SANDBOX (cutbox-rows.mjs): the forced cells as the released guide's own fill.sh prints them over the translation deadea34504ecb69… (all of the seat's roots in one cut). By AI agents, Wed Nov 11 2026. No macro, syntax, notation, axiom, sorry.
-/
import Derived.Test.YtmkhpgpnahligaaChecked
import GoSem.Claim
import GoSem.ClaimJoined
import GoSem.ClaimMapViews
import Derived.JoinedTies
import Derived.KernelRfl
namespace Go.Proofs.Ytmkhpgpnahligaa
/- THE CELL 'sum', in the pinned program and in every row, IS THE sha256 OF THE DUMP (.gsa) THAT YtmkhpgpnahligaaProg.lean LOADS. Nothing in Lean hashes anything: it is a label: what it is worth is what the hold of that sum in a sandbox is worth. -/
noncomputable def Try.pinned : Pinned := { name := "ytmkhpgpnahligaa", sum := "deadea34504ecb69816841d55d97c4af95cef195ab3d5007d87caffbdb221fdf", checked := Try.checked }
namespace Rows
def none {H : Type} : Left H := { results := [], args := [] }

/-- 'posthouselaw20.NodePages': WHATEVER THE INPUT: true; the input reads as it did. -/
def nodePagesSpec : ChangeSpec := { name := "nodePages", fn := fun _ => fun
  | [d1, d2, d3, d4] => { results := [.lit (.bool true)], args := [d1, d2, d3, d4] }
  | _ => none }
def nodePagesRow : OpenClaim := { program := "ytmkhpgpnahligaa", sum := "deadea34504ecb69816841d55d97c4af95cef195ab3d5007d87caffbdb221fdf", func := "posthouse/posthouselaw20.NodePages", spec := "nodePages", inPlace := ["internal/abi.NoEscape", "internal/bytealg.MakeNoZero"], unfollowed := true, recurses := true, apart := false }
def NodePagesSaid : Prop := nodePagesRow.holds Try.pinned (OpenSpec.ofChange nodePagesSpec)

/-- ITS FALSE NEIGHBOUR: 'it returns false'. Refute it at one input. -/
def nodePagesWrong : ChangeSpec := { name := "nodePages", fn := fun _ => fun
  | [d1, d2, d3, d4] => { results := [.lit (.bool false)], args := [d1, d2, d3, d4] }
  | _ => none }
def NodePagesWrongFalsely : Prop := nodePagesRow.holds Try.pinned (OpenSpec.ofChange nodePagesWrong)

/-- 'posthouselaw20.NodeWhole': WHATEVER THE INPUT: true; the input reads as it did. -/
def nodeWholeSpec : ChangeSpec := { name := "nodeWhole", fn := fun _ => fun
  | [d1, d2] => { results := [.lit (.bool true)], args := [d1, d2] }
  | _ => none }
def nodeWholeRow : OpenClaim := { program := "ytmkhpgpnahligaa", sum := "deadea34504ecb69816841d55d97c4af95cef195ab3d5007d87caffbdb221fdf", func := "posthouse/posthouselaw20.NodeWhole", spec := "nodeWhole", inPlace := ["internal/abi.NoEscape", "internal/bytealg.MakeNoZero"], unfollowed := true, recurses := true, apart := false }
def NodeWholeSaid : Prop := nodeWholeRow.holds Try.pinned (OpenSpec.ofChange nodeWholeSpec)

/-- ITS FALSE NEIGHBOUR: 'it returns false'. Refute it at one input. -/
def nodeWholeWrong : ChangeSpec := { name := "nodeWhole", fn := fun _ => fun
  | [d1, d2] => { results := [.lit (.bool false)], args := [d1, d2] }
  | _ => none }
def NodeWholeWrongFalsely : Prop := nodeWholeRow.holds Try.pinned (OpenSpec.ofChange nodeWholeWrong)

/-- 'posthouselaw08.ReplyFields': WHATEVER THE INPUT: true; the input reads as it did. -/
def replyFieldsSpec : ChangeSpec := { name := "replyFields", fn := fun _ => fun
  | [d1, d2, d3] => { results := [.lit (.bool true)], args := [d1, d2, d3] }
  | _ => none }
def replyFieldsRow : OpenClaim := { program := "ytmkhpgpnahligaa", sum := "deadea34504ecb69816841d55d97c4af95cef195ab3d5007d87caffbdb221fdf", func := "posthouse/posthouselaw08.ReplyFields", spec := "replyFields", unfollowed := true, recurses := true, apart := false }
def ReplyFieldsSaid : Prop := replyFieldsRow.holds Try.pinned (OpenSpec.ofChange replyFieldsSpec)

/-- ITS FALSE NEIGHBOUR: 'it returns false'. Refute it at one input. -/
def replyFieldsWrong : ChangeSpec := { name := "replyFields", fn := fun _ => fun
  | [d1, d2, d3] => { results := [.lit (.bool false)], args := [d1, d2, d3] }
  | _ => none }
def ReplyFieldsWrongFalsely : Prop := replyFieldsRow.holds Try.pinned (OpenSpec.ofChange replyFieldsWrong)

/-- 'posthouselaw08.ReplySame': WHATEVER THE INPUT: true; the input reads as it did. -/
def replySameSpec : ChangeSpec := { name := "replySame", fn := fun _ => fun
  | [d1, d2] => { results := [.lit (.bool true)], args := [d1, d2] }
  | _ => none }
def replySameRow : OpenClaim := { program := "ytmkhpgpnahligaa", sum := "deadea34504ecb69816841d55d97c4af95cef195ab3d5007d87caffbdb221fdf", func := "posthouse/posthouselaw08.ReplySame", spec := "replySame", unfollowed := true, recurses := true, apart := false }
def ReplySameSaid : Prop := replySameRow.holds Try.pinned (OpenSpec.ofChange replySameSpec)

/-- ITS FALSE NEIGHBOUR: 'it returns false'. Refute it at one input. -/
def replySameWrong : ChangeSpec := { name := "replySame", fn := fun _ => fun
  | [d1, d2] => { results := [.lit (.bool false)], args := [d1, d2] }
  | _ => none }
def ReplySameWrongFalsely : Prop := replySameRow.holds Try.pinned (OpenSpec.ofChange replySameWrong)

/- THE SECOND FORM. 'bulk': how many values and letters a reading holds, each counted each time it is reached (what is shared counts as often as it is met; a slice's spare places count too). A statement '..UptoSaid' is the law's where the arguments, and the package variables that the reading takes, are together of bulk at most 1048576: NARROWER than '..Said'. Prove '..Said' where nothing that the law and all that it calls make is longer than what came in: it says more and counts as full. Else prove '..UptoSaid'. A law counts once. -/
mutual
def uptoBulk {H : Type} : DataW H → Nat
  | .lit (.string bytes) => bytes.length + 1
  | .lit _ => 1
  | .nil => 1
  | .ptr d => uptoBulk d + 1
  | .slice elems spare => uptoBulkAll elems + uptoBulkAll spare + 1
  | .agg parts => uptoBulkAll parts + 1
  | .iface _ d => uptoBulk d + 1
  | .map entries => uptoBulkEntries entries + 1
  | .held _ => 1
def uptoBulkAll {H : Type} : List (DataW H) → Nat
  | [] => 0
  | d :: r => uptoBulk d + uptoBulkAll r
def uptoBulkEntries {H : Type} : List (Lit × DataW H) → Nat
  | [] => 0
  | x :: r => uptoBulkEntry x + uptoBulkEntries r
def uptoBulkEntry {H : Type} : Lit × DataW H → Nat
  | (.string bytes, d) => bytes.length + uptoBulk d + 1
  | (_, d) => uptoBulk d + 1
 end
def uptoSmall : (H : Type) → List (DataW H) → Bool := fun _ ds => decide (uptoBulkAll ds ≤ 1048576)
def OpenSpec.upto (s : _root_.Go.ChangeSpec) : _root_.Go.OpenSpec := { _root_.Go.OpenSpec.ofChange s with cond := some uptoSmall }

/-- 'posthouselaw20.NodePages', WHERE WHAT IT READS IS OF BULK AT MOST 1048576: true; the input reads as it did. -/
def nodePagesUptoRow : OpenClaim := { program := "ytmkhpgpnahligaa", sum := "deadea34504ecb69816841d55d97c4af95cef195ab3d5007d87caffbdb221fdf", func := "posthouse/posthouselaw20.NodePages", spec := "nodePages", inPlace := ["internal/abi.NoEscape", "internal/bytealg.MakeNoZero"], unfollowed := true, recurses := true, apart := false, narrowed := true }
def NodePagesUptoSaid : Prop := nodePagesUptoRow.holds Try.pinned (OpenSpec.upto nodePagesSpec)

/-- 'posthouselaw20.NodeWhole', WHERE WHAT IT READS IS OF BULK AT MOST 1048576: true; the input reads as it did. -/
def nodeWholeUptoRow : OpenClaim := { program := "ytmkhpgpnahligaa", sum := "deadea34504ecb69816841d55d97c4af95cef195ab3d5007d87caffbdb221fdf", func := "posthouse/posthouselaw20.NodeWhole", spec := "nodeWhole", inPlace := ["internal/abi.NoEscape", "internal/bytealg.MakeNoZero"], unfollowed := true, recurses := true, apart := false, narrowed := true }
def NodeWholeUptoSaid : Prop := nodeWholeUptoRow.holds Try.pinned (OpenSpec.upto nodeWholeSpec)

/-- 'posthouselaw08.ReplyFields', WHERE WHAT IT READS IS OF BULK AT MOST 1048576: true; the input reads as it did. -/
def replyFieldsUptoRow : OpenClaim := { program := "ytmkhpgpnahligaa", sum := "deadea34504ecb69816841d55d97c4af95cef195ab3d5007d87caffbdb221fdf", func := "posthouse/posthouselaw08.ReplyFields", spec := "replyFields", unfollowed := true, recurses := true, apart := false, narrowed := true }
def ReplyFieldsUptoSaid : Prop := replyFieldsUptoRow.holds Try.pinned (OpenSpec.upto replyFieldsSpec)

/-- 'posthouselaw08.ReplySame', WHERE WHAT IT READS IS OF BULK AT MOST 1048576: true; the input reads as it did. -/
def replySameUptoRow : OpenClaim := { program := "ytmkhpgpnahligaa", sum := "deadea34504ecb69816841d55d97c4af95cef195ab3d5007d87caffbdb221fdf", func := "posthouse/posthouselaw08.ReplySame", spec := "replySame", unfollowed := true, recurses := true, apart := false, narrowed := true }
def ReplySameUptoSaid : Prop := replySameUptoRow.holds Try.pinned (OpenSpec.upto replySameSpec)

end Rows
end Go.Proofs.Ytmkhpgpnahligaa
