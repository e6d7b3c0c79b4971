/-
  No cell of these rows narrows 'for every input' (looked for: loops, veiled, ifaces, maps, wideKeys, modest, calm, conditions, laid).
  DERIVED. THE GIVEN ROWS OF THIS SEAT. 6 by the template 'for every input the law returns true; each argument reads behind the call as it read before'; 0 by the template 'total and deterministic' (their statements: YtbpfniocaibfcaaTotals.lean).
  GIVEN WITH THE SEED: the statements are not yours to turn. If you find one false, say at which input.
  Laid BY PROGRAM, IN A SANDBOX (cutbox-rows.mjs): the forced cells as the released guide's own fill.sh prints them over the translation a040166d628f8569… (all of the seat's roots in one cut). By AI agents, Wed Nov 11 2026. No macro, syntax, notation, axiom, sorry.
-/
import Derived.Test.YtbpfniocaibfcaaChecked
import GoSem.Claim
import GoSem.ClaimJoined
import GoSem.ClaimMapViews
import Derived.JoinedTies
import Derived.KernelRfl
namespace Go.Proofs.Ytbpfniocaibfcaa
/- THE CELL 'sum', in the pinned program and in every row, IS THE sha256 OF THE DUMP (.gsa) THAT YtbpfniocaibfcaaProg.lean LOADS. Nothing in Lean hashes anything: it is a label: what it is worth is what the hold of that sum in a sandbox is worth. -/
noncomputable def Try.pinned : Pinned := { name := "ytbpfniocaibfcaa", sum := "a040166d628f8569c0b5d9f8494352220711c27b8593726dcc02cd33e085fcd2", checked := Try.checked }
namespace Rows
def none {H : Type} : Left H := { results := [], args := [] }

/-- 'posthouselaw01.XdrPads': WHATEVER THE INPUT: true; the input reads as it did. -/
def xdrPadsSpec : ChangeSpec := { name := "xdrPads", fn := fun _ => fun
  | [d] => { results := [.lit (.bool true)], args := [d] }
  | _ => none }
def xdrPadsRow : OpenClaim := { program := "ytbpfniocaibfcaa", sum := "a040166d628f8569c0b5d9f8494352220711c27b8593726dcc02cd33e085fcd2", func := "posthouse/posthouselaw01.XdrPads", spec := "xdrPads", apart := false }
def XdrPadsSaid : Prop := xdrPadsRow.holds Try.pinned (OpenSpec.ofChange xdrPadsSpec)

/-- ITS FALSE NEIGHBOUR: 'it returns false'. Refute it at one input. -/
def xdrPadsWrong : ChangeSpec := { name := "xdrPads", fn := fun _ => fun
  | [d] => { results := [.lit (.bool false)], args := [d] }
  | _ => none }
def XdrPadsWrongFalsely : Prop := xdrPadsRow.holds Try.pinned (OpenSpec.ofChange xdrPadsWrong)

/-- 'posthouselaw01.XdrWrites': WHATEVER THE INPUT: true; the input reads as it did. -/
def xdrWritesSpec : ChangeSpec := { name := "xdrWrites", fn := fun _ => fun
  | [d] => { results := [.lit (.bool true)], args := [d] }
  | _ => none }
def xdrWritesRow : OpenClaim := { program := "ytbpfniocaibfcaa", sum := "a040166d628f8569c0b5d9f8494352220711c27b8593726dcc02cd33e085fcd2", func := "posthouse/posthouselaw01.XdrWrites", spec := "xdrWrites", apart := false }
def XdrWritesSaid : Prop := xdrWritesRow.holds Try.pinned (OpenSpec.ofChange xdrWritesSpec)

/-- ITS FALSE NEIGHBOUR: 'it returns false'. Refute it at one input. -/
def xdrWritesWrong : ChangeSpec := { name := "xdrWrites", fn := fun _ => fun
  | [d] => { results := [.lit (.bool false)], args := [d] }
  | _ => none }
def XdrWritesWrongFalsely : Prop := xdrWritesRow.holds Try.pinned (OpenSpec.ofChange xdrWritesWrong)

/-- 'posthouselaw05.AttrApplies': WHATEVER THE INPUT: true; the input reads as it did. -/
def attrAppliesSpec : ChangeSpec := { name := "attrApplies", fn := fun _ => fun
  | [d1, d2, d3] => { results := [.lit (.bool true)], args := [d1, d2, d3] }
  | _ => none }
def attrAppliesRow : OpenClaim := { program := "ytbpfniocaibfcaa", sum := "a040166d628f8569c0b5d9f8494352220711c27b8593726dcc02cd33e085fcd2", func := "posthouse/posthouselaw05.AttrApplies", spec := "attrApplies", apart := false }
def AttrAppliesSaid : Prop := attrAppliesRow.holds Try.pinned (OpenSpec.ofChange attrAppliesSpec)

/-- ITS FALSE NEIGHBOUR: 'it returns false'. Refute it at one input. -/
def attrAppliesWrong : ChangeSpec := { name := "attrApplies", fn := fun _ => fun
  | [d1, d2, d3] => { results := [.lit (.bool false)], args := [d1, d2, d3] }
  | _ => none }
def AttrAppliesWrongFalsely : Prop := attrAppliesRow.holds Try.pinned (OpenSpec.ofChange attrAppliesWrong)

/-- 'posthouselaw05.AttrSets': WHATEVER THE INPUT: true; the input reads as it did. -/
def attrSetsSpec : ChangeSpec := { name := "attrSets", fn := fun _ => fun
  | [d] => { results := [.lit (.bool true)], args := [d] }
  | _ => none }
def attrSetsRow : OpenClaim := { program := "ytbpfniocaibfcaa", sum := "a040166d628f8569c0b5d9f8494352220711c27b8593726dcc02cd33e085fcd2", func := "posthouse/posthouselaw05.AttrSets", spec := "attrSets", apart := false }
def AttrSetsSaid : Prop := attrSetsRow.holds Try.pinned (OpenSpec.ofChange attrSetsSpec)

/-- ITS FALSE NEIGHBOUR: 'it returns false'. Refute it at one input. -/
def attrSetsWrong : ChangeSpec := { name := "attrSets", fn := fun _ => fun
  | [d] => { results := [.lit (.bool false)], args := [d] }
  | _ => none }
def AttrSetsWrongFalsely : Prop := attrSetsRow.holds Try.pinned (OpenSpec.ofChange attrSetsWrong)

/-- 'posthouselaw05.AttrGets': WHATEVER THE INPUT: true; the input reads as it did. -/
def attrGetsSpec : ChangeSpec := { name := "attrGets", fn := fun _ => fun
  | [d] => { results := [.lit (.bool true)], args := [d] }
  | _ => none }
def attrGetsRow : OpenClaim := { program := "ytbpfniocaibfcaa", sum := "a040166d628f8569c0b5d9f8494352220711c27b8593726dcc02cd33e085fcd2", func := "posthouse/posthouselaw05.AttrGets", spec := "attrGets", unfollowed := true, recurses := true, apart := false }
def AttrGetsSaid : Prop := attrGetsRow.holds Try.pinned (OpenSpec.ofChange attrGetsSpec)

/-- ITS FALSE NEIGHBOUR: 'it returns false'. Refute it at one input. -/
def attrGetsWrong : ChangeSpec := { name := "attrGets", fn := fun _ => fun
  | [d] => { results := [.lit (.bool false)], args := [d] }
  | _ => none }
def AttrGetsWrongFalsely : Prop := attrGetsRow.holds Try.pinned (OpenSpec.ofChange attrGetsWrong)

/-- 'posthouselaw05.AttrNil': WHATEVER THE INPUT: true; the input reads as it did. -/
def attrNilSpec : ChangeSpec := { name := "attrNil", fn := fun _ => fun
  | [d1, d2, d3] => { results := [.lit (.bool true)], args := [d1, d2, d3] }
  | _ => none }
def attrNilRow : OpenClaim := { program := "ytbpfniocaibfcaa", sum := "a040166d628f8569c0b5d9f8494352220711c27b8593726dcc02cd33e085fcd2", func := "posthouse/posthouselaw05.AttrNil", spec := "attrNil", unfollowed := true, recurses := true, apart := false }
def AttrNilSaid : Prop := attrNilRow.holds Try.pinned (OpenSpec.ofChange attrNilSpec)

/-- ITS FALSE NEIGHBOUR: 'it returns false'. Refute it at one input. -/
def attrNilWrong : ChangeSpec := { name := "attrNil", fn := fun _ => fun
  | [d1, d2, d3] => { results := [.lit (.bool false)], args := [d1, d2, d3] }
  | _ => none }
def AttrNilWrongFalsely : Prop := attrNilRow.holds Try.pinned (OpenSpec.ofChange attrNilWrong)

/- THE SECOND FORM. 'bulk': how many values and letters a reading holds, each counted each time it is reached (what is shared counts as often as it is met; a slice's spare places count too). A statement '..UptoSaid' is the law's where the arguments, and the package variables that the reading takes, are together of bulk at most 1048576: NARROWER than '..Said'. Prove '..Said' where nothing that the law and all that it calls make is longer than what came in: it says more and counts as full. Else prove '..UptoSaid'. A law counts once. -/
mutual
def uptoBulk {H : Type} : DataW H → Nat
  | .lit (.string bytes) => bytes.length + 1
  | .lit _ => 1
  | .nil => 1
  | .ptr d => uptoBulk d + 1
  | .slice elems spare => uptoBulkAll elems + uptoBulkAll spare + 1
  | .agg parts => uptoBulkAll parts + 1
  | .iface _ d => uptoBulk d + 1
  | .map entries => uptoBulkEntries entries + 1
  | .held _ => 1
def uptoBulkAll {H : Type} : List (DataW H) → Nat
  | [] => 0
  | d :: r => uptoBulk d + uptoBulkAll r
def uptoBulkEntries {H : Type} : List (Lit × DataW H) → Nat
  | [] => 0
  | x :: r => uptoBulkEntry x + uptoBulkEntries r
def uptoBulkEntry {H : Type} : Lit × DataW H → Nat
  | (.string bytes, d) => bytes.length + uptoBulk d + 1
  | (_, d) => uptoBulk d + 1
 end
def uptoSmall : (H : Type) → List (DataW H) → Bool := fun _ ds => decide (uptoBulkAll ds ≤ 1048576)
def OpenSpec.upto (s : _root_.Go.ChangeSpec) : _root_.Go.OpenSpec := { _root_.Go.OpenSpec.ofChange s with cond := some uptoSmall }

/-- 'posthouselaw01.XdrPads', WHERE WHAT IT READS IS OF BULK AT MOST 1048576: true; the input reads as it did. -/
def xdrPadsUptoRow : OpenClaim := { program := "ytbpfniocaibfcaa", sum := "a040166d628f8569c0b5d9f8494352220711c27b8593726dcc02cd33e085fcd2", func := "posthouse/posthouselaw01.XdrPads", spec := "xdrPads", apart := false, narrowed := true }
def XdrPadsUptoSaid : Prop := xdrPadsUptoRow.holds Try.pinned (OpenSpec.upto xdrPadsSpec)

/-- 'posthouselaw01.XdrWrites', WHERE WHAT IT READS IS OF BULK AT MOST 1048576: true; the input reads as it did. -/
def xdrWritesUptoRow : OpenClaim := { program := "ytbpfniocaibfcaa", sum := "a040166d628f8569c0b5d9f8494352220711c27b8593726dcc02cd33e085fcd2", func := "posthouse/posthouselaw01.XdrWrites", spec := "xdrWrites", apart := false, narrowed := true }
def XdrWritesUptoSaid : Prop := xdrWritesUptoRow.holds Try.pinned (OpenSpec.upto xdrWritesSpec)

/-- 'posthouselaw05.AttrApplies', WHERE WHAT IT READS IS OF BULK AT MOST 1048576: true; the input reads as it did. -/
def attrAppliesUptoRow : OpenClaim := { program := "ytbpfniocaibfcaa", sum := "a040166d628f8569c0b5d9f8494352220711c27b8593726dcc02cd33e085fcd2", func := "posthouse/posthouselaw05.AttrApplies", spec := "attrApplies", apart := false, narrowed := true }
def AttrAppliesUptoSaid : Prop := attrAppliesUptoRow.holds Try.pinned (OpenSpec.upto attrAppliesSpec)

/-- 'posthouselaw05.AttrSets', WHERE WHAT IT READS IS OF BULK AT MOST 1048576: true; the input reads as it did. -/
def attrSetsUptoRow : OpenClaim := { program := "ytbpfniocaibfcaa", sum := "a040166d628f8569c0b5d9f8494352220711c27b8593726dcc02cd33e085fcd2", func := "posthouse/posthouselaw05.AttrSets", spec := "attrSets", apart := false, narrowed := true }
def AttrSetsUptoSaid : Prop := attrSetsUptoRow.holds Try.pinned (OpenSpec.upto attrSetsSpec)

/-- 'posthouselaw05.AttrGets', WHERE WHAT IT READS IS OF BULK AT MOST 1048576: true; the input reads as it did. -/
def attrGetsUptoRow : OpenClaim := { program := "ytbpfniocaibfcaa", sum := "a040166d628f8569c0b5d9f8494352220711c27b8593726dcc02cd33e085fcd2", func := "posthouse/posthouselaw05.AttrGets", spec := "attrGets", unfollowed := true, recurses := true, apart := false, narrowed := true }
def AttrGetsUptoSaid : Prop := attrGetsUptoRow.holds Try.pinned (OpenSpec.upto attrGetsSpec)

/-- 'posthouselaw05.AttrNil', WHERE WHAT IT READS IS OF BULK AT MOST 1048576: true; the input reads as it did. -/
def attrNilUptoRow : OpenClaim := { program := "ytbpfniocaibfcaa", sum := "a040166d628f8569c0b5d9f8494352220711c27b8593726dcc02cd33e085fcd2", func := "posthouse/posthouselaw05.AttrNil", spec := "attrNil", unfollowed := true, recurses := true, apart := false, narrowed := true }
def AttrNilUptoSaid : Prop := attrNilUptoRow.holds Try.pinned (OpenSpec.upto attrNilSpec)

end Rows
end Go.Proofs.Ytbpfniocaibfcaa
