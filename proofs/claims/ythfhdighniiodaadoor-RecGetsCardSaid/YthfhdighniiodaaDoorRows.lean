/-
  NARROWER THAN 'FOR EVERY INPUT', by the rows' own cells (each row's printed sentence says how): RpcPuts: laid · RpcGets: laid · RpcCut: laid · RecPuts: laid · RecGets: laid · CallPuts: laid · CallGets: laid · CallCut: laid.
  DERIVED. THE GIVEN ROWS OF THIS SEAT. 8 by the template 'for every input the law returns true; each argument reads behind the call as it read before'; 0 by the template 'total and deterministic' (their statements: YthfhdighniiodaaDoorTotals.lean).
  GIVEN WITH THE SEED: the statements are not yours to turn. If you find one false, say at which input.
  Laid BY PROGRAM, IN A SANDBOX (cutbox-rows.mjs): the forced cells as the released guide's own fill.sh prints them over the translation 7bd86421f6f70e5e… (all of the seat's roots in one cut). By AI agents, Wed Nov 11 2026. No macro, syntax, notation, axiom, sorry.
-/
import Derived.Test.YthfhdighniiodaaDoorChecked
import GoSem.PinnedTables
import GoSem.Claim
import GoSem.ClaimJoined
import GoSem.ClaimMapViews
import Derived.JoinedTies
import Derived.KernelRfl
namespace Go.Proofs.YthfhdighniiodaaDoor
/- THE CELL 'sum', in the pinned program and in every row, IS THE sha256 OF THE DUMP (.gsa) THAT YthfhdighniiodaaDoorProg.lean LOADS. Nothing in Lean hashes anything: it is a label: what it is worth is what the hold of that sum in a sandbox is worth. -/
noncomputable def Tryd.pinned : Pinned := { name := "ythfhdighniiodaadoor", sum := "7bd86421f6f70e5ec65b5684567ad3a746ae2afbce3070fbacfec9efbf7e94b3", checked := Tryd.checked }
namespace Rows
def none {H : Type} : Left H := { results := [], args := [] }

/- WHAT THE LISTED PACKAGE-LEVEL VARIABLES READ AS WHEN THE CALL BEGINS. Each datum BY PROGRAM (the guide's laid-datum.mjs) off the statement by which the dump's own 'gosem.cut.vars' lays the variable. In a bare row this is a premise. The card (YthfhdighniiodaaDoorCards.lean) ties it to the program's text. -/
def laid_unicode_utf8_acceptRanges {H : Type} : DataW H := .agg [.agg [.lit (.int .u8 128), .lit (.int .u8 191)], .agg [.lit (.int .u8 160), .lit (.int .u8 191)], .agg [.lit (.int .u8 128), .lit (.int .u8 159)], .agg [.lit (.int .u8 144), .lit (.int .u8 191)], .agg [.lit (.int .u8 128), .lit (.int .u8 143)], .agg [.lit (.int .u8 0), .lit (.int .u8 0)], .agg [.lit (.int .u8 0), .lit (.int .u8 0)], .agg [.lit (.int .u8 0), .lit (.int .u8 0)], .agg [.lit (.int .u8 0), .lit (.int .u8 0)], .agg [.lit (.int .u8 0), .lit (.int .u8 0)], .agg [.lit (.int .u8 0), .lit (.int .u8 0)], .agg [.lit (.int .u8 0), .lit (.int .u8 0)], .agg [.lit (.int .u8 0), .lit (.int .u8 0)], .agg [.lit (.int .u8 0), .lit (.int .u8 0)], .agg [.lit (.int .u8 0), .lit (.int .u8 0)], .agg [.lit (.int .u8 0), .lit (.int .u8 0)]]
/-- One of Go's own tables, pinned by name: the form's constant. -/
def laid_unicode_utf8_first : DataW Unit := Go.Pinned.utf8First

/-- 'posthouselaw09.RpcPuts': WHATEVER THE INPUT: true; the input reads as it did. -/
def rpcPutsSpec : ChangeSpec := { name := "rpcPuts", fn := fun _ => fun
  | [d] => { results := [.lit (.bool true)], args := [d] }
  | _ => none }
def rpcPutsRow : OpenClaim := { program := "ythfhdighniiodaadoor", sum := "7bd86421f6f70e5ec65b5684567ad3a746ae2afbce3070fbacfec9efbf7e94b3", func := "posthouse/posthouselaw09.RpcPuts", spec := "rpcPuts", inPlace := ["internal/bytealg.IndexByteString", "internal/bytealg.IndexString"], unfollowed := true, recurses := true, named := ["unicode/utf8.first", "unicode/utf8.acceptRanges", "internal/bytealg.MaxLen"], apart := false, laid := [("unicode/utf8.acceptRanges", laid_unicode_utf8_acceptRanges), ("unicode/utf8.first", laid_unicode_utf8_first)] }
def RpcPutsSaid : Prop := rpcPutsRow.holds Tryd.pinned (OpenSpec.ofChange rpcPutsSpec)

/-- ITS FALSE NEIGHBOUR: 'it returns false'. Refute it at one input. -/
def rpcPutsWrong : ChangeSpec := { name := "rpcPuts", fn := fun _ => fun
  | [d] => { results := [.lit (.bool false)], args := [d] }
  | _ => none }
def RpcPutsWrongFalsely : Prop := rpcPutsRow.holds Tryd.pinned (OpenSpec.ofChange rpcPutsWrong)

/-- 'posthouselaw09.RpcGets': WHATEVER THE INPUT: true; the input reads as it did. -/
def rpcGetsSpec : ChangeSpec := { name := "rpcGets", fn := fun _ => fun
  | [d] => { results := [.lit (.bool true)], args := [d] }
  | _ => none }
def rpcGetsRow : OpenClaim := { program := "ythfhdighniiodaadoor", sum := "7bd86421f6f70e5ec65b5684567ad3a746ae2afbce3070fbacfec9efbf7e94b3", func := "posthouse/posthouselaw09.RpcGets", spec := "rpcGets", inPlace := ["internal/bytealg.IndexByteString", "internal/bytealg.IndexString"], unfollowed := true, recurses := true, named := ["unicode/utf8.first", "unicode/utf8.acceptRanges", "internal/bytealg.MaxLen"], apart := false, laid := [("unicode/utf8.acceptRanges", laid_unicode_utf8_acceptRanges), ("unicode/utf8.first", laid_unicode_utf8_first)] }
def RpcGetsSaid : Prop := rpcGetsRow.holds Tryd.pinned (OpenSpec.ofChange rpcGetsSpec)

/-- ITS FALSE NEIGHBOUR: 'it returns false'. Refute it at one input. -/
def rpcGetsWrong : ChangeSpec := { name := "rpcGets", fn := fun _ => fun
  | [d] => { results := [.lit (.bool false)], args := [d] }
  | _ => none }
def RpcGetsWrongFalsely : Prop := rpcGetsRow.holds Tryd.pinned (OpenSpec.ofChange rpcGetsWrong)

/-- 'posthouselaw09.RpcCut': WHATEVER THE INPUT: true; the input reads as it did. -/
def rpcCutSpec : ChangeSpec := { name := "rpcCut", fn := fun _ => fun
  | [d1, d2] => { results := [.lit (.bool true)], args := [d1, d2] }
  | _ => none }
def rpcCutRow : OpenClaim := { program := "ythfhdighniiodaadoor", sum := "7bd86421f6f70e5ec65b5684567ad3a746ae2afbce3070fbacfec9efbf7e94b3", func := "posthouse/posthouselaw09.RpcCut", spec := "rpcCut", inPlace := ["internal/bytealg.IndexByteString", "internal/bytealg.IndexString"], unfollowed := true, recurses := true, named := ["unicode/utf8.first", "unicode/utf8.acceptRanges", "internal/bytealg.MaxLen"], apart := false, laid := [("unicode/utf8.acceptRanges", laid_unicode_utf8_acceptRanges), ("unicode/utf8.first", laid_unicode_utf8_first)] }
def RpcCutSaid : Prop := rpcCutRow.holds Tryd.pinned (OpenSpec.ofChange rpcCutSpec)

/-- ITS FALSE NEIGHBOUR: 'it returns false'. Refute it at one input. -/
def rpcCutWrong : ChangeSpec := { name := "rpcCut", fn := fun _ => fun
  | [d1, d2] => { results := [.lit (.bool false)], args := [d1, d2] }
  | _ => none }
def RpcCutWrongFalsely : Prop := rpcCutRow.holds Tryd.pinned (OpenSpec.ofChange rpcCutWrong)

/-- 'posthouselaw17.RecPuts': WHATEVER THE INPUT: true; the input reads as it did. -/
def recPutsSpec : ChangeSpec := { name := "recPuts", fn := fun _ => fun
  | [d] => { results := [.lit (.bool true)], args := [d] }
  | _ => none }
def recPutsRow : OpenClaim := { program := "ythfhdighniiodaadoor", sum := "7bd86421f6f70e5ec65b5684567ad3a746ae2afbce3070fbacfec9efbf7e94b3", func := "posthouse/posthouselaw17.RecPuts", spec := "recPuts", inPlace := ["internal/bytealg.IndexByteString", "internal/bytealg.IndexString"], unfollowed := true, recurses := true, named := ["unicode/utf8.first", "unicode/utf8.acceptRanges", "internal/bytealg.MaxLen"], apart := false, laid := [("unicode/utf8.acceptRanges", laid_unicode_utf8_acceptRanges), ("unicode/utf8.first", laid_unicode_utf8_first)] }
def RecPutsSaid : Prop := recPutsRow.holds Tryd.pinned (OpenSpec.ofChange recPutsSpec)

/-- ITS FALSE NEIGHBOUR: 'it returns false'. Refute it at one input. -/
def recPutsWrong : ChangeSpec := { name := "recPuts", fn := fun _ => fun
  | [d] => { results := [.lit (.bool false)], args := [d] }
  | _ => none }
def RecPutsWrongFalsely : Prop := recPutsRow.holds Tryd.pinned (OpenSpec.ofChange recPutsWrong)

/-- 'posthouselaw17.RecGets': WHATEVER THE INPUT: true; the input reads as it did. -/
def recGetsSpec : ChangeSpec := { name := "recGets", fn := fun _ => fun
  | [d] => { results := [.lit (.bool true)], args := [d] }
  | _ => none }
def recGetsRow : OpenClaim := { program := "ythfhdighniiodaadoor", sum := "7bd86421f6f70e5ec65b5684567ad3a746ae2afbce3070fbacfec9efbf7e94b3", func := "posthouse/posthouselaw17.RecGets", spec := "recGets", inPlace := ["internal/bytealg.IndexByteString", "internal/bytealg.IndexString"], unfollowed := true, recurses := true, named := ["unicode/utf8.first", "unicode/utf8.acceptRanges", "internal/bytealg.MaxLen"], apart := false, laid := [("unicode/utf8.acceptRanges", laid_unicode_utf8_acceptRanges), ("unicode/utf8.first", laid_unicode_utf8_first)] }
def RecGetsSaid : Prop := recGetsRow.holds Tryd.pinned (OpenSpec.ofChange recGetsSpec)

/-- ITS FALSE NEIGHBOUR: 'it returns false'. Refute it at one input. -/
def recGetsWrong : ChangeSpec := { name := "recGets", fn := fun _ => fun
  | [d] => { results := [.lit (.bool false)], args := [d] }
  | _ => none }
def RecGetsWrongFalsely : Prop := recGetsRow.holds Tryd.pinned (OpenSpec.ofChange recGetsWrong)

/-- 'posthouselaw07.CallPuts': WHATEVER THE INPUT: true; the input reads as it did. -/
def callPutsSpec : ChangeSpec := { name := "callPuts", fn := fun _ => fun
  | [d] => { results := [.lit (.bool true)], args := [d] }
  | _ => none }
def callPutsRow : OpenClaim := { program := "ythfhdighniiodaadoor", sum := "7bd86421f6f70e5ec65b5684567ad3a746ae2afbce3070fbacfec9efbf7e94b3", func := "posthouse/posthouselaw07.CallPuts", spec := "callPuts", inPlace := ["internal/bytealg.IndexByteString", "internal/bytealg.IndexString"], unfollowed := true, recurses := true, named := ["unicode/utf8.first", "unicode/utf8.acceptRanges", "internal/bytealg.MaxLen"], apart := false, laid := [("unicode/utf8.acceptRanges", laid_unicode_utf8_acceptRanges), ("unicode/utf8.first", laid_unicode_utf8_first)] }
def CallPutsSaid : Prop := callPutsRow.holds Tryd.pinned (OpenSpec.ofChange callPutsSpec)

/-- ITS FALSE NEIGHBOUR: 'it returns false'. Refute it at one input. -/
def callPutsWrong : ChangeSpec := { name := "callPuts", fn := fun _ => fun
  | [d] => { results := [.lit (.bool false)], args := [d] }
  | _ => none }
def CallPutsWrongFalsely : Prop := callPutsRow.holds Tryd.pinned (OpenSpec.ofChange callPutsWrong)

/-- 'posthouselaw07.CallGets': WHATEVER THE INPUT: true; the input reads as it did. -/
def callGetsSpec : ChangeSpec := { name := "callGets", fn := fun _ => fun
  | [d1, d2] => { results := [.lit (.bool true)], args := [d1, d2] }
  | _ => none }
def callGetsRow : OpenClaim := { program := "ythfhdighniiodaadoor", sum := "7bd86421f6f70e5ec65b5684567ad3a746ae2afbce3070fbacfec9efbf7e94b3", func := "posthouse/posthouselaw07.CallGets", spec := "callGets", inPlace := ["internal/bytealg.IndexByteString", "internal/bytealg.IndexString"], unfollowed := true, recurses := true, named := ["unicode/utf8.first", "unicode/utf8.acceptRanges", "internal/bytealg.MaxLen"], apart := false, laid := [("unicode/utf8.acceptRanges", laid_unicode_utf8_acceptRanges), ("unicode/utf8.first", laid_unicode_utf8_first)] }
def CallGetsSaid : Prop := callGetsRow.holds Tryd.pinned (OpenSpec.ofChange callGetsSpec)

/-- ITS FALSE NEIGHBOUR: 'it returns false'. Refute it at one input. -/
def callGetsWrong : ChangeSpec := { name := "callGets", fn := fun _ => fun
  | [d1, d2] => { results := [.lit (.bool false)], args := [d1, d2] }
  | _ => none }
def CallGetsWrongFalsely : Prop := callGetsRow.holds Tryd.pinned (OpenSpec.ofChange callGetsWrong)

/-- 'posthouselaw07.CallCut': WHATEVER THE INPUT: true; the input reads as it did. -/
def callCutSpec : ChangeSpec := { name := "callCut", fn := fun _ => fun
  | [d1, d2] => { results := [.lit (.bool true)], args := [d1, d2] }
  | _ => none }
def callCutRow : OpenClaim := { program := "ythfhdighniiodaadoor", sum := "7bd86421f6f70e5ec65b5684567ad3a746ae2afbce3070fbacfec9efbf7e94b3", func := "posthouse/posthouselaw07.CallCut", spec := "callCut", inPlace := ["internal/bytealg.IndexByteString", "internal/bytealg.IndexString"], unfollowed := true, recurses := true, named := ["unicode/utf8.first", "unicode/utf8.acceptRanges", "internal/bytealg.MaxLen"], apart := false, laid := [("unicode/utf8.acceptRanges", laid_unicode_utf8_acceptRanges), ("unicode/utf8.first", laid_unicode_utf8_first)] }
def CallCutSaid : Prop := callCutRow.holds Tryd.pinned (OpenSpec.ofChange callCutSpec)

/-- ITS FALSE NEIGHBOUR: 'it returns false'. Refute it at one input. -/
def callCutWrong : ChangeSpec := { name := "callCut", fn := fun _ => fun
  | [d1, d2] => { results := [.lit (.bool false)], args := [d1, d2] }
  | _ => none }
def CallCutWrongFalsely : Prop := callCutRow.holds Tryd.pinned (OpenSpec.ofChange callCutWrong)

/- THE SECOND FORM. 'bulk': how many values and letters a reading holds, each counted each time it is reached (what is shared counts as often as it is met; a slice's spare places count too). A statement '..UptoSaid' is the law's where the arguments, and the package variables that the reading takes, are together of bulk at most 1048576: NARROWER than '..Said'. Prove '..Said' where nothing that the law and all that it calls make is longer than what came in: it says more and counts as full. Else prove '..UptoSaid'. A law counts once. -/
mutual
def uptoBulk {H : Type} : DataW H → Nat
  | .lit (.string bytes) => bytes.length + 1
  | .lit _ => 1
  | .nil => 1
  | .ptr d => uptoBulk d + 1
  | .slice elems spare => uptoBulkAll elems + uptoBulkAll spare + 1
  | .agg parts => uptoBulkAll parts + 1
  | .iface _ d => uptoBulk d + 1
  | .map entries => uptoBulkEntries entries + 1
  | .held _ => 1
def uptoBulkAll {H : Type} : List (DataW H) → Nat
  | [] => 0
  | d :: r => uptoBulk d + uptoBulkAll r
def uptoBulkEntries {H : Type} : List (Lit × DataW H) → Nat
  | [] => 0
  | x :: r => uptoBulkEntry x + uptoBulkEntries r
def uptoBulkEntry {H : Type} : Lit × DataW H → Nat
  | (.string bytes, d) => bytes.length + uptoBulk d + 1
  | (_, d) => uptoBulk d + 1
 end
def uptoSmall : (H : Type) → List (DataW H) → Bool := fun _ ds => decide (uptoBulkAll ds ≤ 1048576)
def OpenSpec.upto (s : _root_.Go.ChangeSpec) : _root_.Go.OpenSpec := { _root_.Go.OpenSpec.ofChange s with cond := some uptoSmall }

/-- 'posthouselaw09.RpcPuts', WHERE WHAT IT READS IS OF BULK AT MOST 1048576: true; the input reads as it did. -/
def rpcPutsUptoRow : OpenClaim := { program := "ythfhdighniiodaadoor", sum := "7bd86421f6f70e5ec65b5684567ad3a746ae2afbce3070fbacfec9efbf7e94b3", func := "posthouse/posthouselaw09.RpcPuts", spec := "rpcPuts", inPlace := ["internal/bytealg.IndexByteString", "internal/bytealg.IndexString"], unfollowed := true, recurses := true, named := ["unicode/utf8.first", "unicode/utf8.acceptRanges", "internal/bytealg.MaxLen"], apart := false, laid := [("unicode/utf8.acceptRanges", laid_unicode_utf8_acceptRanges), ("unicode/utf8.first", laid_unicode_utf8_first)], narrowed := true }
def RpcPutsUptoSaid : Prop := rpcPutsUptoRow.holds Tryd.pinned (OpenSpec.upto rpcPutsSpec)

/-- 'posthouselaw09.RpcGets', WHERE WHAT IT READS IS OF BULK AT MOST 1048576: true; the input reads as it did. -/
def rpcGetsUptoRow : OpenClaim := { program := "ythfhdighniiodaadoor", sum := "7bd86421f6f70e5ec65b5684567ad3a746ae2afbce3070fbacfec9efbf7e94b3", func := "posthouse/posthouselaw09.RpcGets", spec := "rpcGets", inPlace := ["internal/bytealg.IndexByteString", "internal/bytealg.IndexString"], unfollowed := true, recurses := true, named := ["unicode/utf8.first", "unicode/utf8.acceptRanges", "internal/bytealg.MaxLen"], apart := false, laid := [("unicode/utf8.acceptRanges", laid_unicode_utf8_acceptRanges), ("unicode/utf8.first", laid_unicode_utf8_first)], narrowed := true }
def RpcGetsUptoSaid : Prop := rpcGetsUptoRow.holds Tryd.pinned (OpenSpec.upto rpcGetsSpec)

/-- 'posthouselaw09.RpcCut', WHERE WHAT IT READS IS OF BULK AT MOST 1048576: true; the input reads as it did. -/
def rpcCutUptoRow : OpenClaim := { program := "ythfhdighniiodaadoor", sum := "7bd86421f6f70e5ec65b5684567ad3a746ae2afbce3070fbacfec9efbf7e94b3", func := "posthouse/posthouselaw09.RpcCut", spec := "rpcCut", inPlace := ["internal/bytealg.IndexByteString", "internal/bytealg.IndexString"], unfollowed := true, recurses := true, named := ["unicode/utf8.first", "unicode/utf8.acceptRanges", "internal/bytealg.MaxLen"], apart := false, laid := [("unicode/utf8.acceptRanges", laid_unicode_utf8_acceptRanges), ("unicode/utf8.first", laid_unicode_utf8_first)], narrowed := true }
def RpcCutUptoSaid : Prop := rpcCutUptoRow.holds Tryd.pinned (OpenSpec.upto rpcCutSpec)

/-- 'posthouselaw17.RecPuts', WHERE WHAT IT READS IS OF BULK AT MOST 1048576: true; the input reads as it did. -/
def recPutsUptoRow : OpenClaim := { program := "ythfhdighniiodaadoor", sum := "7bd86421f6f70e5ec65b5684567ad3a746ae2afbce3070fbacfec9efbf7e94b3", func := "posthouse/posthouselaw17.RecPuts", spec := "recPuts", inPlace := ["internal/bytealg.IndexByteString", "internal/bytealg.IndexString"], unfollowed := true, recurses := true, named := ["unicode/utf8.first", "unicode/utf8.acceptRanges", "internal/bytealg.MaxLen"], apart := false, laid := [("unicode/utf8.acceptRanges", laid_unicode_utf8_acceptRanges), ("unicode/utf8.first", laid_unicode_utf8_first)], narrowed := true }
def RecPutsUptoSaid : Prop := recPutsUptoRow.holds Tryd.pinned (OpenSpec.upto recPutsSpec)

/-- 'posthouselaw17.RecGets', WHERE WHAT IT READS IS OF BULK AT MOST 1048576: true; the input reads as it did. -/
def recGetsUptoRow : OpenClaim := { program := "ythfhdighniiodaadoor", sum := "7bd86421f6f70e5ec65b5684567ad3a746ae2afbce3070fbacfec9efbf7e94b3", func := "posthouse/posthouselaw17.RecGets", spec := "recGets", inPlace := ["internal/bytealg.IndexByteString", "internal/bytealg.IndexString"], unfollowed := true, recurses := true, named := ["unicode/utf8.first", "unicode/utf8.acceptRanges", "internal/bytealg.MaxLen"], apart := false, laid := [("unicode/utf8.acceptRanges", laid_unicode_utf8_acceptRanges), ("unicode/utf8.first", laid_unicode_utf8_first)], narrowed := true }
def RecGetsUptoSaid : Prop := recGetsUptoRow.holds Tryd.pinned (OpenSpec.upto recGetsSpec)

/-- 'posthouselaw07.CallPuts', WHERE WHAT IT READS IS OF BULK AT MOST 1048576: true; the input reads as it did. -/
def callPutsUptoRow : OpenClaim := { program := "ythfhdighniiodaadoor", sum := "7bd86421f6f70e5ec65b5684567ad3a746ae2afbce3070fbacfec9efbf7e94b3", func := "posthouse/posthouselaw07.CallPuts", spec := "callPuts", inPlace := ["internal/bytealg.IndexByteString", "internal/bytealg.IndexString"], unfollowed := true, recurses := true, named := ["unicode/utf8.first", "unicode/utf8.acceptRanges", "internal/bytealg.MaxLen"], apart := false, laid := [("unicode/utf8.acceptRanges", laid_unicode_utf8_acceptRanges), ("unicode/utf8.first", laid_unicode_utf8_first)], narrowed := true }
def CallPutsUptoSaid : Prop := callPutsUptoRow.holds Tryd.pinned (OpenSpec.upto callPutsSpec)

/-- 'posthouselaw07.CallGets', WHERE WHAT IT READS IS OF BULK AT MOST 1048576: true; the input reads as it did. -/
def callGetsUptoRow : OpenClaim := { program := "ythfhdighniiodaadoor", sum := "7bd86421f6f70e5ec65b5684567ad3a746ae2afbce3070fbacfec9efbf7e94b3", func := "posthouse/posthouselaw07.CallGets", spec := "callGets", inPlace := ["internal/bytealg.IndexByteString", "internal/bytealg.IndexString"], unfollowed := true, recurses := true, named := ["unicode/utf8.first", "unicode/utf8.acceptRanges", "internal/bytealg.MaxLen"], apart := false, laid := [("unicode/utf8.acceptRanges", laid_unicode_utf8_acceptRanges), ("unicode/utf8.first", laid_unicode_utf8_first)], narrowed := true }
def CallGetsUptoSaid : Prop := callGetsUptoRow.holds Tryd.pinned (OpenSpec.upto callGetsSpec)

/-- 'posthouselaw07.CallCut', WHERE WHAT IT READS IS OF BULK AT MOST 1048576: true; the input reads as it did. -/
def callCutUptoRow : OpenClaim := { program := "ythfhdighniiodaadoor", sum := "7bd86421f6f70e5ec65b5684567ad3a746ae2afbce3070fbacfec9efbf7e94b3", func := "posthouse/posthouselaw07.CallCut", spec := "callCut", inPlace := ["internal/bytealg.IndexByteString", "internal/bytealg.IndexString"], unfollowed := true, recurses := true, named := ["unicode/utf8.first", "unicode/utf8.acceptRanges", "internal/bytealg.MaxLen"], apart := false, laid := [("unicode/utf8.acceptRanges", laid_unicode_utf8_acceptRanges), ("unicode/utf8.first", laid_unicode_utf8_first)], narrowed := true }
def CallCutUptoSaid : Prop := callCutUptoRow.holds Tryd.pinned (OpenSpec.upto callCutSpec)

end Rows
end Go.Proofs.YthfhdighniiodaaDoor
