/-
  NARROWER THAN 'FOR EVERY INPUT', by the rows' own cells (each row's printed sentence says how): FhParses: laid · FhApart: laid · FhNodes: laid · FhMakes: laid · FhReads: laid · RpcPuts: laid · RpcGets: laid · RpcCut: laid.
  DERIVED. THE GIVEN ROWS OF THIS SEAT. 8 by the template 'for every input the law returns true; each argument reads behind the call as it read before'; 0 by the template 'total and deterministic' (their statements: YtlblenojhfeboaaDoorTotals.lean).
  GIVEN WITH THE SEED: the statements are not yours to turn. If you find one false, say at which input.
  Laid BY PROGRAM, IN A SANDBOX (cutbox-rows.mjs): the forced cells as the released guide's own fill.sh prints them over the translation 54d34fa010c5b82d… (all of the seat's roots in one cut). By AI agents, Wed Nov 11 2026. No macro, syntax, notation, axiom, sorry.
-/
import Derived.Test.YtlblenojhfeboaaDoorChecked
import GoSem.PinnedTables
import GoSem.Claim
import GoSem.ClaimJoined
import GoSem.ClaimMapViews
import Derived.JoinedTies
import Derived.KernelRfl
namespace Go.Proofs.YtlblenojhfeboaaDoor
/- THE CELL 'sum', in the pinned program and in every row, IS THE sha256 OF THE DUMP (.gsa) THAT YtlblenojhfeboaaDoorProg.lean LOADS. Nothing in Lean hashes anything: it is a label: what it is worth is what the hold of that sum in a sandbox is worth. -/
noncomputable def Tryd.pinned : Pinned := { name := "ytlblenojhfeboaadoor", sum := "54d34fa010c5b82deea92112eed1140f5bb509fcf8ef0708fe37617a1d55b60f", checked := Tryd.checked }
namespace Rows
def none {H : Type} : Left H := { results := [], args := [] }

/- WHAT THE LISTED PACKAGE-LEVEL VARIABLES READ AS WHEN THE CALL BEGINS. Each datum BY PROGRAM (the guide's laid-datum.mjs) off the statement by which the dump's own 'gosem.cut.vars' lays the variable. In a bare row this is a premise. The card (YtlblenojhfeboaaDoorCards.lean) ties it to the program's text. -/
def laid_math_bits_deBruijn32tab {H : Type} : DataW H := .agg [.lit (.int .u8 0), .lit (.int .u8 1), .lit (.int .u8 28), .lit (.int .u8 2), .lit (.int .u8 29), .lit (.int .u8 14), .lit (.int .u8 24), .lit (.int .u8 3), .lit (.int .u8 30), .lit (.int .u8 22), .lit (.int .u8 20), .lit (.int .u8 15), .lit (.int .u8 25), .lit (.int .u8 17), .lit (.int .u8 4), .lit (.int .u8 8), .lit (.int .u8 31), .lit (.int .u8 27), .lit (.int .u8 13), .lit (.int .u8 23), .lit (.int .u8 21), .lit (.int .u8 19), .lit (.int .u8 16), .lit (.int .u8 7), .lit (.int .u8 26), .lit (.int .u8 12), .lit (.int .u8 18), .lit (.int .u8 6), .lit (.int .u8 11), .lit (.int .u8 5), .lit (.int .u8 10), .lit (.int .u8 9)]
def laid_math_bits_deBruijn64tab {H : Type} : DataW H := .agg [.lit (.int .u8 0), .lit (.int .u8 1), .lit (.int .u8 56), .lit (.int .u8 2), .lit (.int .u8 57), .lit (.int .u8 49), .lit (.int .u8 28), .lit (.int .u8 3), .lit (.int .u8 61), .lit (.int .u8 58), .lit (.int .u8 42), .lit (.int .u8 50), .lit (.int .u8 38), .lit (.int .u8 29), .lit (.int .u8 17), .lit (.int .u8 4), .lit (.int .u8 62), .lit (.int .u8 47), .lit (.int .u8 59), .lit (.int .u8 36), .lit (.int .u8 45), .lit (.int .u8 43), .lit (.int .u8 51), .lit (.int .u8 22), .lit (.int .u8 53), .lit (.int .u8 39), .lit (.int .u8 33), .lit (.int .u8 30), .lit (.int .u8 24), .lit (.int .u8 18), .lit (.int .u8 12), .lit (.int .u8 5), .lit (.int .u8 63), .lit (.int .u8 55), .lit (.int .u8 48), .lit (.int .u8 27), .lit (.int .u8 60), .lit (.int .u8 41), .lit (.int .u8 37), .lit (.int .u8 16), .lit (.int .u8 46), .lit (.int .u8 35), .lit (.int .u8 44), .lit (.int .u8 21), .lit (.int .u8 52), .lit (.int .u8 32), .lit (.int .u8 23), .lit (.int .u8 11), .lit (.int .u8 54), .lit (.int .u8 26), .lit (.int .u8 40), .lit (.int .u8 15), .lit (.int .u8 34), .lit (.int .u8 20), .lit (.int .u8 31), .lit (.int .u8 10), .lit (.int .u8 25), .lit (.int .u8 14), .lit (.int .u8 19), .lit (.int .u8 9), .lit (.int .u8 13), .lit (.int .u8 8), .lit (.int .u8 7), .lit (.int .u8 6)]
def laid_internal_strconv_uint64pow10 {H : Type} : DataW H := .agg [.lit (.int .u64 1), .lit (.int .u64 10), .lit (.int .u64 100), .lit (.int .u64 1000), .lit (.int .u64 10000), .lit (.int .u64 100000), .lit (.int .u64 1000000), .lit (.int .u64 10000000), .lit (.int .u64 100000000), .lit (.int .u64 1000000000), .lit (.int .u64 10000000000), .lit (.int .u64 100000000000), .lit (.int .u64 1000000000000), .lit (.int .u64 10000000000000), .lit (.int .u64 100000000000000), .lit (.int .u64 1000000000000000), .lit (.int .u64 10000000000000000), .lit (.int .u64 100000000000000000), .lit (.int .u64 1000000000000000000), .lit (.int .u64 10000000000000000000)]
def laid_posthouse_fh_none {H : Type} : DataW H := .agg [.lit (.int .i64 0), .lit (.int .i64 0), .lit (.int .i64 0)]
def laid_unicode_utf8_acceptRanges {H : Type} : DataW H := .agg [.agg [.lit (.int .u8 128), .lit (.int .u8 191)], .agg [.lit (.int .u8 160), .lit (.int .u8 191)], .agg [.lit (.int .u8 128), .lit (.int .u8 159)], .agg [.lit (.int .u8 144), .lit (.int .u8 191)], .agg [.lit (.int .u8 128), .lit (.int .u8 143)], .agg [.lit (.int .u8 0), .lit (.int .u8 0)], .agg [.lit (.int .u8 0), .lit (.int .u8 0)], .agg [.lit (.int .u8 0), .lit (.int .u8 0)], .agg [.lit (.int .u8 0), .lit (.int .u8 0)], .agg [.lit (.int .u8 0), .lit (.int .u8 0)], .agg [.lit (.int .u8 0), .lit (.int .u8 0)], .agg [.lit (.int .u8 0), .lit (.int .u8 0)], .agg [.lit (.int .u8 0), .lit (.int .u8 0)], .agg [.lit (.int .u8 0), .lit (.int .u8 0)], .agg [.lit (.int .u8 0), .lit (.int .u8 0)], .agg [.lit (.int .u8 0), .lit (.int .u8 0)]]
/-- One of Go's own tables, pinned by name: the form's constant. -/
def laid_unicode_utf8_first : DataW Unit := Go.Pinned.utf8First

/-- 'posthouselaw03.FhParses': WHATEVER THE INPUT: true; the input reads as it did. -/
def fhParsesSpec : ChangeSpec := { name := "fhParses", fn := fun _ => fun
  | [d] => { results := [.lit (.bool true)], args := [d] }
  | _ => none }
def fhParsesRow : OpenClaim := { program := "ytlblenojhfeboaadoor", sum := "54d34fa010c5b82deea92112eed1140f5bb509fcf8ef0708fe37617a1d55b60f", func := "posthouse/posthouselaw03.FhParses", spec := "fhParses", unfollowed := true, recurses := true, named := ["posthouse/fh.none", "internal/strconv.uint64pow10", "math/bits.deBruijn32tab", "math/bits.deBruijn64tab"], apart := false, laid := [("math/bits.deBruijn32tab", laid_math_bits_deBruijn32tab), ("math/bits.deBruijn64tab", laid_math_bits_deBruijn64tab), ("internal/strconv.uint64pow10", laid_internal_strconv_uint64pow10), ("posthouse/fh.none", laid_posthouse_fh_none)] }
def FhParsesSaid : Prop := fhParsesRow.holds Tryd.pinned (OpenSpec.ofChange fhParsesSpec)

/-- ITS FALSE NEIGHBOUR: 'it returns false'. Refute it at one input. -/
def fhParsesWrong : ChangeSpec := { name := "fhParses", fn := fun _ => fun
  | [d] => { results := [.lit (.bool false)], args := [d] }
  | _ => none }
def FhParsesWrongFalsely : Prop := fhParsesRow.holds Tryd.pinned (OpenSpec.ofChange fhParsesWrong)

/-- 'posthouselaw03.FhApart': WHATEVER THE INPUT: true; the input reads as it did. -/
def fhApartSpec : ChangeSpec := { name := "fhApart", fn := fun _ => fun
  | [d1, d2] => { results := [.lit (.bool true)], args := [d1, d2] }
  | _ => none }
def fhApartRow : OpenClaim := { program := "ytlblenojhfeboaadoor", sum := "54d34fa010c5b82deea92112eed1140f5bb509fcf8ef0708fe37617a1d55b60f", func := "posthouse/posthouselaw03.FhApart", spec := "fhApart", unfollowed := true, recurses := true, named := ["posthouse/fh.none", "internal/strconv.uint64pow10", "math/bits.deBruijn32tab", "math/bits.deBruijn64tab"], apart := false, laid := [("math/bits.deBruijn32tab", laid_math_bits_deBruijn32tab), ("math/bits.deBruijn64tab", laid_math_bits_deBruijn64tab), ("internal/strconv.uint64pow10", laid_internal_strconv_uint64pow10), ("posthouse/fh.none", laid_posthouse_fh_none)] }
def FhApartSaid : Prop := fhApartRow.holds Tryd.pinned (OpenSpec.ofChange fhApartSpec)

/-- ITS FALSE NEIGHBOUR: 'it returns false'. Refute it at one input. -/
def fhApartWrong : ChangeSpec := { name := "fhApart", fn := fun _ => fun
  | [d1, d2] => { results := [.lit (.bool false)], args := [d1, d2] }
  | _ => none }
def FhApartWrongFalsely : Prop := fhApartRow.holds Tryd.pinned (OpenSpec.ofChange fhApartWrong)

/-- 'posthouselaw03.FhNodes': WHATEVER THE INPUT: true; the input reads as it did. -/
def fhNodesSpec : ChangeSpec := { name := "fhNodes", fn := fun _ => fun
  | [d1, d2] => { results := [.lit (.bool true)], args := [d1, d2] }
  | _ => none }
def fhNodesRow : OpenClaim := { program := "ytlblenojhfeboaadoor", sum := "54d34fa010c5b82deea92112eed1140f5bb509fcf8ef0708fe37617a1d55b60f", func := "posthouse/posthouselaw03.FhNodes", spec := "fhNodes", unfollowed := true, recurses := true, named := ["posthouse/fh.none", "internal/strconv.uint64pow10", "math/bits.deBruijn32tab", "math/bits.deBruijn64tab"], apart := false, laid := [("math/bits.deBruijn32tab", laid_math_bits_deBruijn32tab), ("math/bits.deBruijn64tab", laid_math_bits_deBruijn64tab), ("internal/strconv.uint64pow10", laid_internal_strconv_uint64pow10), ("posthouse/fh.none", laid_posthouse_fh_none)] }
def FhNodesSaid : Prop := fhNodesRow.holds Tryd.pinned (OpenSpec.ofChange fhNodesSpec)

/-- ITS FALSE NEIGHBOUR: 'it returns false'. Refute it at one input. -/
def fhNodesWrong : ChangeSpec := { name := "fhNodes", fn := fun _ => fun
  | [d1, d2] => { results := [.lit (.bool false)], args := [d1, d2] }
  | _ => none }
def FhNodesWrongFalsely : Prop := fhNodesRow.holds Tryd.pinned (OpenSpec.ofChange fhNodesWrong)

/-- 'posthouselaw03.FhMakes': WHATEVER THE INPUT: true; the input reads as it did. -/
def fhMakesSpec : ChangeSpec := { name := "fhMakes", fn := fun _ => fun
  | [d] => { results := [.lit (.bool true)], args := [d] }
  | _ => none }
def fhMakesRow : OpenClaim := { program := "ytlblenojhfeboaadoor", sum := "54d34fa010c5b82deea92112eed1140f5bb509fcf8ef0708fe37617a1d55b60f", func := "posthouse/posthouselaw03.FhMakes", spec := "fhMakes", inPlace := ["internal/bytealg.IndexByteString", "internal/bytealg.IndexString"], unfollowed := true, recurses := true, named := ["posthouse/fh.none", "internal/strconv.uint64pow10", "math/bits.deBruijn32tab", "math/bits.deBruijn64tab", "internal/bytealg.MaxLen"], apart := false, laid := [("math/bits.deBruijn32tab", laid_math_bits_deBruijn32tab), ("math/bits.deBruijn64tab", laid_math_bits_deBruijn64tab), ("internal/strconv.uint64pow10", laid_internal_strconv_uint64pow10), ("posthouse/fh.none", laid_posthouse_fh_none)] }
def FhMakesSaid : Prop := fhMakesRow.holds Tryd.pinned (OpenSpec.ofChange fhMakesSpec)

/-- ITS FALSE NEIGHBOUR: 'it returns false'. Refute it at one input. -/
def fhMakesWrong : ChangeSpec := { name := "fhMakes", fn := fun _ => fun
  | [d] => { results := [.lit (.bool false)], args := [d] }
  | _ => none }
def FhMakesWrongFalsely : Prop := fhMakesRow.holds Tryd.pinned (OpenSpec.ofChange fhMakesWrong)

/-- 'posthouselaw03.FhReads': WHATEVER THE INPUT: true; the input reads as it did. -/
def fhReadsSpec : ChangeSpec := { name := "fhReads", fn := fun _ => fun
  | [d] => { results := [.lit (.bool true)], args := [d] }
  | _ => none }
def fhReadsRow : OpenClaim := { program := "ytlblenojhfeboaadoor", sum := "54d34fa010c5b82deea92112eed1140f5bb509fcf8ef0708fe37617a1d55b60f", func := "posthouse/posthouselaw03.FhReads", spec := "fhReads", inPlace := ["internal/bytealg.IndexByteString", "internal/bytealg.IndexString"], unfollowed := true, recurses := true, named := ["posthouse/fh.none", "internal/strconv.uint64pow10", "math/bits.deBruijn32tab", "math/bits.deBruijn64tab", "internal/bytealg.MaxLen"], apart := false, laid := [("math/bits.deBruijn32tab", laid_math_bits_deBruijn32tab), ("math/bits.deBruijn64tab", laid_math_bits_deBruijn64tab), ("internal/strconv.uint64pow10", laid_internal_strconv_uint64pow10), ("posthouse/fh.none", laid_posthouse_fh_none)] }
def FhReadsSaid : Prop := fhReadsRow.holds Tryd.pinned (OpenSpec.ofChange fhReadsSpec)

/-- ITS FALSE NEIGHBOUR: 'it returns false'. Refute it at one input. -/
def fhReadsWrong : ChangeSpec := { name := "fhReads", fn := fun _ => fun
  | [d] => { results := [.lit (.bool false)], args := [d] }
  | _ => none }
def FhReadsWrongFalsely : Prop := fhReadsRow.holds Tryd.pinned (OpenSpec.ofChange fhReadsWrong)

/-- 'posthouselaw09.RpcPuts': WHATEVER THE INPUT: true; the input reads as it did. -/
def rpcPutsSpec : ChangeSpec := { name := "rpcPuts", fn := fun _ => fun
  | [d] => { results := [.lit (.bool true)], args := [d] }
  | _ => none }
def rpcPutsRow : OpenClaim := { program := "ytlblenojhfeboaadoor", sum := "54d34fa010c5b82deea92112eed1140f5bb509fcf8ef0708fe37617a1d55b60f", func := "posthouse/posthouselaw09.RpcPuts", spec := "rpcPuts", inPlace := ["internal/bytealg.IndexByteString", "internal/bytealg.IndexString"], unfollowed := true, recurses := true, named := ["unicode/utf8.first", "unicode/utf8.acceptRanges", "internal/bytealg.MaxLen"], apart := false, laid := [("unicode/utf8.acceptRanges", laid_unicode_utf8_acceptRanges), ("unicode/utf8.first", laid_unicode_utf8_first)] }
def RpcPutsSaid : Prop := rpcPutsRow.holds Tryd.pinned (OpenSpec.ofChange rpcPutsSpec)

/-- ITS FALSE NEIGHBOUR: 'it returns false'. Refute it at one input. -/
def rpcPutsWrong : ChangeSpec := { name := "rpcPuts", fn := fun _ => fun
  | [d] => { results := [.lit (.bool false)], args := [d] }
  | _ => none }
def RpcPutsWrongFalsely : Prop := rpcPutsRow.holds Tryd.pinned (OpenSpec.ofChange rpcPutsWrong)

/-- 'posthouselaw09.RpcGets': WHATEVER THE INPUT: true; the input reads as it did. -/
def rpcGetsSpec : ChangeSpec := { name := "rpcGets", fn := fun _ => fun
  | [d] => { results := [.lit (.bool true)], args := [d] }
  | _ => none }
def rpcGetsRow : OpenClaim := { program := "ytlblenojhfeboaadoor", sum := "54d34fa010c5b82deea92112eed1140f5bb509fcf8ef0708fe37617a1d55b60f", func := "posthouse/posthouselaw09.RpcGets", spec := "rpcGets", inPlace := ["internal/bytealg.IndexByteString", "internal/bytealg.IndexString"], unfollowed := true, recurses := true, named := ["unicode/utf8.first", "unicode/utf8.acceptRanges", "internal/bytealg.MaxLen"], apart := false, laid := [("unicode/utf8.acceptRanges", laid_unicode_utf8_acceptRanges), ("unicode/utf8.first", laid_unicode_utf8_first)] }
def RpcGetsSaid : Prop := rpcGetsRow.holds Tryd.pinned (OpenSpec.ofChange rpcGetsSpec)

/-- ITS FALSE NEIGHBOUR: 'it returns false'. Refute it at one input. -/
def rpcGetsWrong : ChangeSpec := { name := "rpcGets", fn := fun _ => fun
  | [d] => { results := [.lit (.bool false)], args := [d] }
  | _ => none }
def RpcGetsWrongFalsely : Prop := rpcGetsRow.holds Tryd.pinned (OpenSpec.ofChange rpcGetsWrong)

/-- 'posthouselaw09.RpcCut': WHATEVER THE INPUT: true; the input reads as it did. -/
def rpcCutSpec : ChangeSpec := { name := "rpcCut", fn := fun _ => fun
  | [d1, d2] => { results := [.lit (.bool true)], args := [d1, d2] }
  | _ => none }
def rpcCutRow : OpenClaim := { program := "ytlblenojhfeboaadoor", sum := "54d34fa010c5b82deea92112eed1140f5bb509fcf8ef0708fe37617a1d55b60f", func := "posthouse/posthouselaw09.RpcCut", spec := "rpcCut", inPlace := ["internal/bytealg.IndexByteString", "internal/bytealg.IndexString"], unfollowed := true, recurses := true, named := ["unicode/utf8.first", "unicode/utf8.acceptRanges", "internal/bytealg.MaxLen"], apart := false, laid := [("unicode/utf8.acceptRanges", laid_unicode_utf8_acceptRanges), ("unicode/utf8.first", laid_unicode_utf8_first)] }
def RpcCutSaid : Prop := rpcCutRow.holds Tryd.pinned (OpenSpec.ofChange rpcCutSpec)

/-- ITS FALSE NEIGHBOUR: 'it returns false'. Refute it at one input. -/
def rpcCutWrong : ChangeSpec := { name := "rpcCut", fn := fun _ => fun
  | [d1, d2] => { results := [.lit (.bool false)], args := [d1, d2] }
  | _ => none }
def RpcCutWrongFalsely : Prop := rpcCutRow.holds Tryd.pinned (OpenSpec.ofChange rpcCutWrong)

/- THE SECOND FORM. 'bulk': how many values and letters a reading holds, each counted each time it is reached (what is shared counts as often as it is met; a slice's spare places count too). A statement '..UptoSaid' is the law's where the arguments, and the package variables that the reading takes, are together of bulk at most 1048576: NARROWER than '..Said'. Prove '..Said' where nothing that the law and all that it calls make is longer than what came in: it says more and counts as full. Else prove '..UptoSaid'. A law counts once. -/
mutual
def uptoBulk {H : Type} : DataW H → Nat
  | .lit (.string bytes) => bytes.length + 1
  | .lit _ => 1
  | .nil => 1
  | .ptr d => uptoBulk d + 1
  | .slice elems spare => uptoBulkAll elems + uptoBulkAll spare + 1
  | .agg parts => uptoBulkAll parts + 1
  | .iface _ d => uptoBulk d + 1
  | .map entries => uptoBulkEntries entries + 1
  | .held _ => 1
def uptoBulkAll {H : Type} : List (DataW H) → Nat
  | [] => 0
  | d :: r => uptoBulk d + uptoBulkAll r
def uptoBulkEntries {H : Type} : List (Lit × DataW H) → Nat
  | [] => 0
  | x :: r => uptoBulkEntry x + uptoBulkEntries r
def uptoBulkEntry {H : Type} : Lit × DataW H → Nat
  | (.string bytes, d) => bytes.length + uptoBulk d + 1
  | (_, d) => uptoBulk d + 1
 end
def uptoSmall : (H : Type) → List (DataW H) → Bool := fun _ ds => decide (uptoBulkAll ds ≤ 1048576)
def OpenSpec.upto (s : _root_.Go.ChangeSpec) : _root_.Go.OpenSpec := { _root_.Go.OpenSpec.ofChange s with cond := some uptoSmall }

/-- 'posthouselaw03.FhParses', WHERE WHAT IT READS IS OF BULK AT MOST 1048576: true; the input reads as it did. -/
def fhParsesUptoRow : OpenClaim := { program := "ytlblenojhfeboaadoor", sum := "54d34fa010c5b82deea92112eed1140f5bb509fcf8ef0708fe37617a1d55b60f", func := "posthouse/posthouselaw03.FhParses", spec := "fhParses", unfollowed := true, recurses := true, named := ["posthouse/fh.none", "internal/strconv.uint64pow10", "math/bits.deBruijn32tab", "math/bits.deBruijn64tab"], apart := false, laid := [("math/bits.deBruijn32tab", laid_math_bits_deBruijn32tab), ("math/bits.deBruijn64tab", laid_math_bits_deBruijn64tab), ("internal/strconv.uint64pow10", laid_internal_strconv_uint64pow10), ("posthouse/fh.none", laid_posthouse_fh_none)], narrowed := true }
def FhParsesUptoSaid : Prop := fhParsesUptoRow.holds Tryd.pinned (OpenSpec.upto fhParsesSpec)

/-- 'posthouselaw03.FhApart', WHERE WHAT IT READS IS OF BULK AT MOST 1048576: true; the input reads as it did. -/
def fhApartUptoRow : OpenClaim := { program := "ytlblenojhfeboaadoor", sum := "54d34fa010c5b82deea92112eed1140f5bb509fcf8ef0708fe37617a1d55b60f", func := "posthouse/posthouselaw03.FhApart", spec := "fhApart", unfollowed := true, recurses := true, named := ["posthouse/fh.none", "internal/strconv.uint64pow10", "math/bits.deBruijn32tab", "math/bits.deBruijn64tab"], apart := false, laid := [("math/bits.deBruijn32tab", laid_math_bits_deBruijn32tab), ("math/bits.deBruijn64tab", laid_math_bits_deBruijn64tab), ("internal/strconv.uint64pow10", laid_internal_strconv_uint64pow10), ("posthouse/fh.none", laid_posthouse_fh_none)], narrowed := true }
def FhApartUptoSaid : Prop := fhApartUptoRow.holds Tryd.pinned (OpenSpec.upto fhApartSpec)

/-- 'posthouselaw03.FhNodes', WHERE WHAT IT READS IS OF BULK AT MOST 1048576: true; the input reads as it did. -/
def fhNodesUptoRow : OpenClaim := { program := "ytlblenojhfeboaadoor", sum := "54d34fa010c5b82deea92112eed1140f5bb509fcf8ef0708fe37617a1d55b60f", func := "posthouse/posthouselaw03.FhNodes", spec := "fhNodes", unfollowed := true, recurses := true, named := ["posthouse/fh.none", "internal/strconv.uint64pow10", "math/bits.deBruijn32tab", "math/bits.deBruijn64tab"], apart := false, laid := [("math/bits.deBruijn32tab", laid_math_bits_deBruijn32tab), ("math/bits.deBruijn64tab", laid_math_bits_deBruijn64tab), ("internal/strconv.uint64pow10", laid_internal_strconv_uint64pow10), ("posthouse/fh.none", laid_posthouse_fh_none)], narrowed := true }
def FhNodesUptoSaid : Prop := fhNodesUptoRow.holds Tryd.pinned (OpenSpec.upto fhNodesSpec)

/-- 'posthouselaw03.FhMakes', WHERE WHAT IT READS IS OF BULK AT MOST 1048576: true; the input reads as it did. -/
def fhMakesUptoRow : OpenClaim := { program := "ytlblenojhfeboaadoor", sum := "54d34fa010c5b82deea92112eed1140f5bb509fcf8ef0708fe37617a1d55b60f", func := "posthouse/posthouselaw03.FhMakes", spec := "fhMakes", inPlace := ["internal/bytealg.IndexByteString", "internal/bytealg.IndexString"], unfollowed := true, recurses := true, named := ["posthouse/fh.none", "internal/strconv.uint64pow10", "math/bits.deBruijn32tab", "math/bits.deBruijn64tab", "internal/bytealg.MaxLen"], apart := false, laid := [("math/bits.deBruijn32tab", laid_math_bits_deBruijn32tab), ("math/bits.deBruijn64tab", laid_math_bits_deBruijn64tab), ("internal/strconv.uint64pow10", laid_internal_strconv_uint64pow10), ("posthouse/fh.none", laid_posthouse_fh_none)], narrowed := true }
def FhMakesUptoSaid : Prop := fhMakesUptoRow.holds Tryd.pinned (OpenSpec.upto fhMakesSpec)

/-- 'posthouselaw03.FhReads', WHERE WHAT IT READS IS OF BULK AT MOST 1048576: true; the input reads as it did. -/
def fhReadsUptoRow : OpenClaim := { program := "ytlblenojhfeboaadoor", sum := "54d34fa010c5b82deea92112eed1140f5bb509fcf8ef0708fe37617a1d55b60f", func := "posthouse/posthouselaw03.FhReads", spec := "fhReads", inPlace := ["internal/bytealg.IndexByteString", "internal/bytealg.IndexString"], unfollowed := true, recurses := true, named := ["posthouse/fh.none", "internal/strconv.uint64pow10", "math/bits.deBruijn32tab", "math/bits.deBruijn64tab", "internal/bytealg.MaxLen"], apart := false, laid := [("math/bits.deBruijn32tab", laid_math_bits_deBruijn32tab), ("math/bits.deBruijn64tab", laid_math_bits_deBruijn64tab), ("internal/strconv.uint64pow10", laid_internal_strconv_uint64pow10), ("posthouse/fh.none", laid_posthouse_fh_none)], narrowed := true }
def FhReadsUptoSaid : Prop := fhReadsUptoRow.holds Tryd.pinned (OpenSpec.upto fhReadsSpec)

/-- 'posthouselaw09.RpcPuts', WHERE WHAT IT READS IS OF BULK AT MOST 1048576: true; the input reads as it did. -/
def rpcPutsUptoRow : OpenClaim := { program := "ytlblenojhfeboaadoor", sum := "54d34fa010c5b82deea92112eed1140f5bb509fcf8ef0708fe37617a1d55b60f", func := "posthouse/posthouselaw09.RpcPuts", spec := "rpcPuts", inPlace := ["internal/bytealg.IndexByteString", "internal/bytealg.IndexString"], unfollowed := true, recurses := true, named := ["unicode/utf8.first", "unicode/utf8.acceptRanges", "internal/bytealg.MaxLen"], apart := false, laid := [("unicode/utf8.acceptRanges", laid_unicode_utf8_acceptRanges), ("unicode/utf8.first", laid_unicode_utf8_first)], narrowed := true }
def RpcPutsUptoSaid : Prop := rpcPutsUptoRow.holds Tryd.pinned (OpenSpec.upto rpcPutsSpec)

/-- 'posthouselaw09.RpcGets', WHERE WHAT IT READS IS OF BULK AT MOST 1048576: true; the input reads as it did. -/
def rpcGetsUptoRow : OpenClaim := { program := "ytlblenojhfeboaadoor", sum := "54d34fa010c5b82deea92112eed1140f5bb509fcf8ef0708fe37617a1d55b60f", func := "posthouse/posthouselaw09.RpcGets", spec := "rpcGets", inPlace := ["internal/bytealg.IndexByteString", "internal/bytealg.IndexString"], unfollowed := true, recurses := true, named := ["unicode/utf8.first", "unicode/utf8.acceptRanges", "internal/bytealg.MaxLen"], apart := false, laid := [("unicode/utf8.acceptRanges", laid_unicode_utf8_acceptRanges), ("unicode/utf8.first", laid_unicode_utf8_first)], narrowed := true }
def RpcGetsUptoSaid : Prop := rpcGetsUptoRow.holds Tryd.pinned (OpenSpec.upto rpcGetsSpec)

/-- 'posthouselaw09.RpcCut', WHERE WHAT IT READS IS OF BULK AT MOST 1048576: true; the input reads as it did. -/
def rpcCutUptoRow : OpenClaim := { program := "ytlblenojhfeboaadoor", sum := "54d34fa010c5b82deea92112eed1140f5bb509fcf8ef0708fe37617a1d55b60f", func := "posthouse/posthouselaw09.RpcCut", spec := "rpcCut", inPlace := ["internal/bytealg.IndexByteString", "internal/bytealg.IndexString"], unfollowed := true, recurses := true, named := ["unicode/utf8.first", "unicode/utf8.acceptRanges", "internal/bytealg.MaxLen"], apart := false, laid := [("unicode/utf8.acceptRanges", laid_unicode_utf8_acceptRanges), ("unicode/utf8.first", laid_unicode_utf8_first)], narrowed := true }
def RpcCutUptoSaid : Prop := rpcCutUptoRow.holds Tryd.pinned (OpenSpec.upto rpcCutSpec)

end Rows
end Go.Proofs.YtlblenojhfeboaaDoor
