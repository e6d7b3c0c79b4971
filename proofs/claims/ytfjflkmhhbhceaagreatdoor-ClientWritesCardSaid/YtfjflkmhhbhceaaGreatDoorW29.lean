/-
  Layer 22, walks: handles of nodes, by both. Conditions: machine texts; the library's tables and errors are laid.
-/
import Derived.Test.YtfjflkmhhbhceaaGreatDoorW27
import Derived.Test.YtfjflkmhhbhceaaGreatDoorW28
import Derived.Test.YtfjflkmhhbhceaaGreatDoorW06
import Derived.Test.YtfjflkmhhbhceaaGreatDoorW21
import Derived.Lib.AppendIntMem
import Derived.Test.YtfjflkmhhbhceaaGreatDoorW03
import Derived.Test.YtfjflkmhhbhceaaGreatDoorRows
import Derived.Shelf.Vars
import Derived.MakeChecks
import Derived.Lib.LaidTab
import Derived.Stop.LaidErr
namespace Go.Proofs.YtfjflkmhhbhceaaGreatDoor
open Go.RowKit
attribute [local go_sem ↓] Go.wp_at_zero Go.wp_at_succ
attribute [local go_sem] rowAt_ptr rowOf_drew rowOf_drewN rowOf_alloc_past rowOf_new

/-- what the library reads is laid, from here on -/
def LookLaid (w : World) : Prop := ∀ W, Below w.heap.size w W → Lib.TabIs Tryz.prog W "internal/strconv.uint64pow10" .u64 Lib.pow10Tab ∧ (∃ tp p, W.var? Tryz.prog "strconv.ErrSyntax" = some #[.iface tp p]) ∧ (∃ tp p, W.var? Tryz.prog "strconv.ErrRange" = some #[.iface tp p])
theorem LookLaid.below {w w' : World} (h : LookLaid w) (hb : Below w.heap.size w w') : LookLaid w' := fun w2 h2 => h w2 (below_then hb h2)
theorem LookLaid.here {w : World} (h : LookLaid w) : Lib.TabIs Tryz.prog w "internal/strconv.uint64pow10" .u64 Lib.pow10Tab ∧ (∃ tp p, w.var? Tryz.prog "strconv.ErrSyntax" = some #[.iface tp p]) ∧ (∃ tp p, w.var? Tryz.prog "strconv.ErrRange" = some #[.iface tp p]) := h w (Below.refl _ _)
/-- the table of tens' powers is laid, from here on -/
def TabLaid (w : World) : Prop := ∀ W, Below w.heap.size w W → Lib.TabIs Tryz.prog W "internal/strconv.uint64pow10" .u64 Lib.pow10Tab
theorem TabLaid.below {w w' : World} (h : TabLaid w) (hb : Below w.heap.size w w') : TabLaid w' := fun w2 h2 => h w2 (below_then hb h2)
theorem TabLaid.here {w : World} (h : TabLaid w) : Lib.TabIs Tryz.prog w "internal/strconv.uint64pow10" .u64 Lib.pow10Tab := h w (Below.refl _ _)
theorem itoaT_any (n : Nat) (w : World) (hn : (n : Int) ≤ 9223372036854775807) (ht : TabLaid w) : Calls Tryz.prog 124 #[.int .i64 (n : Int)] w fun e w' => e = .returned (.string (bs (Lib.decDigits n))) ∧ Below w.heap.size w w' := by
  refine (Tryz.strconv_Itoa (n : Int) (by omega) hn w ht.here).mono ?_
  rintro e w' ⟨rfl, k, os, rfl⟩
  rw [Lib.itoa_nonneg]
  exact ⟨rfl, Lib.below_grow _ _ (Nat.le_refl _) _ _⟩
/-- a node's handle -/
def genText (gen : Int) : List UInt8 := if gen < 1 then [] else Lib.decDigits gen.toNat
theorem textT_any (gen : Int) (w : World) (hg : gen ≤ 9223372036854775807) (ht : TabLaid w) : Calls Tryz.prog 85 #[.int .i64 gen] w fun e w' => e = .returned (.string (bs (genText gen))) ∧ Below w.heap.size w w' := by
  by_cases h : gen < 1
  · have HT := Lib.hid (show genText gen = [] from if_pos h)
    go_enter Tryz.func85, Tryz.ntmps85
    go_wp2
    go_ret
    exact ⟨ret_string (by rw [HT.out]), Below.refl _ _⟩
  · obtain ⟨n, rfl⟩ : ∃ n : Nat, gen = n := ⟨gen.toNat, by omega⟩
    have HT := Lib.hid (show genText (n : Int) = Lib.decDigits n by unfold genText; rw [if_neg h, Int.toNat_natCast])
    go_enter Tryz.func85, Tryz.ntmps85
    go_wp2_with fail
    refine (itoaT_any n _ hg ht).mono ?_
    rintro e w1 ⟨rfl, hb⟩
    go_wp2
    go_ret
    exact ⟨ret_string (by rw [HT.out]), hb⟩
end Go.Proofs.YtfjflkmhhbhceaaGreatDoor

/-
  Layer 33: how steps, and bytes that are written, came in; the tables that are laid. No condition.
-/
namespace Go.Proofs.YtfjflkmhhbhceaaGreatDoor
open Go.ChangeShapes Go.WideShapes Go.ChangeAt Go.RowKit Go.Deep
/-- a step that came in, with the rows of its results -/
structure StepR where
  s : Step
  es : List Entry
  us : List Int
def StepR.rep (x : StepR) : RepL := ⟨x.s.r, x.es, x.us⟩
def StepR.vals (x : StepR) : List Value := x.s.vals
theorem StepR.len (x : StepR) : x.vals.length = 94 := Step.len x.s
instance : Inhabited StepR := ⟨⟨⟨0, ⟨0, 0, 0, 0, 0, 0, ⟨0, [], [], [], [], 0, 0, 0, [], ⟨⟨false, 0⟩, ⟨false, 0⟩, ⟨false, 0⟩, ⟨false, 0⟩, ⟨false, 0⟩⟩, ⟨false, 0⟩, 0, 0, []⟩⟩, ⟨0, 0, []⟩, ⟨0, [], postZ8, postZ8, ⟨⟨false, 0⟩, postZ8⟩, ⟨⟨false, 0⟩, postZ8⟩, 0, 0, false, [], 0, 0, none, 0, 0, none, 0, 0⟩, 0, 0⟩, [], []⟩⟩
section
variable {H : Type} {enc : TypeId × Value → H} {w : World} {base : Nat} {spare : Nat → Bool} {held : Bool} {fuel : Nat} {cs : List Value} {x : DataW H × List MemPlace}
end
theorem tab_of33 {W : World} {rest : List (String × DataW Unit)} (h : laidMet Tryz.prog (("internal/strconv.uint64pow10", Rows.laid_internal_strconv_uint64pow10) :: rest) W) : Lib.TabIs Tryz.prog W "internal/strconv.uint64pow10" .u64 Lib.pow10Tab := by
  have e : (Rows.laid_internal_strconv_uint64pow10 : DataW Unit) = Lib.tabData .u64 Lib.pow10Tab := by
    have e2 : Lib.pow10Tab = [1, 10, 100, 1000, 10000, 100000, 1000000, 10000000, 100000000, 1000000000, 10000000000, 100000000000, 1000000000000, 10000000000000, 100000000000000, 1000000000000000, 10000000000000000, 100000000000000000, 1000000000000000000, 10000000000000000000] := by decide +kernel
    rw [e2]; rfl
  rw [e] at h
  exact Lib.tabIs_of_head (g := 0) (by kernel_rfl) (by kernel_rfl) (Tryz.underlying269) Tryz.underlying202 (by kernel_rfl) (by kernel_rfl) h
/-- a row that lays the two tables of bits, the table of tens' powers, and others -/
theorem tabLaid_of {W : World} {a b : String × DataW Unit} {rest : List (String × DataW Unit)} (h : laidMetH Tryz.prog (a :: b :: ("internal/strconv.uint64pow10", Rows.laid_internal_strconv_uint64pow10) :: rest) W)
    (hp : ((a :: b :: ("internal/strconv.uint64pow10", (Rows.laid_internal_strconv_uint64pow10 : DataW Unit)) :: rest).all fun x => x.2.handleName?.isNone) = true) : TabLaid W := by
  rw [MakeChecks.laidMetH_plain _ _ _ hp] at h
  have ht := tab_of33 (laidMet.tail (laidMet.tail h))
  exact fun V hb => Lib.tabBelow_of_tabIs ht V hb
end Go.Proofs.YtfjflkmhhbhceaaGreatDoor
