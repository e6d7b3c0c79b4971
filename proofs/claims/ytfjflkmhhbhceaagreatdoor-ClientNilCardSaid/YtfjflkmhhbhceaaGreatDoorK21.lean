/-
  Layer 22, walks: handles of nodes, by both. Conditions: machine texts; the library's tables and errors are laid.
-/
import Derived.Test.YtfjflkmhhbhceaaGreatDoorK02
import Derived.Test.YtfjflkmhhbhceaaGreatDoorK16
import Derived.Test.YtfjflkmhhbhceaaGreatDoorK05
import Derived.Test.YtfjflkmhhbhceaaGreatDoorK19
import Derived.Lib.AppendIntMem
namespace Go.Proofs.YtfjflkmhhbhceaaGreatDoor
open Go.RowKit
attribute [local go_sem ↓] Go.wp_at_zero Go.wp_at_succ
attribute [local go_sem] rowAt_ptr rowOf_drew rowOf_drewN rowOf_alloc_past rowOf_new

/-- what the library reads is laid, from here on -/
def LookLaid (w : World) : Prop := ∀ W, Below w.heap.size w W → Lib.TabIs Tryz.prog W "internal/strconv.uint64pow10" .u64 Lib.pow10Tab ∧ (∃ tp p, W.var? Tryz.prog "strconv.ErrSyntax" = some #[.iface tp p]) ∧ (∃ tp p, W.var? Tryz.prog "strconv.ErrRange" = some #[.iface tp p])
theorem LookLaid.below {w w' : World} (h : LookLaid w) (hb : Below w.heap.size w w') : LookLaid w' := fun w2 h2 => h w2 (below_then hb h2)
theorem LookLaid.here {w : World} (h : LookLaid w) : Lib.TabIs Tryz.prog w "internal/strconv.uint64pow10" .u64 Lib.pow10Tab ∧ (∃ tp p, w.var? Tryz.prog "strconv.ErrSyntax" = some #[.iface tp p]) ∧ (∃ tp p, w.var? Tryz.prog "strconv.ErrRange" = some #[.iface tp p]) := h w (Below.refl _ _)
/-- the table of tens' powers is laid, from here on -/
def TabLaid (w : World) : Prop := ∀ W, Below w.heap.size w W → Lib.TabIs Tryz.prog W "internal/strconv.uint64pow10" .u64 Lib.pow10Tab
theorem TabLaid.below {w w' : World} (h : TabLaid w) (hb : Below w.heap.size w w') : TabLaid w' := fun w2 h2 => h w2 (below_then hb h2)
theorem TabLaid.here {w : World} (h : TabLaid w) : Lib.TabIs Tryz.prog w "internal/strconv.uint64pow10" .u64 Lib.pow10Tab := h w (Below.refl _ _)
theorem LookLaid.tab {w : World} (h : LookLaid w) : TabLaid w := fun W hb => (h W hb).1
theorem itoaT_any (n : Nat) (w : World) (hn : (n : Int) ≤ 9223372036854775807) (ht : TabLaid w) : Calls Tryz.prog 124 #[.int .i64 (n : Int)] w fun e w' => e = .returned (.string (bs (Lib.decDigits n))) ∧ Below w.heap.size w w' := by
  refine (Tryz.strconv_Itoa (n : Int) (by omega) hn w ht.here).mono ?_
  rintro e w' ⟨rfl, k, os, rfl⟩
  rw [Lib.itoa_nonneg]
  exact ⟨rfl, Lib.below_grow _ _ (Nat.le_refl _) _ _⟩
/-- a node's handle -/
def genText (gen : Int) : List UInt8 := if gen < 1 then [] else Lib.decDigits gen.toNat
theorem textT_any (gen : Int) (w : World) (hg : gen ≤ 9223372036854775807) (ht : TabLaid w) : Calls Tryz.prog 85 #[.int .i64 gen] w fun e w' => e = .returned (.string (bs (genText gen))) ∧ Below w.heap.size w w' := by
  by_cases h : gen < 1
  · have HT := Lib.hid (show genText gen = [] from if_pos h)
    go_enter Tryz.func85, Tryz.ntmps85
    go_wp2
    go_ret
    exact ⟨ret_string (by rw [HT.out]), Below.refl _ _⟩
  · obtain ⟨n, rfl⟩ : ∃ n : Nat, gen = n := ⟨gen.toNat, by omega⟩
    have HT := Lib.hid (show genText (n : Int) = Lib.decDigits n by unfold genText; rw [if_neg h, Int.toNat_natCast])
    go_enter Tryz.func85, Tryz.ntmps85
    go_wp2_with fail
    refine (itoaT_any n _ hg ht).mono ?_
    rintro e w1 ⟨rfl, hb⟩
    go_wp2
    go_ret
    exact ⟨ret_string (by rw [HT.out]), hb⟩
theorem itoa22_any (n : Nat) (w : World) (hn : (n : Int) ≤ 9223372036854775807) (ht : LookLaid w) : Calls Tryz.prog 124 #[.int .i64 (n : Int)] w fun e w' => e = .returned (.string (bs (Lib.decDigits n))) ∧ Below w.heap.size w w' := itoaT_any n w hn ht.tab
theorem lookText_any (gen : Int) (w : World) (hg : gen ≤ 9223372036854775807) (ht : LookLaid w) : Calls Tryz.prog 85 #[.int .i64 gen] w fun e w' => e = .returned (.string (bs (genText gen))) ∧ Below w.heap.size w w' := textT_any gen w hg ht.tab
/-- the place of a node; -1: there is none -/
def placeOf (ns : List Nd) (gen : Int) : Int := findI (fun n : Nd => n.attr.gen == gen) ns
theorem any_next {ns : List Nd} {p : Nd → Bool} {k : Nat} (hk : k < ns.length) (hn : (ns.take k).any p = false) (h : p ns[k] = false) : (ns.take (k + 1)).any p = false := by
  rw [take_succ _ _ hk, List.any_append, hn]; simp [h]
end Go.Proofs.YtfjflkmhhbhceaaGreatDoor
