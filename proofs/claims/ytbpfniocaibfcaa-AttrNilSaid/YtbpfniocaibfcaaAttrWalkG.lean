/-
  Layer 5, walks: the fixed calls; the laws AttrApplies and AttrSets. No condition.
-/
import Derived.Test.YtbpfniocaibfcaaAttrWalkF
import Derived.Test.YtbpfniocaibfcaaStructEq
namespace Go.Proofs.Ytbpfniocaibfcaa
open Go.RowKit
attribute [local go_sem ↓] Go.wp_at_zero Go.wp_at_succ ldOpt ldSet ldAttr

attribute [local go_sem] rowAt_ptr rowOf_drew rowOf_drewN rowOf_alloc_past Opt.len Sett.len Attr.len

def set0 : Sett := ⟨⟨false, 0⟩, ⟨false, 0⟩, ⟨false, 0⟩, ⟨false, 0⟩, ⟨false, 0⟩⟩
def setZ : Sett := ⟨⟨false, 0⟩, ⟨false, 0⟩, ⟨false, 0⟩, ⟨true, 0⟩, ⟨false, 0⟩⟩
def attr0 : Attr := ⟨0, 0, 0, 0, 0, 0, 0, 0, 0, 0⟩

set_option maxHeartbeats 3200000 in
theorem known5_any (w : World) : Calls Try.prog 18 #[] w fun e w' => e = .returned (.bool true) ∧ Below w.heap.size w w' := by
  have hW0 := Wr.fresh w
  have hB0 : Below w.heap.size w (w.alloc (.cells #[.slice none 0 0] 30)) := (Below.refl _ _).alloc (Nat.le_refl _) _
  go_enter Try.func18, Try.ntmps18
  go_wp2_with fail
  generalize w.alloc (.cells #[.slice none 0 0] 30) = w0 at *
  refine (putSet_any w.heap.size _ [] set0 _ hW0 (by rfl) ⟨rfl, rfl, rfl, rfl, rfl⟩ (by decide)).mono ?_
  rintro e w1 ⟨rfl, sv1, hW1, hr1, hT1⟩
  have hB1 := hB0.trans (Moved.below (B := w.heap.size) ⟨sv1, hW1, hr1, hT1⟩ (Nat.le_refl _) (by simp [Value.ownBlock]) hB0.size)
  have hL : ([] ++ set0.bytes).length = 20 := by rfl
  generalize [] ++ set0.bytes = l1 at *
  have HL := Lib.hid hL
  clear hT1 hr1 hB0 hW0 hL
  go_wp2_with fail
  refine (apply_any attr0 setZ 9 _).mono ?_
  rintro e w2 ⟨rfl, hb⟩
  have hW2 := hW1.stays hb
  have hB2 := below_then hB1 hb
  have c8 := range_new w2 (attr0.applied setZ 9).vals 40 8 _ rfl
  have c9 := range_new w2 (attr0.applied setZ 9).vals 40 9 _ rfl
  have hW3 := hW2.alloc (.cells (attr0.applied setZ 9).vals.toArray 40)
  have hB3 := hB2.alloc hB2.size (.cells (attr0.applied setZ 9).vals.toArray 40)
  clear hW1 hW2 hB1 hB2 hb
  go_wp2_with (first | (refine wpList_new_struct (by rfl) (by rfl) 40 (by rfl) _ _ (by rfl) (attr0.applied setZ 9).vals infoAttr (by rfl) (by rfl) (Attr.one _) (by rfl) (by rfl) ?_) | fail)
  refine (wLen_any _ sv1 _ _ hW3).mono ?_
  rintro e w4 ⟨he, rfl⟩
  rw [HL.out] at he
  subst he
  go_wp2
  go_ret
  exact ⟨rfl, hB3⟩
theorem guardAttr : Try.prog.eqGuardType Try.prog.depth 40 = false := by kernel_rfl
theorem leafsAttr : leafs Try.prog 8 40 = some (List.replicate 10 (.i .i64)) := by kernel_rfl
theorem fitsAttr (a : Attr) : fits (List.replicate 10 (.i .i64)) a.vals = true := by rfl
theorem eqAttr (a : Attr) (w : World) : (binOp .eql 40 (.agg a.vals.toArray) (.agg a.vals.toArray)).run Try.prog w = .ok (.bool true) w := eql_same leafsAttr (by kernel_rfl) w _ _ (fitsAttr a) rfl
attribute [local go_sem ↓] eqAttr

attribute [local go_sem] guardAttr

set_option maxHeartbeats 1600000 in
theorem attrApplies_any (a : Attr) (s : Sett) (now : Int) (w : World) :
    Calls Try.prog 5 #[.agg a.vals.toArray, .agg s.vals.toArray, .int .i64 now] w fun e w' => e = .returned (.bool true) ∧ Below w.heap.size w w' := by
  have b0 := Blk.new w 40 a.vals
  have B0 : Below w.heap.size w (w.alloc (.cells a.vals.toArray 40)) := (Below.refl _ _).alloc (Nat.le_refl _) _
  have e0 : (w.alloc (.cells a.vals.toArray 40)).heap.size = w.heap.size + 1 := by simp
  have b1 := Blk.new (w.alloc (.cells a.vals.toArray 40)) 44 s.vals
  have a1 := b0.alloc (.cells s.vals.toArray 44)
  have B1 := B0.alloc B0.size (.cells s.vals.toArray 44)
  rw [e0] at b1
  have hz1 : w.heap.size < ((w.alloc (.cells a.vals.toArray 40)).alloc (.cells s.vals.toArray 44)).heap.size := by simp; omega
  have hz2 : w.heap.size + 1 < ((w.alloc (.cells a.vals.toArray 40)).alloc (.cells s.vals.toArray 44)).heap.size := by simp
  have ra : rowOf ((w.alloc (.cells a.vals.toArray 40)).alloc (.cells s.vals.toArray 44)) w.heap.size 0 10 = some a.vals.toArray := a1.row 0 10 (by simp [Attr.len])
  have rs : rowOf ((w.alloc (.cells a.vals.toArray 40)).alloc (.cells s.vals.toArray 44)) (w.heap.size + 1) 0 10 = some s.vals.toArray := b1.row 0 10 (by simp [Sett.len])
  clear b0 b1 a1 B0 e0
  go_enter Try.func5, Try.ntmps5
  go_wp2_with fail
  generalize (w.alloc (.cells a.vals.toArray 40)).alloc (.cells s.vals.toArray 44) = w1 at *
  go_region_held3 (fun W => Stb w1 W) (first | exact Stb.start | assumption | (exact Stb.alloc (by assumption) _) | (exact Stb.call (by assumption) (by assumption))) (first
    | (go_at_call 16; refine (apply_any a s now _).mono ?_; rintro e w2 ⟨rfl, hb⟩)
    | (go_at_call 17; refine (refApply_any a s now _).mono ?_; rintro e w3 ⟨rfl, hb⟩)
    | (go_at_call 18; refine (known5_any _).mono ?_; rintro e w4 ⟨rfl, hb⟩))
  have hs := (by assumption : Stb w1 w4)
  go_wp2
  go_ret
  exact ⟨rfl, B1.trans (hs.below.mono B1.size)⟩
set_option maxHeartbeats 3200000 in
theorem attrSets_any (s : Sett) (w : World) (hg : s.good) :
    Calls Try.prog 6 #[.agg s.vals.toArray] w fun e w' => e = .returned (.bool true) ∧ Below w.heap.size w w' := by
  have b0 := Blk.new w 44 s.vals
  have B0 : Below w.heap.size w (w.alloc (.cells s.vals.toArray 44)) := (Below.refl _ _).alloc (Nat.le_refl _) _
  have e0 : (w.alloc (.cells s.vals.toArray 44)).heap.size = w.heap.size + 1 := by simp
  have W1 := Wr.fresh (w.alloc (.cells s.vals.toArray 44))
  have b1 := b0.alloc (.cells #[.slice none 0 0] 30)
  have B1 := B0.alloc B0.size (.cells #[.slice none 0 0] 30)
  rw [e0] at W1
  have hz1 : w.heap.size < ((w.alloc (.cells s.vals.toArray 44)).alloc (.cells #[.slice none 0 0] 30)).heap.size := by simp; omega
  have rs : rowOf ((w.alloc (.cells s.vals.toArray 44)).alloc (.cells #[.slice none 0 0] 30)) w.heap.size 0 10 = some s.vals.toArray := b1.row 0 10 (by simp [Sett.len])
  clear b0 B0 e0
  cases hk : s.ok
  case false =>
    go_enter Try.func6, Try.ntmps6
    go_wp2_with fail
    generalize (w.alloc (.cells s.vals.toArray 44)).alloc (.cells #[.slice none 0 0] 30) = w1 at *
    have HK := Lib.hid hk
    clear hk
    refine (putSet_bad _ s _ HK.out).mono ?_
    rintro e w2 ⟨rfl, hb⟩
    have W2 := W1.stays hb
    have b2 := b1.stays hb
    have B2 := below_then B1 hb
    have rs : rowOf w2 w.heap.size 0 10 = some s.vals.toArray := b2.row 0 10 (by simp [Sett.len])
    have hz2 : w.heap.size < w2.heap.size := b2.lt
    clear hb W1 b1 B1
    go_wp2_with fail
    go_region_held3 (fun W => Stb w2 W) (first | exact Stb.start | assumption | (exact Stb.alloc (by assumption) _) | (exact Stb.call (by assumption) (by assumption))) (first
      | (go_at_call 21; refine (refSet_any s _).mono ?_; rintro e w3 ⟨he, hb⟩; rw [HK.out] at he; subst he)
      | (go_at_call 20; refine (formed_any false _).mono ?_; rintro e w3 ⟨rfl, rfl⟩)
      | (go_at_call 22; refine (checkSet_any s _).mono ?_; rintro e w4 ⟨he, hb⟩; rw [HK.out] at he; subst he)
      | (go_at_call 23; refine (empty_any s _).mono ?_; rintro e w5 ⟨rfl, hb⟩)
      | (go_at_call 24; refine (refEmpty_any s _).mono ?_; rintro e w6 ⟨rfl, hb⟩))
    have hs := (by assumption : Stb w2 w6)
    have W3 := W2.stays hs.below
    have B3 := below_then B2 hs.below
    clear hs W2 b2 rs
    go_wp2_with fail
    refine (wLen_any _ _ _ _ W3).mono ?_
    rintro e w7 ⟨rfl, rfl⟩
    go_wp2_with fail
    refine (known5_any _).mono ?_
    rintro e w8 ⟨rfl, hb⟩
    go_wp2
    go_ret
    exact ⟨rfl, below_then B3 hb⟩
  case true =>
    go_enter Try.func6, Try.ntmps6
    go_wp2_with fail
    generalize (w.alloc (.cells s.vals.toArray 44)).alloc (.cells #[.slice none 0 0] 30) = w1 at *
    have HK := Lib.hid hk
    clear hk
    refine (putSet_any _ _ [] s _ W1 HK.out hg (by decide)).mono ?_
    rintro e w2 ⟨rfl, sv2, W2, r2, T2⟩
    have B2 := B1.trans (Moved.below (B := w.heap.size) ⟨sv2, W2, r2, T2⟩ (by omega) (by simp [Value.ownBlock]) B1.size)
    have b2 := W1.keeps b1 (by decide) (by decide) T2
    have rs : rowOf w2 w.heap.size 0 10 = some s.vals.toArray := b2.row 0 10 (by simp [Sett.len])
    have hz2 : w.heap.size < w2.heap.size := b2.lt
    rw [List.nil_append] at W2
    clear r2 T2 W1 b1 B1
    go_wp2_with fail
    go_region_held3 (fun W => Stb w2 W) (first | exact Stb.start | assumption | (exact Stb.alloc (by assumption) _) | (exact Stb.call (by assumption) (by assumption))) (first
      | (go_at_call 21; refine (refSet_any s _).mono ?_; rintro e w3 ⟨he, hb⟩; rw [HK.out] at he; subst he)
      | (go_at_call 20; refine (formed_any true _).mono ?_; rintro e w3 ⟨rfl, rfl⟩)
      | (go_at_call 22; refine (checkSet_any s _).mono ?_; rintro e w4 ⟨he, hb⟩; rw [HK.out] at he; subst he)
      | (go_at_call 23; refine (empty_any s _).mono ?_; rintro e w5 ⟨rfl, hb⟩)
      | (go_at_call 24; refine (refEmpty_any s _).mono ?_; rintro e w6 ⟨rfl, hb⟩))
    have hs := (by assumption : Stb w2 w6)
    have W3 := W2.stays hs.below
    have B3 := below_then B2 hs.below
    have b3 := b2.stays hs.below
    have hz3 : w.heap.size < w6.heap.size := b3.lt
    clear W2 b2 b3
    go_wp2_with fail
    go_region_held3 (fun W => Stb w6 W) (first | exact Stb.start | assumption | (exact Stb.alloc (by assumption) _) | (exact Stb.call (by assumption) (by assumption))) (first
      | (go_at_call 14; refine (wText_any _ _ _ _ (W3.stays (by assumption : Stb w6 _).below)).mono ?_; rintro e w7 ⟨rfl, rfl⟩)
      | (go_at_call 25; refine (setBytes_any s _ HK.out hg).mono ?_; rintro e w8 ⟨rfl, hb⟩)
      | (go_at_call 18; refine (known5_any _).mono ?_; rintro e w9 ⟨rfl, hb⟩))
    have hs := (by assumption : Stb w6 w9)
    go_wp2
    go_ret
    exact ⟨rfl, below_then B3 hs.below⟩
end Go.Proofs.Ytbpfniocaibfcaa
