/-
  Layer 17, walks: the field of a letter is taken (written by wip/tools/genrectake.py). Conditions: a reader and a change at blocks of their own; machine texts.
-/
import Derived.Test.YthfhdighniiodaaDoorR13
import Derived.Test.YthfhdighniiodaaDoorR17
import Derived.Test.YthfhdighniiodaaDoorR19
namespace Go.Proofs.YthfhdighniiodaaDoor
open Go.RowKit
attribute [local go_sem ↓] Go.wp_at_zero Go.wp_at_succ
attribute [local go_sem] rowAt_ptr rowOf_drew rowOf_drewN rowOf_alloc_past rowOf_new
attribute [local go_sem ↓] ldAttrR

theorem infoAttrM : (Tryd.prog.info? 42).map (fun i => (i.zero, i.size)) = some (some (.agg attrZ.vals.toArray), 10) := by kernel_rfl
/-- the field of a letter is taken -/
def rTk (c : Nat) (z : Change) (r : Rs) : Change × Rs :=
  if c = 101 then ({ z with epoch := (rU32 r).1 }, (rU32 r).2) else
  if c = 115 then ({ z with serial := (rU64 r).1 }, (rU64 r).2) else
  if c = 117 then ({ z with up := (rOpaque 64 r).1 }, (rOpaque 64 r).2) else
  if c = 110 then ({ z with name := (rOpaque 255 r).1 }, (rOpaque 255 r).2) else
  if c = 99 then ({ z with child := (rOpaque 64 r).1 }, (rOpaque 64 r).2) else
  if c = 98 then ({ z with no := (rU32 r).1 }, (rU32 r).2) else
  if c = 116 then ({ z with slot := (rU32 r).1 }, (rU32 r).2) else
  if c = 97 then ({ z with attr := (gotR Attr.ok attrZ (rAttr r)).1 }, (rAttr r).2) else (z, r)
/-- may it be -/
def rTkOk (c : Nat) (r : Rs) : Bool := if c = 97 then (gotR Attr.ok attrZ (rAttr r)).2 == 0 else (rTk c change0 r).2.e == 0
structure TookR (g b : Nat) (z : Change) (r : Rs) (w w' : World) : Prop where
  R : Rd w' g r
  C : Blk w' b 44 z.vals
  T : Touch (fun k => k = g ∨ k = b) w w'

theorem rtake_e (g b : Nat) (z : Change) (r : Rs) (w : World) (hR : Rd w g r) (hA : Blk w b 44 z.vals) (hl : r.s.length ≤ 9223372036854775807) : Calls Tryd.prog 60 #[.pointer (some ⟨g, 0, none⟩), .pointer (some ⟨b, 0, none⟩), .int .i32 101] w fun e w' => e = .returned (.bool (rTkOk 101 r)) ∧ TookR g b (rTk 101 z r).1 (rTk 101 z r).2 w w' := by
  have hne : b ≠ g := Blk.ne_ hA hR.1 (by decide)
  have hS : rTkOk 101 r = ((rU32 r).2.e == 0) := rfl
  have hT : rTk 101 z r = ({ z with epoch := (rU32 r).1 }, (rU32 r).2) := rfl
  have hG := rU32_any g r w hR hl
  generalize rU32 r = x at *
  have HS := Lib.hid hS
  have HT := Lib.hid hT
  have HG := Lib.hid hG
  clear hS hT hG
  go_enter Tryd.func60, Tryd.ntmps60
  go_wp2_with fail
  refine HG.out.mono ?_
  rintro e w1 ⟨rfl, hQ⟩
  have hA1 : Blk w1 b 44 z.vals := hQ.keeps hA hne
  have hf := hA1.frozen
  have hc := hA1.cell
  have hA2 : Blk (w1.setCell ⟨b, 1, none⟩ (.int .i64 x.1)) b 44 ({ z with epoch := x.1 } : Change).vals := hA1.set_ 1 (.int .i64 x.1)
  have hR2 : Rd (w1.setCell ⟨b, 1, none⟩ (.int .i64 x.1)) g x.2 := hQ.1.touch ((Touch.refl (fun k => k = b) w1).setCell_ (g := b) (o := 1) (.inl rfl) (.int .i64 x.1)) (fun e => hne e.symm)
  have hT2 : Touch (fun k => k = g ∨ k = b) w (w1.setCell ⟨b, 1, none⟩ (.int .i64 x.1)) := (hQ.2.mono fun _ _ h => .inl h).setCell_ (g := b) (o := 1) (.inl (.inr rfl)) (.int .i64 x.1)
  have HR2 := Lib.hid hR2
  have HA2 := Lib.hid hA2
  have HT2 := Lib.hid hT2
  clear hR2 hA2 hT2
  clear hQ hA1 hA hR HG
  go_wp2_with fail
  refine (rErr_any g x.2 _ HR2.out).mono ?_
  rintro e w3 ⟨rfl, rfl⟩
  go_wp2
  go_ret
  rw [HS.out, HT.out]
  exact ⟨rfl, HR2.out, HA2.out, HT2.out⟩

theorem rtake_s (g b : Nat) (z : Change) (r : Rs) (w : World) (hR : Rd w g r) (hA : Blk w b 44 z.vals) (hl : r.s.length ≤ 9223372036854775807) : Calls Tryd.prog 60 #[.pointer (some ⟨g, 0, none⟩), .pointer (some ⟨b, 0, none⟩), .int .i32 115] w fun e w' => e = .returned (.bool (rTkOk 115 r)) ∧ TookR g b (rTk 115 z r).1 (rTk 115 z r).2 w w' := by
  have hne : b ≠ g := Blk.ne_ hA hR.1 (by decide)
  have hS : rTkOk 115 r = ((rU64 r).2.e == 0) := rfl
  have hT : rTk 115 z r = ({ z with serial := (rU64 r).1 }, (rU64 r).2) := rfl
  have hG := rU64_any g r w hR hl
  generalize rU64 r = x at *
  have HS := Lib.hid hS
  have HT := Lib.hid hT
  have HG := Lib.hid hG
  clear hS hT hG
  go_enter Tryd.func60, Tryd.ntmps60
  go_wp2_with fail
  refine HG.out.mono ?_
  rintro e w1 ⟨rfl, hQ⟩
  have hA1 : Blk w1 b 44 z.vals := hQ.keeps hA hne
  have hf := hA1.frozen
  have hc := hA1.cell
  have hA2 : Blk (w1.setCell ⟨b, 2, none⟩ (.int .i64 x.1)) b 44 ({ z with serial := x.1 } : Change).vals := hA1.set_ 2 (.int .i64 x.1)
  have hR2 : Rd (w1.setCell ⟨b, 2, none⟩ (.int .i64 x.1)) g x.2 := hQ.1.touch ((Touch.refl (fun k => k = b) w1).setCell_ (g := b) (o := 2) (.inl rfl) (.int .i64 x.1)) (fun e => hne e.symm)
  have hT2 : Touch (fun k => k = g ∨ k = b) w (w1.setCell ⟨b, 2, none⟩ (.int .i64 x.1)) := (hQ.2.mono fun _ _ h => .inl h).setCell_ (g := b) (o := 2) (.inl (.inr rfl)) (.int .i64 x.1)
  have HR2 := Lib.hid hR2
  have HA2 := Lib.hid hA2
  have HT2 := Lib.hid hT2
  clear hR2 hA2 hT2
  clear hQ hA1 hA hR HG
  go_wp2_with fail
  refine (rErr_any g x.2 _ HR2.out).mono ?_
  rintro e w3 ⟨rfl, rfl⟩
  go_wp2
  go_ret
  rw [HS.out, HT.out]
  exact ⟨rfl, HR2.out, HA2.out, HT2.out⟩

theorem rtake_u (g b : Nat) (z : Change) (r : Rs) (w : World) (hR : Rd w g r) (hA : Blk w b 44 z.vals) (hl : r.s.length ≤ 9223372036854775807) : Calls Tryd.prog 60 #[.pointer (some ⟨g, 0, none⟩), .pointer (some ⟨b, 0, none⟩), .int .i32 117] w fun e w' => e = .returned (.bool (rTkOk 117 r)) ∧ TookR g b (rTk 117 z r).1 (rTk 117 z r).2 w w' := by
  have hne : b ≠ g := Blk.ne_ hA hR.1 (by decide)
  have hS : rTkOk 117 r = ((rOpaque 64 r).2.e == 0) := rfl
  have hT : rTk 117 z r = ({ z with up := (rOpaque 64 r).1 }, (rOpaque 64 r).2) := rfl
  have hG := rOpaque_any g 64 r w hR hl
  generalize rOpaque 64 r = x at *
  have HS := Lib.hid hS
  have HT := Lib.hid hT
  have HG := Lib.hid hG
  clear hS hT hG
  go_enter Tryd.func60, Tryd.ntmps60
  go_wp2_with fail
  refine HG.out.mono ?_
  rintro e w1 ⟨rfl, hQ⟩
  have hA1 : Blk w1 b 44 z.vals := hQ.keeps hA hne
  have hf := hA1.frozen
  have hc := hA1.cell
  have hA2 : Blk (w1.setCell ⟨b, 3, none⟩ (.string (bs x.1))) b 44 ({ z with up := x.1 } : Change).vals := hA1.set_ 3 (.string (bs x.1))
  have hR2 : Rd (w1.setCell ⟨b, 3, none⟩ (.string (bs x.1))) g x.2 := hQ.1.touch ((Touch.refl (fun k => k = b) w1).setCell_ (g := b) (o := 3) (.inl rfl) (.string (bs x.1))) (fun e => hne e.symm)
  have hT2 : Touch (fun k => k = g ∨ k = b) w (w1.setCell ⟨b, 3, none⟩ (.string (bs x.1))) := (hQ.2.mono fun _ _ h => .inl h).setCell_ (g := b) (o := 3) (.inl (.inr rfl)) (.string (bs x.1))
  have HR2 := Lib.hid hR2
  have HA2 := Lib.hid hA2
  have HT2 := Lib.hid hT2
  clear hR2 hA2 hT2
  clear hQ hA1 hA hR HG
  go_wp2_with fail
  refine (rErr_any g x.2 _ HR2.out).mono ?_
  rintro e w3 ⟨rfl, rfl⟩
  go_wp2
  go_ret
  rw [HS.out, HT.out]
  exact ⟨rfl, HR2.out, HA2.out, HT2.out⟩

theorem rtake_n (g b : Nat) (z : Change) (r : Rs) (w : World) (hR : Rd w g r) (hA : Blk w b 44 z.vals) (hl : r.s.length ≤ 9223372036854775807) : Calls Tryd.prog 60 #[.pointer (some ⟨g, 0, none⟩), .pointer (some ⟨b, 0, none⟩), .int .i32 110] w fun e w' => e = .returned (.bool (rTkOk 110 r)) ∧ TookR g b (rTk 110 z r).1 (rTk 110 z r).2 w w' := by
  have hne : b ≠ g := Blk.ne_ hA hR.1 (by decide)
  have hS : rTkOk 110 r = ((rOpaque 255 r).2.e == 0) := rfl
  have hT : rTk 110 z r = ({ z with name := (rOpaque 255 r).1 }, (rOpaque 255 r).2) := rfl
  have hG := rOpaque_any g 255 r w hR hl
  generalize rOpaque 255 r = x at *
  have HS := Lib.hid hS
  have HT := Lib.hid hT
  have HG := Lib.hid hG
  clear hS hT hG
  go_enter Tryd.func60, Tryd.ntmps60
  go_wp2_with fail
  refine HG.out.mono ?_
  rintro e w1 ⟨rfl, hQ⟩
  have hA1 : Blk w1 b 44 z.vals := hQ.keeps hA hne
  have hf := hA1.frozen
  have hc := hA1.cell
  have hA2 : Blk (w1.setCell ⟨b, 4, none⟩ (.string (bs x.1))) b 44 ({ z with name := x.1 } : Change).vals := hA1.set_ 4 (.string (bs x.1))
  have hR2 : Rd (w1.setCell ⟨b, 4, none⟩ (.string (bs x.1))) g x.2 := hQ.1.touch ((Touch.refl (fun k => k = b) w1).setCell_ (g := b) (o := 4) (.inl rfl) (.string (bs x.1))) (fun e => hne e.symm)
  have hT2 : Touch (fun k => k = g ∨ k = b) w (w1.setCell ⟨b, 4, none⟩ (.string (bs x.1))) := (hQ.2.mono fun _ _ h => .inl h).setCell_ (g := b) (o := 4) (.inl (.inr rfl)) (.string (bs x.1))
  have HR2 := Lib.hid hR2
  have HA2 := Lib.hid hA2
  have HT2 := Lib.hid hT2
  clear hR2 hA2 hT2
  clear hQ hA1 hA hR HG
  go_wp2_with fail
  refine (rErr_any g x.2 _ HR2.out).mono ?_
  rintro e w3 ⟨rfl, rfl⟩
  go_wp2
  go_ret
  rw [HS.out, HT.out]
  exact ⟨rfl, HR2.out, HA2.out, HT2.out⟩

theorem rtake_c (g b : Nat) (z : Change) (r : Rs) (w : World) (hR : Rd w g r) (hA : Blk w b 44 z.vals) (hl : r.s.length ≤ 9223372036854775807) : Calls Tryd.prog 60 #[.pointer (some ⟨g, 0, none⟩), .pointer (some ⟨b, 0, none⟩), .int .i32 99] w fun e w' => e = .returned (.bool (rTkOk 99 r)) ∧ TookR g b (rTk 99 z r).1 (rTk 99 z r).2 w w' := by
  have hne : b ≠ g := Blk.ne_ hA hR.1 (by decide)
  have hS : rTkOk 99 r = ((rOpaque 64 r).2.e == 0) := rfl
  have hT : rTk 99 z r = ({ z with child := (rOpaque 64 r).1 }, (rOpaque 64 r).2) := rfl
  have hG := rOpaque_any g 64 r w hR hl
  generalize rOpaque 64 r = x at *
  have HS := Lib.hid hS
  have HT := Lib.hid hT
  have HG := Lib.hid hG
  clear hS hT hG
  go_enter Tryd.func60, Tryd.ntmps60
  go_wp2_with fail
  refine HG.out.mono ?_
  rintro e w1 ⟨rfl, hQ⟩
  have hA1 : Blk w1 b 44 z.vals := hQ.keeps hA hne
  have hf := hA1.frozen
  have hc := hA1.cell
  have hA2 : Blk (w1.setCell ⟨b, 5, none⟩ (.string (bs x.1))) b 44 ({ z with child := x.1 } : Change).vals := hA1.set_ 5 (.string (bs x.1))
  have hR2 : Rd (w1.setCell ⟨b, 5, none⟩ (.string (bs x.1))) g x.2 := hQ.1.touch ((Touch.refl (fun k => k = b) w1).setCell_ (g := b) (o := 5) (.inl rfl) (.string (bs x.1))) (fun e => hne e.symm)
  have hT2 : Touch (fun k => k = g ∨ k = b) w (w1.setCell ⟨b, 5, none⟩ (.string (bs x.1))) := (hQ.2.mono fun _ _ h => .inl h).setCell_ (g := b) (o := 5) (.inl (.inr rfl)) (.string (bs x.1))
  have HR2 := Lib.hid hR2
  have HA2 := Lib.hid hA2
  have HT2 := Lib.hid hT2
  clear hR2 hA2 hT2
  clear hQ hA1 hA hR HG
  go_wp2_with fail
  refine (rErr_any g x.2 _ HR2.out).mono ?_
  rintro e w3 ⟨rfl, rfl⟩
  go_wp2
  go_ret
  rw [HS.out, HT.out]
  exact ⟨rfl, HR2.out, HA2.out, HT2.out⟩

theorem rtake_b (g b : Nat) (z : Change) (r : Rs) (w : World) (hR : Rd w g r) (hA : Blk w b 44 z.vals) (hl : r.s.length ≤ 9223372036854775807) : Calls Tryd.prog 60 #[.pointer (some ⟨g, 0, none⟩), .pointer (some ⟨b, 0, none⟩), .int .i32 98] w fun e w' => e = .returned (.bool (rTkOk 98 r)) ∧ TookR g b (rTk 98 z r).1 (rTk 98 z r).2 w w' := by
  have hne : b ≠ g := Blk.ne_ hA hR.1 (by decide)
  have hS : rTkOk 98 r = ((rU32 r).2.e == 0) := rfl
  have hT : rTk 98 z r = ({ z with no := (rU32 r).1 }, (rU32 r).2) := rfl
  have hG := rU32_any g r w hR hl
  generalize rU32 r = x at *
  have HS := Lib.hid hS
  have HT := Lib.hid hT
  have HG := Lib.hid hG
  clear hS hT hG
  go_enter Tryd.func60, Tryd.ntmps60
  go_wp2_with fail
  refine HG.out.mono ?_
  rintro e w1 ⟨rfl, hQ⟩
  have hA1 : Blk w1 b 44 z.vals := hQ.keeps hA hne
  have hf := hA1.frozen
  have hc := hA1.cell
  have hA2 : Blk (w1.setCell ⟨b, 16, none⟩ (.int .i64 x.1)) b 44 ({ z with no := x.1 } : Change).vals := hA1.set_ 16 (.int .i64 x.1)
  have hR2 : Rd (w1.setCell ⟨b, 16, none⟩ (.int .i64 x.1)) g x.2 := hQ.1.touch ((Touch.refl (fun k => k = b) w1).setCell_ (g := b) (o := 16) (.inl rfl) (.int .i64 x.1)) (fun e => hne e.symm)
  have hT2 : Touch (fun k => k = g ∨ k = b) w (w1.setCell ⟨b, 16, none⟩ (.int .i64 x.1)) := (hQ.2.mono fun _ _ h => .inl h).setCell_ (g := b) (o := 16) (.inl (.inr rfl)) (.int .i64 x.1)
  have HR2 := Lib.hid hR2
  have HA2 := Lib.hid hA2
  have HT2 := Lib.hid hT2
  clear hR2 hA2 hT2
  clear hQ hA1 hA hR HG
  go_wp2_with fail
  refine (rErr_any g x.2 _ HR2.out).mono ?_
  rintro e w3 ⟨rfl, rfl⟩
  go_wp2
  go_ret
  rw [HS.out, HT.out]
  exact ⟨rfl, HR2.out, HA2.out, HT2.out⟩

theorem rtake_t (g b : Nat) (z : Change) (r : Rs) (w : World) (hR : Rd w g r) (hA : Blk w b 44 z.vals) (hl : r.s.length ≤ 9223372036854775807) : Calls Tryd.prog 60 #[.pointer (some ⟨g, 0, none⟩), .pointer (some ⟨b, 0, none⟩), .int .i32 116] w fun e w' => e = .returned (.bool (rTkOk 116 r)) ∧ TookR g b (rTk 116 z r).1 (rTk 116 z r).2 w w' := by
  have hne : b ≠ g := Blk.ne_ hA hR.1 (by decide)
  have hS : rTkOk 116 r = ((rU32 r).2.e == 0) := rfl
  have hT : rTk 116 z r = ({ z with slot := (rU32 r).1 }, (rU32 r).2) := rfl
  have hG := rU32_any g r w hR hl
  generalize rU32 r = x at *
  have HS := Lib.hid hS
  have HT := Lib.hid hT
  have HG := Lib.hid hG
  clear hS hT hG
  go_enter Tryd.func60, Tryd.ntmps60
  go_wp2_with fail
  refine HG.out.mono ?_
  rintro e w1 ⟨rfl, hQ⟩
  have hA1 : Blk w1 b 44 z.vals := hQ.keeps hA hne
  have hf := hA1.frozen
  have hc := hA1.cell
  have hA2 : Blk (w1.setCell ⟨b, 17, none⟩ (.int .i64 x.1)) b 44 ({ z with slot := x.1 } : Change).vals := hA1.set_ 17 (.int .i64 x.1)
  have hR2 : Rd (w1.setCell ⟨b, 17, none⟩ (.int .i64 x.1)) g x.2 := hQ.1.touch ((Touch.refl (fun k => k = b) w1).setCell_ (g := b) (o := 17) (.inl rfl) (.int .i64 x.1)) (fun e => hne e.symm)
  have hT2 : Touch (fun k => k = g ∨ k = b) w (w1.setCell ⟨b, 17, none⟩ (.int .i64 x.1)) := (hQ.2.mono fun _ _ h => .inl h).setCell_ (g := b) (o := 17) (.inl (.inr rfl)) (.int .i64 x.1)
  have HR2 := Lib.hid hR2
  have HA2 := Lib.hid hA2
  have HT2 := Lib.hid hT2
  clear hR2 hA2 hT2
  clear hQ hA1 hA hR HG
  go_wp2_with fail
  refine (rErr_any g x.2 _ HR2.out).mono ?_
  rintro e w3 ⟨rfl, rfl⟩
  go_wp2
  go_ret
  rw [HS.out, HT.out]
  exact ⟨rfl, HR2.out, HA2.out, HT2.out⟩

set_option maxHeartbeats 800000 in
theorem rtake_a (g b : Nat) (z : Change) (r : Rs) (w : World) (hR : Rd w g r) (hA : Blk w b 44 z.vals) (hl : r.s.length ≤ 9223372036854775807) : Calls Tryd.prog 60 #[.pointer (some ⟨g, 0, none⟩), .pointer (some ⟨b, 0, none⟩), .int .i32 97] w fun e w' => e = .returned (.bool (rTkOk 97 r)) ∧ TookR g b (rTk 97 z r).1 (rTk 97 z r).2 w w' := by
  have hne : b ≠ g := Blk.ne_ hA hR.1 (by decide)
  have hS : rTkOk 97 r = ((gotR Attr.ok attrZ (rAttr r)).2 == 0) := rfl
  have hT : rTk 97 z r = ({ z with attr := (gotR Attr.ok attrZ (rAttr r)).1 }, (rAttr r).2) := rfl
  have hG := getAttr_any g r w hR hl
  generalize gotR Attr.ok attrZ (rAttr r) = x at *
  generalize (rAttr r).2 = r2 at *
  have HS := Lib.hid hS
  have HT := Lib.hid hT
  have HG := Lib.hid hG
  clear hS hT hG
  go_enter Tryd.func60, Tryd.ntmps60
  go_wp2_with fail
  refine HG.out.mono ?_
  rintro e w1 ⟨rfl, hQ⟩
  unfold gotV
  have hsz : (w1.alloc (.cells x.1.vals.toArray 42)).heap.size = w1.heap.size + 1 := by simp
  have hX := Blk.new w1 42 x.1.vals
  have hA1 : Blk (w1.alloc (.cells x.1.vals.toArray 42)) b 44 z.vals := (hQ.keeps hA hne).alloc _
  have hr : rowOf (w1.alloc (.cells x.1.vals.toArray 42)) w1.heap.size 0 10 = some x.1.vals.toArray := hX.row 0 10 (by simp [Attr.len])
  have hA2 : Blk ((w1.alloc (.cells x.1.vals.toArray 42)).setCells b 6 x.1.vals) b 44 ({ z with attr := x.1 } : Change).vals := hA1.sets x.1.vals _ 6
  have hR2 : Rd ((w1.alloc (.cells x.1.vals.toArray 42)).setCells b 6 x.1.vals) g r2 := (hQ.1.stays ((Below.refl _ _).alloc (Nat.le_refl _) _)).touch (Touch.setCells (F := fun k => k = b) (g := b) (.inl rfl) x.1.vals 6 _ (Touch.refl _ _)) (fun e => hne e.symm)
  have hT2 : Touch (fun k => k = g ∨ k = b) w ((w1.alloc (.cells x.1.vals.toArray 42)).setCells b 6 x.1.vals) := Touch.setCells (.inl (.inr rfl)) x.1.vals 6 _ ((hQ.2.mono fun _ _ h => .inl h).alloc _)
  have HR2 := Lib.hid hR2
  have HA2 := Lib.hid hA2
  have HT2 := Lib.hid hT2
  clear hR2 hA2 hT2
  clear hQ hA hR HG hX
  obtain ⟨w2, hw2⟩ : ∃ w2, w2 = ((w1.alloc (.cells x.1.vals.toArray 42)).setCells b 6 x.1.vals) := ⟨_, rfl⟩
  rw [← hw2] at HR2 HA2 HT2
  have HW := Lib.hid hw2
  clear hw2
  have tok : True := trivial
  go_wp2_with (first
    | (clear tok; refine wpList_new_struct (by rfl) (by rfl) 42 (by rfl) _ _ (by rfl) x.1.vals infoAttrM (by rfl) (by rfl) (Attr.one _) (by rfl) (by rfl) ?_)
    | (refine wpList_store_part (by rfl) 42 _ _ (by rfl) b 6 x.1.vals _ hA1 (by simp [Attr.len, Change.len]) (by rfl) (by rfl) (by kernel_rfl) (Attr.one _) ?_; rw [← HW.out])
    | fail)
  go_ret
  rw [HS.out, HT.out]
  exact ⟨rfl, HR2.out, HA2.out, HT2.out⟩

set_option maxHeartbeats 800000 in
theorem rtake_any (g b : Nat) (z : Change) (r : Rs) (c : Nat) (hc : rLetter c) (w : World) (hR : Rd w g r) (hA : Blk w b 44 z.vals) (hl : r.s.length ≤ 9223372036854775807) : Calls Tryd.prog 60 #[.pointer (some ⟨g, 0, none⟩), .pointer (some ⟨b, 0, none⟩), .int .i32 c] w fun e w' => e = .returned (.bool (rTkOk c r)) ∧ TookR g b (rTk c z r).1 (rTk c z r).2 w w' := by
  rcases hc with rfl | rfl | rfl | rfl | rfl | rfl | rfl | rfl
  · exact rtake_e g b z r w hR hA hl
  · exact rtake_s g b z r w hR hA hl
  · exact rtake_u g b z r w hR hA hl
  · exact rtake_n g b z r w hR hA hl
  · exact rtake_c g b z r w hR hA hl
  · exact rtake_a g b z r w hR hA hl
  · exact rtake_b g b z r w hR hA hl
  · exact rtake_t g b z r w hR hA hl
end Go.Proofs.YthfhdighniiodaaDoor