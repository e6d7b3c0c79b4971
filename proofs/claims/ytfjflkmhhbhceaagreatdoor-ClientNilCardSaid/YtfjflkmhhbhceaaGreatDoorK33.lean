/-
  Layer 8, walks: the field of a letter is taken, but for the rows (written by wip/tools/gentaken8.py). Conditions: a reader and results at blocks of their own; machine texts.
-/
import Derived.Test.YtfjflkmhhbhceaaGreatDoorK32
namespace Go.Proofs.YtfjflkmhhbhceaaGreatDoor
open Go.RowKit
attribute [local go_sem ↓] Go.wp_at_zero Go.wp_at_succ
attribute [local go_sem] rowAt_ptr rowOf_drew rowOf_drewN rowOf_alloc_past rowOf_new
attribute [local go_sem ↓] ldPost ldWcc

structure Took8 (g b : Nat) (z : Reply) (r : Rs) (w w' : World) : Prop where
  R : Rd w' g r
  C : Blk w' b 51 z.vals
  T : Touch (fun k => k = g ∨ k = b) w w'

set_option maxRecDepth 20000 in
set_option maxHeartbeats 1600000 in
theorem ptake_h (g b : Nat) (z : Reply) (r : Rs) (w : World) (hR : Rd w g r) (hA : Blk w b 51 z.vals) (hl : r.s.length ≤ 9223372036854775807) : Calls Tryz.prog 103 #[.pointer (some ⟨g, 0, none⟩), .pointer (some ⟨b, 0, none⟩), .int .i32 104] w fun e w' => e = .returned (.bool ((rOpaque 64 r).2.e == 0)) ∧ Took8 g b ({ z with fh := (rOpaque 64 r).1 }) ((rOpaque 64 r).2) w w' := by
  have hne : b ≠ g := Blk.ne_ hA hR.1 (by decide)
  obtain ⟨bh, bl, hB0, hs0⟩ := chain2_blks w [.pointer (some ⟨g, 0, none⟩)] [.int .i32 104] 167 21
  obtain ⟨w0, hw0⟩ : ∃ V, V = (w.alloc (.cells #[.pointer (some ⟨g, 0, none⟩)] 167)).alloc (.cells #[.int .i32 104] 21) := ⟨_, rfl⟩
  have hw0' := hw0
  replace bh : Blk w0 w.heap.size 167 [.pointer (some ⟨g, 0, none⟩)] := by rw [hw0]; exact bh
  replace bl : Blk w0 (w.heap.size + 1) 21 [.int .i32 104] := by rw [hw0]; exact bl
  replace hB0 : Below w.heap.size w w0 := by rw [hw0]; exact hB0
  have hgl := hR.lt
  have hbl := hA.lt
  have nh : w.heap.size ≠ g := by omega
  have nb : w.heap.size ≠ b := by omega
  have nb' : b ≠ w.heap.size := by omega
  have hR0 := hR.stays hB0
  have hA0 := hA.stays hB0
  have hT0 := Touch.of_below hB0 (fun k => k = g ∨ k = b)
  have HW0 := Lib.hid hw0
  clear hw0 hw0' hB0 hs0 hR hA
  have hG := rOpaque_any g 64 r w0 hR0 hl
  generalize rOpaque 64 r = x at *
  have HG := Lib.hid hG
  clear hG
  go_enter Tryz.func103, Tryz.ntmps103
  go_wp2_with fail
  rw [← HW0.out]
  refine HG.out.mono ?_
  rintro e w1 ⟨rfl, hQ⟩
  have hA1 : Blk w1 b 51 z.vals := hA0.touch hQ.2 hne
  have bh1 := bh.touch hQ.2 nh
  have hf := hA1.frozen 1
  have hc := hA1.cell 1
  have c1 : w1.cell? ⟨w.heap.size, 0, none⟩ = some (.pointer (some ⟨g, 0, none⟩)) := bh1.cell 0
  have hc : (w1.cell? ⟨b, 1, none⟩).isSome = true := by rw [hc]; rfl
  obtain ⟨old, hc⟩ := Option.isSome_iff_exists.1 hc
  have hA2 : Blk (w1.setCell ⟨b, 1, none⟩ (.string (bs x.1))) b 51 ({ z with fh := x.1 } : Reply).vals := hA1.set_ 1 (.string (bs x.1))
  have hR2 : Rd (w1.setCell ⟨b, 1, none⟩ (.string (bs x.1))) g x.2 := hQ.1.touch ((Touch.refl (fun k => k = b) w1).setCell_ (g := b) (o := 1) (.inl rfl) (.string (bs x.1))) (fun e => hne e.symm)
  have hT2 : Touch (fun k => k = g ∨ k = b) w (w1.setCell ⟨b, 1, none⟩ (.string (bs x.1))) := (hT0.then_ (hQ.2.mono fun _ _ h => .inl h)).setCell_ (g := b) (o := 1) (.inl (.inr rfl)) (.string (bs x.1))
  have HL := Lib.hid (And.intro hR2 (And.intro hA2 hT2))
  clear hR2 hA2 hT2 hQ hA1 hA0 hR0 HG hT0 bh bh1 bl
  go_wp2_with fail
  refine (rErr_any g x.2 _ HL.out.1).mono ?_
  rintro e w3 ⟨rfl, rfl⟩
  go_wp2
  go_ret
  exact ⟨rfl, HL.out.1, HL.out.2.1, HL.out.2.2⟩

set_option maxRecDepth 20000 in
set_option maxHeartbeats 1600000 in
theorem ptake_x (g b : Nat) (z : Reply) (r : Rs) (w : World) (hR : Rd w g r) (hA : Blk w b 51 z.vals) (hl : r.s.length ≤ 9223372036854775807) : Calls Tryz.prog 103 #[.pointer (some ⟨g, 0, none⟩), .pointer (some ⟨b, 0, none⟩), .int .i32 120] w fun e w' => e = .returned (.bool ((rU32 r).2.e == 0)) ∧ Took8 g b ({ z with access := (rU32 r).1 }) ((rU32 r).2) w w' := by
  have hne : b ≠ g := Blk.ne_ hA hR.1 (by decide)
  obtain ⟨bh, bl, hB0, hs0⟩ := chain2_blks w [.pointer (some ⟨g, 0, none⟩)] [.int .i32 120] 167 21
  obtain ⟨w0, hw0⟩ : ∃ V, V = (w.alloc (.cells #[.pointer (some ⟨g, 0, none⟩)] 167)).alloc (.cells #[.int .i32 120] 21) := ⟨_, rfl⟩
  have hw0' := hw0
  replace bh : Blk w0 w.heap.size 167 [.pointer (some ⟨g, 0, none⟩)] := by rw [hw0]; exact bh
  replace bl : Blk w0 (w.heap.size + 1) 21 [.int .i32 120] := by rw [hw0]; exact bl
  replace hB0 : Below w.heap.size w w0 := by rw [hw0]; exact hB0
  have hgl := hR.lt
  have hbl := hA.lt
  have nh : w.heap.size ≠ g := by omega
  have nb : w.heap.size ≠ b := by omega
  have nb' : b ≠ w.heap.size := by omega
  have hR0 := hR.stays hB0
  have hA0 := hA.stays hB0
  have hT0 := Touch.of_below hB0 (fun k => k = g ∨ k = b)
  have HW0 := Lib.hid hw0
  clear hw0 hw0' hB0 hs0 hR hA
  have hG := rU32_any g r w0 hR0 hl
  generalize rU32 r = x at *
  have HG := Lib.hid hG
  clear hG
  go_enter Tryz.func103, Tryz.ntmps103
  go_wp2_with fail
  rw [← HW0.out]
  refine HG.out.mono ?_
  rintro e w1 ⟨rfl, hQ⟩
  have hA1 : Blk w1 b 51 z.vals := hA0.touch hQ.2 hne
  have bh1 := bh.touch hQ.2 nh
  have hf := hA1.frozen 50
  have hc := hA1.cell 50
  have c1 : w1.cell? ⟨w.heap.size, 0, none⟩ = some (.pointer (some ⟨g, 0, none⟩)) := bh1.cell 0
  have hc : (w1.cell? ⟨b, 50, none⟩).isSome = true := by rw [hc]; rfl
  obtain ⟨old, hc⟩ := Option.isSome_iff_exists.1 hc
  have hA2 : Blk (w1.setCell ⟨b, 50, none⟩ (.int .i64 x.1)) b 51 ({ z with access := x.1 } : Reply).vals := hA1.set_ 50 (.int .i64 x.1)
  have hR2 : Rd (w1.setCell ⟨b, 50, none⟩ (.int .i64 x.1)) g x.2 := hQ.1.touch ((Touch.refl (fun k => k = b) w1).setCell_ (g := b) (o := 50) (.inl rfl) (.int .i64 x.1)) (fun e => hne e.symm)
  have hT2 : Touch (fun k => k = g ∨ k = b) w (w1.setCell ⟨b, 50, none⟩ (.int .i64 x.1)) := (hT0.then_ (hQ.2.mono fun _ _ h => .inl h)).setCell_ (g := b) (o := 50) (.inl (.inr rfl)) (.int .i64 x.1)
  have HL := Lib.hid (And.intro hR2 (And.intro hA2 hT2))
  clear hR2 hA2 hT2 hQ hA1 hA0 hR0 HG hT0 bh bh1 bl
  go_wp2_with fail
  refine (rErr_any g x.2 _ HL.out.1).mono ?_
  rintro e w3 ⟨rfl, rfl⟩
  go_wp2
  go_ret
  exact ⟨rfl, HL.out.1, HL.out.2.1, HL.out.2.2⟩

set_option maxRecDepth 20000 in
set_option maxHeartbeats 1600000 in
theorem ptake_c (g b : Nat) (z : Reply) (r : Rs) (w : World) (hR : Rd w g r) (hA : Blk w b 51 z.vals) (hl : r.s.length ≤ 9223372036854775807) : Calls Tryz.prog 103 #[.pointer (some ⟨g, 0, none⟩), .pointer (some ⟨b, 0, none⟩), .int .i32 99] w fun e w' => e = .returned (.bool ((rU32 r).2.e == 0)) ∧ Took8 g b ({ z with count := (rU32 r).1 }) ((rU32 r).2) w w' := by
  have hne : b ≠ g := Blk.ne_ hA hR.1 (by decide)
  obtain ⟨bh, bl, hB0, hs0⟩ := chain2_blks w [.pointer (some ⟨g, 0, none⟩)] [.int .i32 99] 167 21
  obtain ⟨w0, hw0⟩ : ∃ V, V = (w.alloc (.cells #[.pointer (some ⟨g, 0, none⟩)] 167)).alloc (.cells #[.int .i32 99] 21) := ⟨_, rfl⟩
  have hw0' := hw0
  replace bh : Blk w0 w.heap.size 167 [.pointer (some ⟨g, 0, none⟩)] := by rw [hw0]; exact bh
  replace bl : Blk w0 (w.heap.size + 1) 21 [.int .i32 99] := by rw [hw0]; exact bl
  replace hB0 : Below w.heap.size w w0 := by rw [hw0]; exact hB0
  have hgl := hR.lt
  have hbl := hA.lt
  have nh : w.heap.size ≠ g := by omega
  have nb : w.heap.size ≠ b := by omega
  have nb' : b ≠ w.heap.size := by omega
  have hR0 := hR.stays hB0
  have hA0 := hA.stays hB0
  have hT0 := Touch.of_below hB0 (fun k => k = g ∨ k = b)
  have HW0 := Lib.hid hw0
  clear hw0 hw0' hB0 hs0 hR hA
  have hG := rU32_any g r w0 hR0 hl
  generalize rU32 r = x at *
  have HG := Lib.hid hG
  clear hG
  go_enter Tryz.func103, Tryz.ntmps103
  go_wp2_with fail
  rw [← HW0.out]
  refine HG.out.mono ?_
  rintro e w1 ⟨rfl, hQ⟩
  have hA1 : Blk w1 b 51 z.vals := hA0.touch hQ.2 hne
  have bh1 := bh.touch hQ.2 nh
  have hf := hA1.frozen 51
  have hc := hA1.cell 51
  have c1 : w1.cell? ⟨w.heap.size, 0, none⟩ = some (.pointer (some ⟨g, 0, none⟩)) := bh1.cell 0
  have hc : (w1.cell? ⟨b, 51, none⟩).isSome = true := by rw [hc]; rfl
  obtain ⟨old, hc⟩ := Option.isSome_iff_exists.1 hc
  have hA2 : Blk (w1.setCell ⟨b, 51, none⟩ (.int .i64 x.1)) b 51 ({ z with count := x.1 } : Reply).vals := hA1.set_ 51 (.int .i64 x.1)
  have hR2 : Rd (w1.setCell ⟨b, 51, none⟩ (.int .i64 x.1)) g x.2 := hQ.1.touch ((Touch.refl (fun k => k = b) w1).setCell_ (g := b) (o := 51) (.inl rfl) (.int .i64 x.1)) (fun e => hne e.symm)
  have hT2 : Touch (fun k => k = g ∨ k = b) w (w1.setCell ⟨b, 51, none⟩ (.int .i64 x.1)) := (hT0.then_ (hQ.2.mono fun _ _ h => .inl h)).setCell_ (g := b) (o := 51) (.inl (.inr rfl)) (.int .i64 x.1)
  have HL := Lib.hid (And.intro hR2 (And.intro hA2 hT2))
  clear hR2 hA2 hT2 hQ hA1 hA0 hR0 HG hT0 bh bh1 bl
  go_wp2_with fail
  refine (rErr_any g x.2 _ HL.out.1).mono ?_
  rintro e w3 ⟨rfl, rfl⟩
  go_wp2
  go_ret
  exact ⟨rfl, HL.out.1, HL.out.2.1, HL.out.2.2⟩

set_option maxRecDepth 20000 in
set_option maxHeartbeats 1600000 in
theorem ptake_s (g b : Nat) (z : Reply) (r : Rs) (w : World) (hR : Rd w g r) (hA : Blk w b 51 z.vals) (hl : r.s.length ≤ 9223372036854775807) : Calls Tryz.prog 103 #[.pointer (some ⟨g, 0, none⟩), .pointer (some ⟨b, 0, none⟩), .int .i32 115] w fun e w' => e = .returned (.bool ((rU32 r).2.e == 0)) ∧ Took8 g b ({ z with stable := (rU32 r).1 }) ((rU32 r).2) w w' := by
  have hne : b ≠ g := Blk.ne_ hA hR.1 (by decide)
  obtain ⟨bh, bl, hB0, hs0⟩ := chain2_blks w [.pointer (some ⟨g, 0, none⟩)] [.int .i32 115] 167 21
  obtain ⟨w0, hw0⟩ : ∃ V, V = (w.alloc (.cells #[.pointer (some ⟨g, 0, none⟩)] 167)).alloc (.cells #[.int .i32 115] 21) := ⟨_, rfl⟩
  have hw0' := hw0
  replace bh : Blk w0 w.heap.size 167 [.pointer (some ⟨g, 0, none⟩)] := by rw [hw0]; exact bh
  replace bl : Blk w0 (w.heap.size + 1) 21 [.int .i32 115] := by rw [hw0]; exact bl
  replace hB0 : Below w.heap.size w w0 := by rw [hw0]; exact hB0
  have hgl := hR.lt
  have hbl := hA.lt
  have nh : w.heap.size ≠ g := by omega
  have nb : w.heap.size ≠ b := by omega
  have nb' : b ≠ w.heap.size := by omega
  have hR0 := hR.stays hB0
  have hA0 := hA.stays hB0
  have hT0 := Touch.of_below hB0 (fun k => k = g ∨ k = b)
  have HW0 := Lib.hid hw0
  clear hw0 hw0' hB0 hs0 hR hA
  have hG := rU32_any g r w0 hR0 hl
  generalize rU32 r = x at *
  have HG := Lib.hid hG
  clear hG
  go_enter Tryz.func103, Tryz.ntmps103
  go_wp2_with fail
  rw [← HW0.out]
  refine HG.out.mono ?_
  rintro e w1 ⟨rfl, hQ⟩
  have hA1 : Blk w1 b 51 z.vals := hA0.touch hQ.2 hne
  have bh1 := bh.touch hQ.2 nh
  have hf := hA1.frozen 54
  have hc := hA1.cell 54
  have c1 : w1.cell? ⟨w.heap.size, 0, none⟩ = some (.pointer (some ⟨g, 0, none⟩)) := bh1.cell 0
  have hc : (w1.cell? ⟨b, 54, none⟩).isSome = true := by rw [hc]; rfl
  obtain ⟨old, hc⟩ := Option.isSome_iff_exists.1 hc
  have hA2 : Blk (w1.setCell ⟨b, 54, none⟩ (.int .i64 x.1)) b 51 ({ z with stable := x.1 } : Reply).vals := hA1.set_ 54 (.int .i64 x.1)
  have hR2 : Rd (w1.setCell ⟨b, 54, none⟩ (.int .i64 x.1)) g x.2 := hQ.1.touch ((Touch.refl (fun k => k = b) w1).setCell_ (g := b) (o := 54) (.inl rfl) (.int .i64 x.1)) (fun e => hne e.symm)
  have hT2 : Touch (fun k => k = g ∨ k = b) w (w1.setCell ⟨b, 54, none⟩ (.int .i64 x.1)) := (hT0.then_ (hQ.2.mono fun _ _ h => .inl h)).setCell_ (g := b) (o := 54) (.inl (.inr rfl)) (.int .i64 x.1)
  have HL := Lib.hid (And.intro hR2 (And.intro hA2 hT2))
  clear hR2 hA2 hT2 hQ hA1 hA0 hR0 HG hT0 bh bh1 bl
  go_wp2_with fail
  refine (rErr_any g x.2 _ HL.out.1).mono ?_
  rintro e w3 ⟨rfl, rfl⟩
  go_wp2
  go_ret
  exact ⟨rfl, HL.out.1, HL.out.2.1, HL.out.2.2⟩

set_option maxRecDepth 20000 in
set_option maxHeartbeats 1600000 in
theorem ptake_v (g b : Nat) (z : Reply) (r : Rs) (w : World) (hR : Rd w g r) (hA : Blk w b 51 z.vals) (hl : r.s.length ≤ 9223372036854775807) : Calls Tryz.prog 103 #[.pointer (some ⟨g, 0, none⟩), .pointer (some ⟨b, 0, none⟩), .int .i32 118] w fun e w' => e = .returned (.bool ((rU64 r).2.e == 0)) ∧ Took8 g b ({ z with verf := (rU64 r).1 }) ((rU64 r).2) w w' := by
  have hne : b ≠ g := Blk.ne_ hA hR.1 (by decide)
  obtain ⟨bh, bl, hB0, hs0⟩ := chain2_blks w [.pointer (some ⟨g, 0, none⟩)] [.int .i32 118] 167 21
  obtain ⟨w0, hw0⟩ : ∃ V, V = (w.alloc (.cells #[.pointer (some ⟨g, 0, none⟩)] 167)).alloc (.cells #[.int .i32 118] 21) := ⟨_, rfl⟩
  have hw0' := hw0
  replace bh : Blk w0 w.heap.size 167 [.pointer (some ⟨g, 0, none⟩)] := by rw [hw0]; exact bh
  replace bl : Blk w0 (w.heap.size + 1) 21 [.int .i32 118] := by rw [hw0]; exact bl
  replace hB0 : Below w.heap.size w w0 := by rw [hw0]; exact hB0
  have hgl := hR.lt
  have hbl := hA.lt
  have nh : w.heap.size ≠ g := by omega
  have nb : w.heap.size ≠ b := by omega
  have nb' : b ≠ w.heap.size := by omega
  have hR0 := hR.stays hB0
  have hA0 := hA.stays hB0
  have hT0 := Touch.of_below hB0 (fun k => k = g ∨ k = b)
  have HW0 := Lib.hid hw0
  clear hw0 hw0' hB0 hs0 hR hA
  have hG := rU64_any g r w0 hR0 hl
  generalize rU64 r = x at *
  have HG := Lib.hid hG
  clear hG
  go_enter Tryz.func103, Tryz.ntmps103
  go_wp2_with fail
  rw [← HW0.out]
  refine HG.out.mono ?_
  rintro e w1 ⟨rfl, hQ⟩
  have hA1 : Blk w1 b 51 z.vals := hA0.touch hQ.2 hne
  have bh1 := bh.touch hQ.2 nh
  have hf := hA1.frozen 55
  have hc := hA1.cell 55
  have c1 : w1.cell? ⟨w.heap.size, 0, none⟩ = some (.pointer (some ⟨g, 0, none⟩)) := bh1.cell 0
  have hc : (w1.cell? ⟨b, 55, none⟩).isSome = true := by rw [hc]; rfl
  obtain ⟨old, hc⟩ := Option.isSome_iff_exists.1 hc
  have hA2 : Blk (w1.setCell ⟨b, 55, none⟩ (.int .i64 x.1)) b 51 ({ z with verf := x.1 } : Reply).vals := hA1.set_ 55 (.int .i64 x.1)
  have hR2 : Rd (w1.setCell ⟨b, 55, none⟩ (.int .i64 x.1)) g x.2 := hQ.1.touch ((Touch.refl (fun k => k = b) w1).setCell_ (g := b) (o := 55) (.inl rfl) (.int .i64 x.1)) (fun e => hne e.symm)
  have hT2 : Touch (fun k => k = g ∨ k = b) w (w1.setCell ⟨b, 55, none⟩ (.int .i64 x.1)) := (hT0.then_ (hQ.2.mono fun _ _ h => .inl h)).setCell_ (g := b) (o := 55) (.inl (.inr rfl)) (.int .i64 x.1)
  have HL := Lib.hid (And.intro hR2 (And.intro hA2 hT2))
  clear hR2 hA2 hT2 hQ hA1 hA0 hR0 HG hT0 bh bh1 bl
  go_wp2_with fail
  refine (rErr_any g x.2 _ HL.out.1).mono ?_
  rintro e w3 ⟨rfl, rfl⟩
  go_wp2
  go_ret
  exact ⟨rfl, HL.out.1, HL.out.2.1, HL.out.2.2⟩

set_option maxRecDepth 20000 in
set_option maxHeartbeats 1600000 in
theorem ptake_e (g b : Nat) (z : Reply) (r : Rs) (w : World) (hR : Rd w g r) (hA : Blk w b 51 z.vals) (hl : r.s.length ≤ 9223372036854775807) : Calls Tryz.prog 103 #[.pointer (some ⟨g, 0, none⟩), .pointer (some ⟨b, 0, none⟩), .int .i32 101] w fun e w' => e = .returned (.bool ((rBool r).2.e == 0)) ∧ Took8 g b ({ z with eof := (rBool r).1 }) ((rBool r).2) w w' := by
  have hne : b ≠ g := Blk.ne_ hA hR.1 (by decide)
  obtain ⟨bh, bl, hB0, hs0⟩ := chain2_blks w [.pointer (some ⟨g, 0, none⟩)] [.int .i32 101] 167 21
  obtain ⟨w0, hw0⟩ : ∃ V, V = (w.alloc (.cells #[.pointer (some ⟨g, 0, none⟩)] 167)).alloc (.cells #[.int .i32 101] 21) := ⟨_, rfl⟩
  have hw0' := hw0
  replace bh : Blk w0 w.heap.size 167 [.pointer (some ⟨g, 0, none⟩)] := by rw [hw0]; exact bh
  replace bl : Blk w0 (w.heap.size + 1) 21 [.int .i32 101] := by rw [hw0]; exact bl
  replace hB0 : Below w.heap.size w w0 := by rw [hw0]; exact hB0
  have hgl := hR.lt
  have hbl := hA.lt
  have nh : w.heap.size ≠ g := by omega
  have nb : w.heap.size ≠ b := by omega
  have nb' : b ≠ w.heap.size := by omega
  have hR0 := hR.stays hB0
  have hA0 := hA.stays hB0
  have hT0 := Touch.of_below hB0 (fun k => k = g ∨ k = b)
  have HW0 := Lib.hid hw0
  clear hw0 hw0' hB0 hs0 hR hA
  have hG := rBool_any g r w0 hR0 hl
  generalize rBool r = x at *
  have HG := Lib.hid hG
  clear hG
  go_enter Tryz.func103, Tryz.ntmps103
  go_wp2_with fail
  rw [← HW0.out]
  refine HG.out.mono ?_
  rintro e w1 ⟨rfl, hQ⟩
  have hA1 : Blk w1 b 51 z.vals := hA0.touch hQ.2 hne
  have bh1 := bh.touch hQ.2 nh
  have hf := hA1.frozen 52
  have hc := hA1.cell 52
  have c1 : w1.cell? ⟨w.heap.size, 0, none⟩ = some (.pointer (some ⟨g, 0, none⟩)) := bh1.cell 0
  have hc : (w1.cell? ⟨b, 52, none⟩).isSome = true := by rw [hc]; rfl
  obtain ⟨old, hc⟩ := Option.isSome_iff_exists.1 hc
  have hA2 : Blk (w1.setCell ⟨b, 52, none⟩ (.bool x.1)) b 51 ({ z with eof := x.1 } : Reply).vals := hA1.set_ 52 (.bool x.1)
  have hR2 : Rd (w1.setCell ⟨b, 52, none⟩ (.bool x.1)) g x.2 := hQ.1.touch ((Touch.refl (fun k => k = b) w1).setCell_ (g := b) (o := 52) (.inl rfl) (.bool x.1)) (fun e => hne e.symm)
  have hT2 : Touch (fun k => k = g ∨ k = b) w (w1.setCell ⟨b, 52, none⟩ (.bool x.1)) := (hT0.then_ (hQ.2.mono fun _ _ h => .inl h)).setCell_ (g := b) (o := 52) (.inl (.inr rfl)) (.bool x.1)
  have HL := Lib.hid (And.intro hR2 (And.intro hA2 hT2))
  clear hR2 hA2 hT2 hQ hA1 hA0 hR0 HG hT0 bh bh1 bl
  go_wp2_with fail
  refine (rErr_any g x.2 _ HL.out.1).mono ?_
  rintro e w3 ⟨rfl, rfl⟩
  go_wp2
  go_ret
  exact ⟨rfl, HL.out.1, HL.out.2.1, HL.out.2.2⟩

set_option maxRecDepth 20000 in
set_option maxHeartbeats 1600000 in
theorem ptake_d (g b : Nat) (z : Reply) (r : Rs) (w : World) (hR : Rd w g r) (hA : Blk w b 51 z.vals) (hl : r.s.length ≤ 9223372036854775807) : Calls Tryz.prog 103 #[.pointer (some ⟨g, 0, none⟩), .pointer (some ⟨b, 0, none⟩), .int .i32 100] w fun e w' => e = .returned (.bool ((rOpaque 256 r).2.e == 0)) ∧ Took8 g b ({ z with data := (rOpaque 256 r).1 }) ((rOpaque 256 r).2) w w' := by
  have hne : b ≠ g := Blk.ne_ hA hR.1 (by decide)
  obtain ⟨bh, bl, hB0, hs0⟩ := chain2_blks w [.pointer (some ⟨g, 0, none⟩)] [.int .i32 100] 167 21
  obtain ⟨w0, hw0⟩ : ∃ V, V = (w.alloc (.cells #[.pointer (some ⟨g, 0, none⟩)] 167)).alloc (.cells #[.int .i32 100] 21) := ⟨_, rfl⟩
  have hw0' := hw0
  replace bh : Blk w0 w.heap.size 167 [.pointer (some ⟨g, 0, none⟩)] := by rw [hw0]; exact bh
  replace bl : Blk w0 (w.heap.size + 1) 21 [.int .i32 100] := by rw [hw0]; exact bl
  replace hB0 : Below w.heap.size w w0 := by rw [hw0]; exact hB0
  have hgl := hR.lt
  have hbl := hA.lt
  have nh : w.heap.size ≠ g := by omega
  have nb : w.heap.size ≠ b := by omega
  have nb' : b ≠ w.heap.size := by omega
  have hR0 := hR.stays hB0
  have hA0 := hA.stays hB0
  have hT0 := Touch.of_below hB0 (fun k => k = g ∨ k = b)
  have HW0 := Lib.hid hw0
  clear hw0 hw0' hB0 hs0 hR hA
  have hG := rOpaque_any g 256 r w0 hR0 hl
  generalize rOpaque 256 r = x at *
  have HG := Lib.hid hG
  clear hG
  go_enter Tryz.func103, Tryz.ntmps103
  go_wp2_with fail
  rw [← HW0.out]
  refine HG.out.mono ?_
  rintro e w1 ⟨rfl, hQ⟩
  have hA1 : Blk w1 b 51 z.vals := hA0.touch hQ.2 hne
  have bh1 := bh.touch hQ.2 nh
  have hf := hA1.frozen 53
  have hc := hA1.cell 53
  have c1 : w1.cell? ⟨w.heap.size, 0, none⟩ = some (.pointer (some ⟨g, 0, none⟩)) := bh1.cell 0
  have hc : (w1.cell? ⟨b, 53, none⟩).isSome = true := by rw [hc]; rfl
  obtain ⟨old, hc⟩ := Option.isSome_iff_exists.1 hc
  have hA2 : Blk (w1.setCell ⟨b, 53, none⟩ (.string (bs x.1))) b 51 ({ z with data := x.1 } : Reply).vals := hA1.set_ 53 (.string (bs x.1))
  have hR2 : Rd (w1.setCell ⟨b, 53, none⟩ (.string (bs x.1))) g x.2 := hQ.1.touch ((Touch.refl (fun k => k = b) w1).setCell_ (g := b) (o := 53) (.inl rfl) (.string (bs x.1))) (fun e => hne e.symm)
  have hT2 : Touch (fun k => k = g ∨ k = b) w (w1.setCell ⟨b, 53, none⟩ (.string (bs x.1))) := (hT0.then_ (hQ.2.mono fun _ _ h => .inl h)).setCell_ (g := b) (o := 53) (.inl (.inr rfl)) (.string (bs x.1))
  have HL := Lib.hid (And.intro hR2 (And.intro hA2 hT2))
  clear hR2 hA2 hT2 hQ hA1 hA0 hR0 HG hT0 bh bh1 bl
  go_wp2_with fail
  refine (rErr_any g x.2 _ HL.out.1).mono ?_
  rintro e w3 ⟨rfl, rfl⟩
  go_wp2
  go_ret
  exact ⟨rfl, HL.out.1, HL.out.2.1, HL.out.2.2⟩

set_option maxRecDepth 20000 in
set_option maxHeartbeats 1600000 in
theorem ptake_a (g b : Nat) (z : Reply) (r : Rs) (w : World) (hR : Rd w g r) (hA : Blk w b 51 z.vals) (hl : r.s.length ≤ 9223372036854775807) : Calls Tryz.prog 103 #[.pointer (some ⟨g, 0, none⟩), .pointer (some ⟨b, 0, none⟩), .int .i32 97] w fun e w' => e = .returned (.bool ((gotR Post.ok postZ (rPost r)).2 == 0)) ∧ Took8 g b ({ z with obj := (gotR Post.ok postZ (rPost r)).1 }) ((rPost r).2) w w' := by
  have hne : b ≠ g := Blk.ne_ hA hR.1 (by decide)
  obtain ⟨bh, bl, hB0, hs0⟩ := chain2_blks w [.pointer (some ⟨g, 0, none⟩)] [.int .i32 97] 167 21
  obtain ⟨w0, hw0⟩ : ∃ V, V = (w.alloc (.cells #[.pointer (some ⟨g, 0, none⟩)] 167)).alloc (.cells #[.int .i32 97] 21) := ⟨_, rfl⟩
  have hw0' := hw0
  replace bh : Blk w0 w.heap.size 167 [.pointer (some ⟨g, 0, none⟩)] := by rw [hw0]; exact bh
  replace bl : Blk w0 (w.heap.size + 1) 21 [.int .i32 97] := by rw [hw0]; exact bl
  replace hB0 : Below w.heap.size w w0 := by rw [hw0]; exact hB0
  have hgl := hR.lt
  have hbl := hA.lt
  have nh : w.heap.size ≠ g := by omega
  have nb : w.heap.size ≠ b := by omega
  have nb' : b ≠ w.heap.size := by omega
  have hR0 := hR.stays hB0
  have hA0 := hA.stays hB0
  have hT0 := Touch.of_below hB0 (fun k => k = g ∨ k = b)
  have HW0 := Lib.hid hw0
  clear hw0 hw0' hB0 hs0 hR hA
  have hG := posted8_any g b 2 z.vals r w0.drew hR0 hA0 (by rw [Reply.len]; omega) hl
  have hset : ∀ p, setAt z.vals 2 p.vals = ({ z with obj := p } : Reply).vals := fun p => rfl
  rw [hset] at hG
  generalize gotR Post.ok postZ (rPost r) = x at *
  generalize (rPost r).2 = q at *
  have HG := Lib.hid hG
  have c1 : w0.cell? ⟨w.heap.size, 0, none⟩ = some (.pointer (some ⟨g, 0, none⟩)) := bh.cell 0
  clear hG hset hR0 hA0
  go_enter Tryz.func103, Tryz.ntmps103
  go_wp2_with fail
  rw [← HW0.out]
  go_region_held3 (fun V => V.cell? ⟨w.heap.size, 0, none⟩ = some (.pointer (some ⟨g, 0, none⟩))) (first | (with_reducible assumption) | exact c1 | exact (bh.drew.touch hX.2.2 (fun h => by omega)).cell 0) (first
    | (go_at_call 143; refine HG.out.mono ?_; rintro e w1 ⟨rfl, hX⟩))
  all_goals
    have HL := Lib.hid hX
    have HT := Lib.hid (hT0.drew.then_ hX.2.2)
    clear hX hT0
    go_wp2
    go_ret
    exact ⟨rfl, HL.out.1, HL.out.2.1, HT.out⟩

set_option maxRecDepth 20000 in
set_option maxHeartbeats 1600000 in
theorem ptake_d2 (g b : Nat) (z : Reply) (r : Rs) (w : World) (hR : Rd w g r) (hA : Blk w b 51 z.vals) (hl : r.s.length ≤ 9223372036854775807) : Calls Tryz.prog 103 #[.pointer (some ⟨g, 0, none⟩), .pointer (some ⟨b, 0, none⟩), .int .i32 68] w fun e w' => e = .returned (.bool ((gotR Post.ok postZ (rPost r)).2 == 0)) ∧ Took8 g b ({ z with dir := (gotR Post.ok postZ (rPost r)).1 }) ((rPost r).2) w w' := by
  have hne : b ≠ g := Blk.ne_ hA hR.1 (by decide)
  obtain ⟨bh, bl, hB0, hs0⟩ := chain2_blks w [.pointer (some ⟨g, 0, none⟩)] [.int .i32 68] 167 21
  obtain ⟨w0, hw0⟩ : ∃ V, V = (w.alloc (.cells #[.pointer (some ⟨g, 0, none⟩)] 167)).alloc (.cells #[.int .i32 68] 21) := ⟨_, rfl⟩
  have hw0' := hw0
  replace bh : Blk w0 w.heap.size 167 [.pointer (some ⟨g, 0, none⟩)] := by rw [hw0]; exact bh
  replace bl : Blk w0 (w.heap.size + 1) 21 [.int .i32 68] := by rw [hw0]; exact bl
  replace hB0 : Below w.heap.size w w0 := by rw [hw0]; exact hB0
  have hgl := hR.lt
  have hbl := hA.lt
  have nh : w.heap.size ≠ g := by omega
  have nb : w.heap.size ≠ b := by omega
  have nb' : b ≠ w.heap.size := by omega
  have hR0 := hR.stays hB0
  have hA0 := hA.stays hB0
  have hT0 := Touch.of_below hB0 (fun k => k = g ∨ k = b)
  have HW0 := Lib.hid hw0
  clear hw0 hw0' hB0 hs0 hR hA
  have hG := posted8_any g b 13 z.vals r w0.drew hR0 hA0 (by rw [Reply.len]; omega) hl
  have hset : ∀ p, setAt z.vals 13 p.vals = ({ z with dir := p } : Reply).vals := fun p => rfl
  rw [hset] at hG
  generalize gotR Post.ok postZ (rPost r) = x at *
  generalize (rPost r).2 = q at *
  have HG := Lib.hid hG
  have c1 : w0.cell? ⟨w.heap.size, 0, none⟩ = some (.pointer (some ⟨g, 0, none⟩)) := bh.cell 0
  clear hG hset hR0 hA0
  go_enter Tryz.func103, Tryz.ntmps103
  go_wp2_with fail
  rw [← HW0.out]
  go_region_held3 (fun V => V.cell? ⟨w.heap.size, 0, none⟩ = some (.pointer (some ⟨g, 0, none⟩))) (first | (with_reducible assumption) | exact c1 | exact (bh.drew.touch hX.2.2 (fun h => by omega)).cell 0) (first
    | (go_at_call 143; refine HG.out.mono ?_; rintro e w1 ⟨rfl, hX⟩))
  all_goals
    have HL := Lib.hid hX
    have HT := Lib.hid (hT0.drew.then_ hX.2.2)
    clear hX hT0
    go_wp2
    go_ret
    exact ⟨rfl, HL.out.1, HL.out.2.1, HT.out⟩

set_option maxRecDepth 20000 in
set_option maxHeartbeats 1600000 in
theorem ptake_w (g b : Nat) (z : Reply) (r : Rs) (w : World) (hR : Rd w g r) (hA : Blk w b 51 z.vals) (hl : r.s.length ≤ 9223372036854775807) : Calls Tryz.prog 103 #[.pointer (some ⟨g, 0, none⟩), .pointer (some ⟨b, 0, none⟩), .int .i32 119] w fun e w' => e = .returned (.bool ((gotR Wcc.ok wccZ (rWcc r)).2 == 0)) ∧ Took8 g b ({ z with wcc := (gotR Wcc.ok wccZ (rWcc r)).1 }) ((rWcc r).2) w w' := by
  have hne : b ≠ g := Blk.ne_ hA hR.1 (by decide)
  obtain ⟨bh, bl, hB0, hs0⟩ := chain2_blks w [.pointer (some ⟨g, 0, none⟩)] [.int .i32 119] 167 21
  obtain ⟨w0, hw0⟩ : ∃ V, V = (w.alloc (.cells #[.pointer (some ⟨g, 0, none⟩)] 167)).alloc (.cells #[.int .i32 119] 21) := ⟨_, rfl⟩
  have hw0' := hw0
  replace bh : Blk w0 w.heap.size 167 [.pointer (some ⟨g, 0, none⟩)] := by rw [hw0]; exact bh
  replace bl : Blk w0 (w.heap.size + 1) 21 [.int .i32 119] := by rw [hw0]; exact bl
  replace hB0 : Below w.heap.size w w0 := by rw [hw0]; exact hB0
  have hgl := hR.lt
  have hbl := hA.lt
  have nh : w.heap.size ≠ g := by omega
  have nb : w.heap.size ≠ b := by omega
  have nb' : b ≠ w.heap.size := by omega
  have hR0 := hR.stays hB0
  have hA0 := hA.stays hB0
  have hT0 := Touch.of_below hB0 (fun k => k = g ∨ k = b)
  have HW0 := Lib.hid hw0
  clear hw0 hw0' hB0 hs0 hR hA
  have hG := both8_any g b 24 z.vals r w0.drew hR0 hA0 (by rw [Reply.len]; omega) hl
  have hset : ∀ p, setAt z.vals 24 p.vals = ({ z with wcc := p } : Reply).vals := fun p => rfl
  rw [hset] at hG
  generalize gotR Wcc.ok wccZ (rWcc r) = x at *
  generalize (rWcc r).2 = q at *
  have HG := Lib.hid hG
  have c1 : w0.cell? ⟨w.heap.size, 0, none⟩ = some (.pointer (some ⟨g, 0, none⟩)) := bh.cell 0
  clear hG hset hR0 hA0
  go_enter Tryz.func103, Tryz.ntmps103
  go_wp2_with fail
  rw [← HW0.out]
  go_region_held3 (fun V => V.cell? ⟨w.heap.size, 0, none⟩ = some (.pointer (some ⟨g, 0, none⟩))) (first | (with_reducible assumption) | exact c1 | exact (bh.drew.touch hX.2.2 (fun h => by omega)).cell 0) (first
    | (go_at_call 144; refine HG.out.mono ?_; rintro e w1 ⟨rfl, hX⟩))
  all_goals
    have HL := Lib.hid hX
    have HT := Lib.hid (hT0.drew.then_ hX.2.2)
    clear hX hT0
    go_wp2
    go_ret
    exact ⟨rfl, HL.out.1, HL.out.2.1, HT.out⟩

set_option maxRecDepth 20000 in
set_option maxHeartbeats 1600000 in
theorem ptake_w2 (g b : Nat) (z : Reply) (r : Rs) (w : World) (hR : Rd w g r) (hA : Blk w b 51 z.vals) (hl : r.s.length ≤ 9223372036854775807) : Calls Tryz.prog 103 #[.pointer (some ⟨g, 0, none⟩), .pointer (some ⟨b, 0, none⟩), .int .i32 87] w fun e w' => e = .returned (.bool ((gotR Wcc.ok wccZ (rWcc r)).2 == 0)) ∧ Took8 g b ({ z with wcc2 := (gotR Wcc.ok wccZ (rWcc r)).1 }) ((rWcc r).2) w w' := by
  have hne : b ≠ g := Blk.ne_ hA hR.1 (by decide)
  obtain ⟨bh, bl, hB0, hs0⟩ := chain2_blks w [.pointer (some ⟨g, 0, none⟩)] [.int .i32 87] 167 21
  obtain ⟨w0, hw0⟩ : ∃ V, V = (w.alloc (.cells #[.pointer (some ⟨g, 0, none⟩)] 167)).alloc (.cells #[.int .i32 87] 21) := ⟨_, rfl⟩
  have hw0' := hw0
  replace bh : Blk w0 w.heap.size 167 [.pointer (some ⟨g, 0, none⟩)] := by rw [hw0]; exact bh
  replace bl : Blk w0 (w.heap.size + 1) 21 [.int .i32 87] := by rw [hw0]; exact bl
  replace hB0 : Below w.heap.size w w0 := by rw [hw0]; exact hB0
  have hgl := hR.lt
  have hbl := hA.lt
  have nh : w.heap.size ≠ g := by omega
  have nb : w.heap.size ≠ b := by omega
  have nb' : b ≠ w.heap.size := by omega
  have hR0 := hR.stays hB0
  have hA0 := hA.stays hB0
  have hT0 := Touch.of_below hB0 (fun k => k = g ∨ k = b)
  have HW0 := Lib.hid hw0
  clear hw0 hw0' hB0 hs0 hR hA
  have hG := both8_any g b 37 z.vals r w0.drew hR0 hA0 (by rw [Reply.len]; omega) hl
  have hset : ∀ p, setAt z.vals 37 p.vals = ({ z with wcc2 := p } : Reply).vals := fun p => rfl
  rw [hset] at hG
  generalize gotR Wcc.ok wccZ (rWcc r) = x at *
  generalize (rWcc r).2 = q at *
  have HG := Lib.hid hG
  have c1 : w0.cell? ⟨w.heap.size, 0, none⟩ = some (.pointer (some ⟨g, 0, none⟩)) := bh.cell 0
  clear hG hset hR0 hA0
  go_enter Tryz.func103, Tryz.ntmps103
  go_wp2_with fail
  rw [← HW0.out]
  go_region_held3 (fun V => V.cell? ⟨w.heap.size, 0, none⟩ = some (.pointer (some ⟨g, 0, none⟩))) (first | (with_reducible assumption) | exact c1 | exact (bh.drew.touch hX.2.2 (fun h => by omega)).cell 0) (first
    | (go_at_call 144; refine HG.out.mono ?_; rintro e w1 ⟨rfl, hX⟩))
  all_goals
    have HL := Lib.hid hX
    have HT := Lib.hid (hT0.drew.then_ hX.2.2)
    clear hX hT0
    go_wp2
    go_ret
    exact ⟨rfl, HL.out.1, HL.out.2.1, HT.out⟩

end Go.Proofs.YtfjflkmhhbhceaaGreatDoor
