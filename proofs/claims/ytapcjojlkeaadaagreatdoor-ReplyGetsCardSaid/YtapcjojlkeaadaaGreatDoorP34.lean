/-
  Layer 8, walks: the document takes the field of a letter, but for the rows (written by wip/tools/gentakef8.py). Conditions: a reader and results at blocks of their own.
-/
import Derived.Test.YtapcjojlkeaadaaGreatDoorP24
import Derived.Test.YtapcjojlkeaadaaGreatDoorP29
import Derived.Test.YtapcjojlkeaadaaGreatDoorP33
import Derived.Test.YtapcjojlkeaadaaGreatDoorP01
namespace Go.Proofs.YtapcjojlkeaadaaGreatDoor
open Go.RowKit
attribute [local go_sem ↓] Go.wp_at_zero Go.wp_at_succ
attribute [local go_sem] rowAt_ptr rowOf_drew rowOf_drewN rowOf_alloc_past rowOf_new
attribute [local go_sem ↓] ldPost ldWcc

structure TookF8 (g b : Nat) (z : Reply) (r : Rs) (w w' : World) : Prop where
  R : RdF w' g r
  C : Blk w' b 35 z.vals
  T : Touch (fun k => k = g ∨ k = b) w w'

set_option maxRecDepth 20000 in
set_option maxHeartbeats 1600000 in
theorem ftake_h (g b : Nat) (z : Reply) (r : Rs) (w : World) (hR : RdF w g r) (hA : Blk w b 35 z.vals) (hne : b ≠ g) (_hl : r.s.length ≤ 9223372036854775807) : Calls Tryz.prog 22 #[.pointer (some ⟨g, 0, none⟩), .pointer (some ⟨b, 0, none⟩), .int .u8 104] w fun e w' => e = .returned (.bool ((rOpaque 64 r).2.e == 0)) ∧ TookF8 g b ({ z with fh := (rOpaque 64 r).1 }) ((rOpaque 64 r).2) w w' := by
  have hG := refTextR_any g 64 r w hR _hl
  generalize rOpaque 64 r = x at *
  have HG := Lib.hid hG
  clear hG
  go_enter Tryz.func22, Tryz.ntmps22
  go_wp2_with fail
  refine HG.out.mono ?_
  rintro e w1 ⟨rfl, hQ⟩
  have hA1 : Blk w1 b 35 z.vals := hQ.keeps hA hne
  have hf := hA1.frozen 1
  have hc := hA1.cell 1
  have hc : (w1.cell? ⟨b, 1, none⟩).isSome = true := by rw [hc]; rfl
  obtain ⟨old, hc⟩ := Option.isSome_iff_exists.1 hc
  have hA2 : Blk (w1.setCell ⟨b, 1, none⟩ (.string (bs x.1))) b 35 ({ z with fh := x.1 } : Reply).vals := hA1.set_ 1 (.string (bs x.1))
  have hR2 : RdF (w1.setCell ⟨b, 1, none⟩ (.string (bs x.1))) g x.2 := hQ.1.touch ((Touch.refl (fun k => k = b) w1).setCell_ (g := b) (o := 1) (.inl rfl) (.string (bs x.1))) (fun e => hne e.symm)
  have hT2 : Touch (fun k => k = g ∨ k = b) w (w1.setCell ⟨b, 1, none⟩ (.string (bs x.1))) := (hQ.2.mono fun _ _ h => .inl h).setCell_ (g := b) (o := 1) (.inl (.inr rfl)) (.string (bs x.1))
  have hE := ReadsF.err hQ.1
  have hne' : ¬ b = g := hne
  have hne2 : ¬ g = b := fun e => hne e.symm
  have HL := Lib.hid (And.intro hR2 (And.intro hA2 hT2))
  clear hR2 hA2 hT2 hQ hA1 hA hR HG
  go_wp2
  go_ret
  exact ⟨rfl, HL.out.1, HL.out.2.1, HL.out.2.2⟩

set_option maxRecDepth 20000 in
set_option maxHeartbeats 1600000 in
theorem ftake_x (g b : Nat) (z : Reply) (r : Rs) (w : World) (hR : RdF w g r) (hA : Blk w b 35 z.vals) (hne : b ≠ g) (_hl : r.s.length ≤ 9223372036854775807) : Calls Tryz.prog 22 #[.pointer (some ⟨g, 0, none⟩), .pointer (some ⟨b, 0, none⟩), .int .u8 120] w fun e w' => e = .returned (.bool ((rU32 r).2.e == 0)) ∧ TookF8 g b ({ z with access := (rU32 r).1 }) ((rU32 r).2) w w' := by
  have hG := refU4_any g r w hR
  generalize rU32 r = x at *
  have HG := Lib.hid hG
  clear hG
  go_enter Tryz.func22, Tryz.ntmps22
  go_wp2_with fail
  refine HG.out.mono ?_
  rintro e w1 ⟨rfl, hQ⟩
  have hA1 : Blk w1 b 35 z.vals := hQ.keeps hA hne
  have hf := hA1.frozen 50
  have hc := hA1.cell 50
  have hc : (w1.cell? ⟨b, 50, none⟩).isSome = true := by rw [hc]; rfl
  obtain ⟨old, hc⟩ := Option.isSome_iff_exists.1 hc
  have hA2 : Blk (w1.setCell ⟨b, 50, none⟩ (.int .i64 x.1)) b 35 ({ z with access := x.1 } : Reply).vals := hA1.set_ 50 (.int .i64 x.1)
  have hR2 : RdF (w1.setCell ⟨b, 50, none⟩ (.int .i64 x.1)) g x.2 := hQ.1.touch ((Touch.refl (fun k => k = b) w1).setCell_ (g := b) (o := 50) (.inl rfl) (.int .i64 x.1)) (fun e => hne e.symm)
  have hT2 : Touch (fun k => k = g ∨ k = b) w (w1.setCell ⟨b, 50, none⟩ (.int .i64 x.1)) := (hQ.2.mono fun _ _ h => .inl h).setCell_ (g := b) (o := 50) (.inl (.inr rfl)) (.int .i64 x.1)
  have hE := ReadsF.err hQ.1
  have hne' : ¬ b = g := hne
  have hne2 : ¬ g = b := fun e => hne e.symm
  have HL := Lib.hid (And.intro hR2 (And.intro hA2 hT2))
  clear hR2 hA2 hT2 hQ hA1 hA hR HG
  go_wp2
  go_ret
  exact ⟨rfl, HL.out.1, HL.out.2.1, HL.out.2.2⟩

set_option maxRecDepth 20000 in
set_option maxHeartbeats 1600000 in
theorem ftake_c (g b : Nat) (z : Reply) (r : Rs) (w : World) (hR : RdF w g r) (hA : Blk w b 35 z.vals) (hne : b ≠ g) (_hl : r.s.length ≤ 9223372036854775807) : Calls Tryz.prog 22 #[.pointer (some ⟨g, 0, none⟩), .pointer (some ⟨b, 0, none⟩), .int .u8 99] w fun e w' => e = .returned (.bool ((rU32 r).2.e == 0)) ∧ TookF8 g b ({ z with count := (rU32 r).1 }) ((rU32 r).2) w w' := by
  have hG := refU4_any g r w hR
  generalize rU32 r = x at *
  have HG := Lib.hid hG
  clear hG
  go_enter Tryz.func22, Tryz.ntmps22
  go_wp2_with fail
  refine HG.out.mono ?_
  rintro e w1 ⟨rfl, hQ⟩
  have hA1 : Blk w1 b 35 z.vals := hQ.keeps hA hne
  have hf := hA1.frozen 51
  have hc := hA1.cell 51
  have hc : (w1.cell? ⟨b, 51, none⟩).isSome = true := by rw [hc]; rfl
  obtain ⟨old, hc⟩ := Option.isSome_iff_exists.1 hc
  have hA2 : Blk (w1.setCell ⟨b, 51, none⟩ (.int .i64 x.1)) b 35 ({ z with count := x.1 } : Reply).vals := hA1.set_ 51 (.int .i64 x.1)
  have hR2 : RdF (w1.setCell ⟨b, 51, none⟩ (.int .i64 x.1)) g x.2 := hQ.1.touch ((Touch.refl (fun k => k = b) w1).setCell_ (g := b) (o := 51) (.inl rfl) (.int .i64 x.1)) (fun e => hne e.symm)
  have hT2 : Touch (fun k => k = g ∨ k = b) w (w1.setCell ⟨b, 51, none⟩ (.int .i64 x.1)) := (hQ.2.mono fun _ _ h => .inl h).setCell_ (g := b) (o := 51) (.inl (.inr rfl)) (.int .i64 x.1)
  have hE := ReadsF.err hQ.1
  have hne' : ¬ b = g := hne
  have hne2 : ¬ g = b := fun e => hne e.symm
  have HL := Lib.hid (And.intro hR2 (And.intro hA2 hT2))
  clear hR2 hA2 hT2 hQ hA1 hA hR HG
  go_wp2
  go_ret
  exact ⟨rfl, HL.out.1, HL.out.2.1, HL.out.2.2⟩

set_option maxRecDepth 20000 in
set_option maxHeartbeats 1600000 in
theorem ftake_s (g b : Nat) (z : Reply) (r : Rs) (w : World) (hR : RdF w g r) (hA : Blk w b 35 z.vals) (hne : b ≠ g) (_hl : r.s.length ≤ 9223372036854775807) : Calls Tryz.prog 22 #[.pointer (some ⟨g, 0, none⟩), .pointer (some ⟨b, 0, none⟩), .int .u8 115] w fun e w' => e = .returned (.bool ((rU32 r).2.e == 0)) ∧ TookF8 g b ({ z with stable := (rU32 r).1 }) ((rU32 r).2) w w' := by
  have hG := refU4_any g r w hR
  generalize rU32 r = x at *
  have HG := Lib.hid hG
  clear hG
  go_enter Tryz.func22, Tryz.ntmps22
  go_wp2_with fail
  refine HG.out.mono ?_
  rintro e w1 ⟨rfl, hQ⟩
  have hA1 : Blk w1 b 35 z.vals := hQ.keeps hA hne
  have hf := hA1.frozen 54
  have hc := hA1.cell 54
  have hc : (w1.cell? ⟨b, 54, none⟩).isSome = true := by rw [hc]; rfl
  obtain ⟨old, hc⟩ := Option.isSome_iff_exists.1 hc
  have hA2 : Blk (w1.setCell ⟨b, 54, none⟩ (.int .i64 x.1)) b 35 ({ z with stable := x.1 } : Reply).vals := hA1.set_ 54 (.int .i64 x.1)
  have hR2 : RdF (w1.setCell ⟨b, 54, none⟩ (.int .i64 x.1)) g x.2 := hQ.1.touch ((Touch.refl (fun k => k = b) w1).setCell_ (g := b) (o := 54) (.inl rfl) (.int .i64 x.1)) (fun e => hne e.symm)
  have hT2 : Touch (fun k => k = g ∨ k = b) w (w1.setCell ⟨b, 54, none⟩ (.int .i64 x.1)) := (hQ.2.mono fun _ _ h => .inl h).setCell_ (g := b) (o := 54) (.inl (.inr rfl)) (.int .i64 x.1)
  have hE := ReadsF.err hQ.1
  have hne' : ¬ b = g := hne
  have hne2 : ¬ g = b := fun e => hne e.symm
  have HL := Lib.hid (And.intro hR2 (And.intro hA2 hT2))
  clear hR2 hA2 hT2 hQ hA1 hA hR HG
  go_wp2
  go_ret
  exact ⟨rfl, HL.out.1, HL.out.2.1, HL.out.2.2⟩

set_option maxRecDepth 20000 in
set_option maxHeartbeats 1600000 in
theorem ftake_v (g b : Nat) (z : Reply) (r : Rs) (w : World) (hR : RdF w g r) (hA : Blk w b 35 z.vals) (hne : b ≠ g) (_hl : r.s.length ≤ 9223372036854775807) : Calls Tryz.prog 22 #[.pointer (some ⟨g, 0, none⟩), .pointer (some ⟨b, 0, none⟩), .int .u8 118] w fun e w' => e = .returned (.bool ((rU64 r).2.e == 0)) ∧ TookF8 g b ({ z with verf := (rU64 r).1 }) ((rU64 r).2) w w' := by
  have hG := refU8_any g r w hR
  generalize rU64 r = x at *
  have HG := Lib.hid hG
  clear hG
  go_enter Tryz.func22, Tryz.ntmps22
  go_wp2_with fail
  refine HG.out.mono ?_
  rintro e w1 ⟨rfl, hQ⟩
  have hA1 : Blk w1 b 35 z.vals := hQ.keeps hA hne
  have hf := hA1.frozen 55
  have hc := hA1.cell 55
  have hc : (w1.cell? ⟨b, 55, none⟩).isSome = true := by rw [hc]; rfl
  obtain ⟨old, hc⟩ := Option.isSome_iff_exists.1 hc
  have hA2 : Blk (w1.setCell ⟨b, 55, none⟩ (.int .i64 x.1)) b 35 ({ z with verf := x.1 } : Reply).vals := hA1.set_ 55 (.int .i64 x.1)
  have hR2 : RdF (w1.setCell ⟨b, 55, none⟩ (.int .i64 x.1)) g x.2 := hQ.1.touch ((Touch.refl (fun k => k = b) w1).setCell_ (g := b) (o := 55) (.inl rfl) (.int .i64 x.1)) (fun e => hne e.symm)
  have hT2 : Touch (fun k => k = g ∨ k = b) w (w1.setCell ⟨b, 55, none⟩ (.int .i64 x.1)) := (hQ.2.mono fun _ _ h => .inl h).setCell_ (g := b) (o := 55) (.inl (.inr rfl)) (.int .i64 x.1)
  have hE := ReadsF.err hQ.1
  have hne' : ¬ b = g := hne
  have hne2 : ¬ g = b := fun e => hne e.symm
  have HL := Lib.hid (And.intro hR2 (And.intro hA2 hT2))
  clear hR2 hA2 hT2 hQ hA1 hA hR HG
  go_wp2
  go_ret
  exact ⟨rfl, HL.out.1, HL.out.2.1, HL.out.2.2⟩

set_option maxRecDepth 20000 in
set_option maxHeartbeats 1600000 in
theorem ftake_e (g b : Nat) (z : Reply) (r : Rs) (w : World) (hR : RdF w g r) (hA : Blk w b 35 z.vals) (hne : b ≠ g) (_hl : r.s.length ≤ 9223372036854775807) : Calls Tryz.prog 22 #[.pointer (some ⟨g, 0, none⟩), .pointer (some ⟨b, 0, none⟩), .int .u8 101] w fun e w' => e = .returned (.bool ((rBool r).2.e == 0)) ∧ TookF8 g b ({ z with eof := (rBool r).1 }) ((rBool r).2) w w' := by
  have hG := refTruthR_any g r w hR
  generalize rBool r = x at *
  have HG := Lib.hid hG
  clear hG
  go_enter Tryz.func22, Tryz.ntmps22
  go_wp2_with fail
  refine HG.out.mono ?_
  rintro e w1 ⟨rfl, hQ⟩
  have hA1 : Blk w1 b 35 z.vals := hQ.keeps hA hne
  have hf := hA1.frozen 52
  have hc := hA1.cell 52
  have hc : (w1.cell? ⟨b, 52, none⟩).isSome = true := by rw [hc]; rfl
  obtain ⟨old, hc⟩ := Option.isSome_iff_exists.1 hc
  have hA2 : Blk (w1.setCell ⟨b, 52, none⟩ (.bool x.1)) b 35 ({ z with eof := x.1 } : Reply).vals := hA1.set_ 52 (.bool x.1)
  have hR2 : RdF (w1.setCell ⟨b, 52, none⟩ (.bool x.1)) g x.2 := hQ.1.touch ((Touch.refl (fun k => k = b) w1).setCell_ (g := b) (o := 52) (.inl rfl) (.bool x.1)) (fun e => hne e.symm)
  have hT2 : Touch (fun k => k = g ∨ k = b) w (w1.setCell ⟨b, 52, none⟩ (.bool x.1)) := (hQ.2.mono fun _ _ h => .inl h).setCell_ (g := b) (o := 52) (.inl (.inr rfl)) (.bool x.1)
  have hE := ReadsF.err hQ.1
  have hne' : ¬ b = g := hne
  have hne2 : ¬ g = b := fun e => hne e.symm
  have HL := Lib.hid (And.intro hR2 (And.intro hA2 hT2))
  clear hR2 hA2 hT2 hQ hA1 hA hR HG
  go_wp2
  go_ret
  exact ⟨rfl, HL.out.1, HL.out.2.1, HL.out.2.2⟩

set_option maxRecDepth 20000 in
set_option maxHeartbeats 1600000 in
theorem ftake_d (g b : Nat) (z : Reply) (r : Rs) (w : World) (hR : RdF w g r) (hA : Blk w b 35 z.vals) (hne : b ≠ g) (_hl : r.s.length ≤ 9223372036854775807) : Calls Tryz.prog 22 #[.pointer (some ⟨g, 0, none⟩), .pointer (some ⟨b, 0, none⟩), .int .u8 100] w fun e w' => e = .returned (.bool ((rOpaque 256 r).2.e == 0)) ∧ TookF8 g b ({ z with data := (rOpaque 256 r).1 }) ((rOpaque 256 r).2) w w' := by
  have hG := refTextR_any g 256 r w hR _hl
  generalize rOpaque 256 r = x at *
  have HG := Lib.hid hG
  clear hG
  go_enter Tryz.func22, Tryz.ntmps22
  go_wp2_with fail
  refine HG.out.mono ?_
  rintro e w1 ⟨rfl, hQ⟩
  have hA1 : Blk w1 b 35 z.vals := hQ.keeps hA hne
  have hf := hA1.frozen 53
  have hc := hA1.cell 53
  have hc : (w1.cell? ⟨b, 53, none⟩).isSome = true := by rw [hc]; rfl
  obtain ⟨old, hc⟩ := Option.isSome_iff_exists.1 hc
  have hA2 : Blk (w1.setCell ⟨b, 53, none⟩ (.string (bs x.1))) b 35 ({ z with data := x.1 } : Reply).vals := hA1.set_ 53 (.string (bs x.1))
  have hR2 : RdF (w1.setCell ⟨b, 53, none⟩ (.string (bs x.1))) g x.2 := hQ.1.touch ((Touch.refl (fun k => k = b) w1).setCell_ (g := b) (o := 53) (.inl rfl) (.string (bs x.1))) (fun e => hne e.symm)
  have hT2 : Touch (fun k => k = g ∨ k = b) w (w1.setCell ⟨b, 53, none⟩ (.string (bs x.1))) := (hQ.2.mono fun _ _ h => .inl h).setCell_ (g := b) (o := 53) (.inl (.inr rfl)) (.string (bs x.1))
  have hE := ReadsF.err hQ.1
  have hne' : ¬ b = g := hne
  have hne2 : ¬ g = b := fun e => hne e.symm
  have HL := Lib.hid (And.intro hR2 (And.intro hA2 hT2))
  clear hR2 hA2 hT2 hQ hA1 hA hR HG
  go_wp2
  go_ret
  exact ⟨rfl, HL.out.1, HL.out.2.1, HL.out.2.2⟩

set_option maxRecDepth 20000 in
set_option maxHeartbeats 1600000 in
theorem ftake_a (g b : Nat) (z : Reply) (r : Rs) (w : World) (hR : RdF w g r) (hA : Blk w b 35 z.vals) (hne : b ≠ g) (_hl : r.s.length ≤ 9223372036854775807) : Calls Tryz.prog 22 #[.pointer (some ⟨g, 0, none⟩), .pointer (some ⟨b, 0, none⟩), .int .u8 97] w fun e w' => e = .returned (.bool ((gotR Post.ok postZ (rPost r)).2 == 0)) ∧ TookF8 g b ({ z with obj := (gotR Post.ok postZ (rPost r)).1 }) ((rPost r).2) w w' := by
  have hG := refGetPost_any g r w hR
  have hz0 : (gotR Post.ok postZ (rPost r)).2 = 0 → (rPost r).2.e = 0 := fun h => by
    unfold gotR at h
    split at h
    · next he => exact absurd h he
    · next he => simpa using he
  have hset : ∀ p : Post, setAt z.vals 2 p.vals = ({ z with obj := p } : Reply).vals := fun p => rfl
  simp only [gotV] at hG
  generalize gotR Post.ok postZ (rPost r) = x at *
  generalize (rPost r).2 = q at *
  obtain ⟨p, n⟩ := x
  simp only at hG hz0 ⊢
  have HG := Lib.hid hG
  clear hG
  go_enter Tryz.func22, Tryz.ntmps22
  go_wp2_with fail
  refine HG.out.mono ?_
  rintro e w1 ⟨rfl, hQ⟩
  have hA1 : Blk w1 b 35 z.vals := hQ.keeps hA hne
  obtain ⟨w2, hw2⟩ : ∃ V, V = w1.setCells b 2 p.vals := ⟨_, rfl⟩
  have hA2 : Blk w2 b 35 ({ z with obj := p } : Reply).vals := by rw [hw2, ← hset]; exact hA1.sets p.vals _ 2
  have hR2 : RdF w2 g q := by rw [hw2]; exact hQ.1.touch (Touch.setCells (F := fun k => k = b) (.inl rfl) p.vals 2 w1 (Touch.refl _ _)) (fun e => hne e.symm)
  have hT2 : Touch (fun k => k = g ∨ k = b) w w2 := by rw [hw2]; exact Touch.setCells (.inl (.inr rfl)) p.vals 2 w1 (hQ.2.mono fun _ _ h => .inl h)
  have HW2 := Lib.hid hw2
  have hE := ReadsF.err hR2
  have HL := Lib.hid (And.intro hR2 (And.intro hA2 hT2))
  clear hR2 hA2 hT2 hQ hA hR HG hw2 hset
  by_cases hn : n = 0
  · have hq := hz0 hn
    subst hn
    rw [hq] at hE
    go_wp2_with (first
      | (refine wpList_store_part (by rfl) 27 _ _ (by rfl) b 2 p.vals _ hA1 (by rw [Post.len, Reply.len]; omega) (by rfl) (by rfl) (by kernel_rfl) (Post.one _) ?_; rw [← HW2.out])
      | fail)
    go_ret
    exact ⟨rfl, HL.out.1, HL.out.2.1, HL.out.2.2⟩
  · have hn2 : (n == 0) = false := by simpa using hn
    clear hz0
    go_wp2_with (first
      | (refine wpList_store_part (by rfl) 27 _ _ (by rfl) b 2 p.vals _ hA1 (by rw [Post.len, Reply.len]; omega) (by rfl) (by rfl) (by kernel_rfl) (Post.one _) ?_; rw [← HW2.out])
      | fail)
    go_ret
    exact ⟨by rw [hn2]; rfl, HL.out.1, HL.out.2.1, HL.out.2.2⟩

set_option maxRecDepth 20000 in
set_option maxHeartbeats 1600000 in
theorem ftake_d2 (g b : Nat) (z : Reply) (r : Rs) (w : World) (hR : RdF w g r) (hA : Blk w b 35 z.vals) (hne : b ≠ g) (_hl : r.s.length ≤ 9223372036854775807) : Calls Tryz.prog 22 #[.pointer (some ⟨g, 0, none⟩), .pointer (some ⟨b, 0, none⟩), .int .u8 68] w fun e w' => e = .returned (.bool ((gotR Post.ok postZ (rPost r)).2 == 0)) ∧ TookF8 g b ({ z with dir := (gotR Post.ok postZ (rPost r)).1 }) ((rPost r).2) w w' := by
  have hG := refGetPost_any g r w hR
  have hz0 : (gotR Post.ok postZ (rPost r)).2 = 0 → (rPost r).2.e = 0 := fun h => by
    unfold gotR at h
    split at h
    · next he => exact absurd h he
    · next he => simpa using he
  have hset : ∀ p : Post, setAt z.vals 13 p.vals = ({ z with dir := p } : Reply).vals := fun p => rfl
  simp only [gotV] at hG
  generalize gotR Post.ok postZ (rPost r) = x at *
  generalize (rPost r).2 = q at *
  obtain ⟨p, n⟩ := x
  simp only at hG hz0 ⊢
  have HG := Lib.hid hG
  clear hG
  go_enter Tryz.func22, Tryz.ntmps22
  go_wp2_with fail
  refine HG.out.mono ?_
  rintro e w1 ⟨rfl, hQ⟩
  have hA1 : Blk w1 b 35 z.vals := hQ.keeps hA hne
  obtain ⟨w2, hw2⟩ : ∃ V, V = w1.setCells b 13 p.vals := ⟨_, rfl⟩
  have hA2 : Blk w2 b 35 ({ z with dir := p } : Reply).vals := by rw [hw2, ← hset]; exact hA1.sets p.vals _ 13
  have hR2 : RdF w2 g q := by rw [hw2]; exact hQ.1.touch (Touch.setCells (F := fun k => k = b) (.inl rfl) p.vals 13 w1 (Touch.refl _ _)) (fun e => hne e.symm)
  have hT2 : Touch (fun k => k = g ∨ k = b) w w2 := by rw [hw2]; exact Touch.setCells (.inl (.inr rfl)) p.vals 13 w1 (hQ.2.mono fun _ _ h => .inl h)
  have HW2 := Lib.hid hw2
  have hE := ReadsF.err hR2
  have HL := Lib.hid (And.intro hR2 (And.intro hA2 hT2))
  clear hR2 hA2 hT2 hQ hA hR HG hw2 hset
  by_cases hn : n = 0
  · have hq := hz0 hn
    subst hn
    rw [hq] at hE
    go_wp2_with (first
      | (refine wpList_store_part (by rfl) 27 _ _ (by rfl) b 13 p.vals _ hA1 (by rw [Post.len, Reply.len]; omega) (by rfl) (by rfl) (by kernel_rfl) (Post.one _) ?_; rw [← HW2.out])
      | fail)
    go_ret
    exact ⟨rfl, HL.out.1, HL.out.2.1, HL.out.2.2⟩
  · have hn2 : (n == 0) = false := by simpa using hn
    clear hz0
    go_wp2_with (first
      | (refine wpList_store_part (by rfl) 27 _ _ (by rfl) b 13 p.vals _ hA1 (by rw [Post.len, Reply.len]; omega) (by rfl) (by rfl) (by kernel_rfl) (Post.one _) ?_; rw [← HW2.out])
      | fail)
    go_ret
    exact ⟨by rw [hn2]; rfl, HL.out.1, HL.out.2.1, HL.out.2.2⟩

set_option maxRecDepth 20000 in
set_option maxHeartbeats 1600000 in
theorem ftake_w (g b : Nat) (z : Reply) (r : Rs) (w : World) (hR : RdF w g r) (hA : Blk w b 35 z.vals) (hne : b ≠ g) (_hl : r.s.length ≤ 9223372036854775807) : Calls Tryz.prog 22 #[.pointer (some ⟨g, 0, none⟩), .pointer (some ⟨b, 0, none⟩), .int .u8 119] w fun e w' => e = .returned (.bool ((gotR Wcc.ok wccZ (rWcc r)).2 == 0)) ∧ TookF8 g b ({ z with wcc := (gotR Wcc.ok wccZ (rWcc r)).1 }) ((rWcc r).2) w w' := by
  have hG := refGetWcc_any g r w hR
  have hz0 : (gotR Wcc.ok wccZ (rWcc r)).2 = 0 → (rWcc r).2.e = 0 := fun h => by
    unfold gotR at h
    split at h
    · next he => exact absurd h he
    · next he => simpa using he
  have hset : ∀ p : Wcc, setAt z.vals 24 p.vals = ({ z with wcc := p } : Reply).vals := fun p => rfl
  simp only [gotV] at hG
  generalize gotR Wcc.ok wccZ (rWcc r) = x at *
  generalize (rWcc r).2 = q at *
  obtain ⟨p, n⟩ := x
  simp only at hG hz0 ⊢
  have HG := Lib.hid hG
  clear hG
  go_enter Tryz.func22, Tryz.ntmps22
  go_wp2_with fail
  refine HG.out.mono ?_
  rintro e w1 ⟨rfl, hQ⟩
  have hA1 : Blk w1 b 35 z.vals := hQ.keeps hA hne
  obtain ⟨w2, hw2⟩ : ∃ V, V = w1.setCells b 24 p.vals := ⟨_, rfl⟩
  have hA2 : Blk w2 b 35 ({ z with wcc := p } : Reply).vals := by rw [hw2, ← hset]; exact hA1.sets p.vals _ 24
  have hR2 : RdF w2 g q := by rw [hw2]; exact hQ.1.touch (Touch.setCells (F := fun k => k = b) (.inl rfl) p.vals 24 w1 (Touch.refl _ _)) (fun e => hne e.symm)
  have hT2 : Touch (fun k => k = g ∨ k = b) w w2 := by rw [hw2]; exact Touch.setCells (.inl (.inr rfl)) p.vals 24 w1 (hQ.2.mono fun _ _ h => .inl h)
  have HW2 := Lib.hid hw2
  have hE := ReadsF.err hR2
  have HL := Lib.hid (And.intro hR2 (And.intro hA2 hT2))
  clear hR2 hA2 hT2 hQ hA hR HG hw2 hset
  by_cases hn : n = 0
  · have hq := hz0 hn
    subst hn
    rw [hq] at hE
    go_wp2_with (first
      | (refine wpList_store_part (by rfl) 31 _ _ (by rfl) b 24 p.vals _ hA1 (by rw [Wcc.len, Reply.len]; omega) (by rfl) (by rfl) (by kernel_rfl) (Wcc.one _) ?_; rw [← HW2.out])
      | fail)
    go_ret
    exact ⟨rfl, HL.out.1, HL.out.2.1, HL.out.2.2⟩
  · have hn2 : (n == 0) = false := by simpa using hn
    clear hz0
    go_wp2_with (first
      | (refine wpList_store_part (by rfl) 31 _ _ (by rfl) b 24 p.vals _ hA1 (by rw [Wcc.len, Reply.len]; omega) (by rfl) (by rfl) (by kernel_rfl) (Wcc.one _) ?_; rw [← HW2.out])
      | fail)
    go_ret
    exact ⟨by rw [hn2]; rfl, HL.out.1, HL.out.2.1, HL.out.2.2⟩

set_option maxRecDepth 20000 in
set_option maxHeartbeats 1600000 in
theorem ftake_w2 (g b : Nat) (z : Reply) (r : Rs) (w : World) (hR : RdF w g r) (hA : Blk w b 35 z.vals) (hne : b ≠ g) (_hl : r.s.length ≤ 9223372036854775807) : Calls Tryz.prog 22 #[.pointer (some ⟨g, 0, none⟩), .pointer (some ⟨b, 0, none⟩), .int .u8 87] w fun e w' => e = .returned (.bool ((gotR Wcc.ok wccZ (rWcc r)).2 == 0)) ∧ TookF8 g b ({ z with wcc2 := (gotR Wcc.ok wccZ (rWcc r)).1 }) ((rWcc r).2) w w' := by
  have hG := refGetWcc_any g r w hR
  have hz0 : (gotR Wcc.ok wccZ (rWcc r)).2 = 0 → (rWcc r).2.e = 0 := fun h => by
    unfold gotR at h
    split at h
    · next he => exact absurd h he
    · next he => simpa using he
  have hset : ∀ p : Wcc, setAt z.vals 37 p.vals = ({ z with wcc2 := p } : Reply).vals := fun p => rfl
  simp only [gotV] at hG
  generalize gotR Wcc.ok wccZ (rWcc r) = x at *
  generalize (rWcc r).2 = q at *
  obtain ⟨p, n⟩ := x
  simp only at hG hz0 ⊢
  have HG := Lib.hid hG
  clear hG
  go_enter Tryz.func22, Tryz.ntmps22
  go_wp2_with fail
  refine HG.out.mono ?_
  rintro e w1 ⟨rfl, hQ⟩
  have hA1 : Blk w1 b 35 z.vals := hQ.keeps hA hne
  obtain ⟨w2, hw2⟩ : ∃ V, V = w1.setCells b 37 p.vals := ⟨_, rfl⟩
  have hA2 : Blk w2 b 35 ({ z with wcc2 := p } : Reply).vals := by rw [hw2, ← hset]; exact hA1.sets p.vals _ 37
  have hR2 : RdF w2 g q := by rw [hw2]; exact hQ.1.touch (Touch.setCells (F := fun k => k = b) (.inl rfl) p.vals 37 w1 (Touch.refl _ _)) (fun e => hne e.symm)
  have hT2 : Touch (fun k => k = g ∨ k = b) w w2 := by rw [hw2]; exact Touch.setCells (.inl (.inr rfl)) p.vals 37 w1 (hQ.2.mono fun _ _ h => .inl h)
  have HW2 := Lib.hid hw2
  have hE := ReadsF.err hR2
  have HL := Lib.hid (And.intro hR2 (And.intro hA2 hT2))
  clear hR2 hA2 hT2 hQ hA hR HG hw2 hset
  by_cases hn : n = 0
  · have hq := hz0 hn
    subst hn
    rw [hq] at hE
    go_wp2_with (first
      | (refine wpList_store_part (by rfl) 31 _ _ (by rfl) b 37 p.vals _ hA1 (by rw [Wcc.len, Reply.len]; omega) (by rfl) (by rfl) (by kernel_rfl) (Wcc.one _) ?_; rw [← HW2.out])
      | fail)
    go_ret
    exact ⟨rfl, HL.out.1, HL.out.2.1, HL.out.2.2⟩
  · have hn2 : (n == 0) = false := by simpa using hn
    clear hz0
    go_wp2_with (first
      | (refine wpList_store_part (by rfl) 31 _ _ (by rfl) b 37 p.vals _ hA1 (by rw [Wcc.len, Reply.len]; omega) (by rfl) (by rfl) (by kernel_rfl) (Wcc.one _) ?_; rw [← HW2.out])
      | fail)
    go_ret
    exact ⟨by rw [hn2]; rfl, HL.out.1, HL.out.2.1, HL.out.2.2⟩

end Go.Proofs.YtapcjojlkeaadaaGreatDoor

/-
  Operations under other names: a region that draws its order (go_region_held3) then runs them in their place, not first. No condition.
-/
namespace Go.Proofs.YtapcjojlkeaadaaGreatDoor
def laterLd (T : TypeId) (x : Operand) : Op := Op.load T x
theorem laterLd_eq (T : TypeId) (x : Operand) : Op.load T x = laterLd T x := rfl
def laterCv (S T : TypeId) (x : Operand) : Op := Op.convert S T x
theorem laterCv_eq (S T : TypeId) (x : Operand) : Op.convert S T x = laterCv S T x := rfl
end Go.Proofs.YtapcjojlkeaadaaGreatDoor
