/-
  Layer 7, walks: the field of a letter is taken (written by wip/tools/gentaken.py). Conditions: a reader and a call at blocks of their own; machine texts.
-/
import Derived.Test.YthfhdighniiodaaDoorC13
import Derived.Test.YthfhdighniiodaaDoorC19
import Derived.Test.YthfhdighniiodaaDoorC20
namespace Go.Proofs.YthfhdighniiodaaDoor
open Go.RowKit
attribute [local go_sem ↓] Go.wp_at_zero Go.wp_at_succ
attribute [local go_sem] rowAt_ptr rowOf_drew rowOf_drewN rowOf_alloc_past rowOf_new
attribute [local go_sem ↓] ldSet ldOpt

theorem infoSettM : (Tryd.prog.info? 55).map (fun i => (i.zero, i.size)) = some (some (.agg settZ.vals.toArray), 10) := by kernel_rfl
/-- the field of a letter is taken -/
def cTk (c : Nat) (z : Call) (r : Rs) : Call × Rs :=
  if c = 102 then ({ z with fh := (rOpaque 64 r).1 }, (rOpaque 64 r).2) else
  if c = 70 then ({ z with fh2 := (rOpaque 64 r).1 }, (rOpaque 64 r).2) else
  if c = 110 then ({ z with name := (rOpaque 255 r).1 }, (rOpaque 255 r).2) else
  if c = 78 then ({ z with name2 := (rOpaque 255 r).1 }, (rOpaque 255 r).2) else
  if c = 116 then ({ z with text := (rOpaque 255 r).1 }, (rOpaque 255 r).2) else
  if c = 100 then ({ z with data := (rOpaque 256 r).1 }, (rOpaque 256 r).2) else
  if c = 111 then ({ z with offset := (rU64 r).1 }, (rU64 r).2) else
  if c = 107 then ({ z with cookie := (rU64 r).1 }, (rU64 r).2) else
  if c = 118 then ({ z with verf := (rU64 r).1 }, (rU64 r).2) else
  if c = 99 then ({ z with count := (rU32 r).1 }, (rU32 r).2) else
  if c = 104 then ({ z with how := (rU32 r).1 }, (rU32 r).2) else
  if c = 115 then ({ z with set := (gotR Sett.ok settZ (rSett r)).1 }, (rSett r).2) else
  if c = 103 then ({ z with guard := optOf (rOpt r).1 }, (rOpt r).2) else (z, r)
/-- may it be -/
def cTkOk (c : Nat) (r : Rs) : Bool := if c = 115 then (gotR Sett.ok settZ (rSett r)).2 == 0 else (cTk c callZ r).2.e == 0
structure Took (g b : Nat) (z : Call) (r : Rs) (w w' : World) : Prop where
  R : Rd w' g r
  C : Blk w' b 57 z.vals
  T : Touch (fun k => k = g ∨ k = b) w w'

theorem ctake_f (g b : Nat) (z : Call) (r : Rs) (w : World) (hR : Rd w g r) (hA : Blk w b 57 z.vals) (hl : r.s.length ≤ 9223372036854775807) : Calls Tryd.prog 79 #[.pointer (some ⟨g, 0, none⟩), .pointer (some ⟨b, 0, none⟩), .int .i32 102] w fun e w' => e = .returned (.bool (cTkOk 102 r)) ∧ Took g b (cTk 102 z r).1 (cTk 102 z r).2 w w' := by
  have hne : b ≠ g := Blk.ne_ hA hR.1 (by decide)
  have hS : cTkOk 102 r = ((rOpaque 64 r).2.e == 0) := rfl
  have hT : cTk 102 z r = ({ z with fh := (rOpaque 64 r).1 }, (rOpaque 64 r).2) := rfl
  have hG := rOpaque_any g 64 r w hR hl
  generalize rOpaque 64 r = x at *
  have HS := Lib.hid hS
  have HT := Lib.hid hT
  have HG := Lib.hid hG
  clear hS hT hG
  go_enter Tryd.func79, Tryd.ntmps79
  go_wp2_with fail
  refine HG.out.mono ?_
  rintro e w1 ⟨rfl, hQ⟩
  have hA1 : Blk w1 b 57 z.vals := hQ.keeps hA hne
  have hf := hA1.frozen
  have hc := hA1.cell
  have hA2 : Blk (w1.setCell ⟨b, 1, none⟩ (.string (bs x.1))) b 57 ({ z with fh := x.1 } : Call).vals := hA1.set_ 1 (.string (bs x.1))
  have hR2 : Rd (w1.setCell ⟨b, 1, none⟩ (.string (bs x.1))) g x.2 := hQ.1.touch ((Touch.refl (fun k => k = b) w1).setCell_ (g := b) (o := 1) (.inl rfl) (.string (bs x.1))) (fun e => hne e.symm)
  have hT2 : Touch (fun k => k = g ∨ k = b) w (w1.setCell ⟨b, 1, none⟩ (.string (bs x.1))) := (hQ.2.mono fun _ _ h => .inl h).setCell_ (g := b) (o := 1) (.inl (.inr rfl)) (.string (bs x.1))
  have HR2 := Lib.hid hR2
  have HA2 := Lib.hid hA2
  have HT2 := Lib.hid hT2
  clear hR2 hA2 hT2
  clear hQ hA1 hA hR HG
  go_wp2_with fail
  refine (rErr_any g x.2 _ HR2.out).mono ?_
  rintro e w3 ⟨rfl, rfl⟩
  go_wp2
  go_ret
  rw [HS.out, HT.out]
  exact ⟨rfl, HR2.out, HA2.out, HT2.out⟩

theorem ctake_f2 (g b : Nat) (z : Call) (r : Rs) (w : World) (hR : Rd w g r) (hA : Blk w b 57 z.vals) (hl : r.s.length ≤ 9223372036854775807) : Calls Tryd.prog 79 #[.pointer (some ⟨g, 0, none⟩), .pointer (some ⟨b, 0, none⟩), .int .i32 70] w fun e w' => e = .returned (.bool (cTkOk 70 r)) ∧ Took g b (cTk 70 z r).1 (cTk 70 z r).2 w w' := by
  have hne : b ≠ g := Blk.ne_ hA hR.1 (by decide)
  have hS : cTkOk 70 r = ((rOpaque 64 r).2.e == 0) := rfl
  have hT : cTk 70 z r = ({ z with fh2 := (rOpaque 64 r).1 }, (rOpaque 64 r).2) := rfl
  have hG := rOpaque_any g 64 r w hR hl
  generalize rOpaque 64 r = x at *
  have HS := Lib.hid hS
  have HT := Lib.hid hT
  have HG := Lib.hid hG
  clear hS hT hG
  go_enter Tryd.func79, Tryd.ntmps79
  go_wp2_with fail
  refine HG.out.mono ?_
  rintro e w1 ⟨rfl, hQ⟩
  have hA1 : Blk w1 b 57 z.vals := hQ.keeps hA hne
  have hf := hA1.frozen
  have hc := hA1.cell
  have hA2 : Blk (w1.setCell ⟨b, 3, none⟩ (.string (bs x.1))) b 57 ({ z with fh2 := x.1 } : Call).vals := hA1.set_ 3 (.string (bs x.1))
  have hR2 : Rd (w1.setCell ⟨b, 3, none⟩ (.string (bs x.1))) g x.2 := hQ.1.touch ((Touch.refl (fun k => k = b) w1).setCell_ (g := b) (o := 3) (.inl rfl) (.string (bs x.1))) (fun e => hne e.symm)
  have hT2 : Touch (fun k => k = g ∨ k = b) w (w1.setCell ⟨b, 3, none⟩ (.string (bs x.1))) := (hQ.2.mono fun _ _ h => .inl h).setCell_ (g := b) (o := 3) (.inl (.inr rfl)) (.string (bs x.1))
  have HR2 := Lib.hid hR2
  have HA2 := Lib.hid hA2
  have HT2 := Lib.hid hT2
  clear hR2 hA2 hT2
  clear hQ hA1 hA hR HG
  go_wp2_with fail
  refine (rErr_any g x.2 _ HR2.out).mono ?_
  rintro e w3 ⟨rfl, rfl⟩
  go_wp2
  go_ret
  rw [HS.out, HT.out]
  exact ⟨rfl, HR2.out, HA2.out, HT2.out⟩

theorem ctake_n (g b : Nat) (z : Call) (r : Rs) (w : World) (hR : Rd w g r) (hA : Blk w b 57 z.vals) (hl : r.s.length ≤ 9223372036854775807) : Calls Tryd.prog 79 #[.pointer (some ⟨g, 0, none⟩), .pointer (some ⟨b, 0, none⟩), .int .i32 110] w fun e w' => e = .returned (.bool (cTkOk 110 r)) ∧ Took g b (cTk 110 z r).1 (cTk 110 z r).2 w w' := by
  have hne : b ≠ g := Blk.ne_ hA hR.1 (by decide)
  have hS : cTkOk 110 r = ((rOpaque 255 r).2.e == 0) := rfl
  have hT : cTk 110 z r = ({ z with name := (rOpaque 255 r).1 }, (rOpaque 255 r).2) := rfl
  have hG := rOpaque_any g 255 r w hR hl
  generalize rOpaque 255 r = x at *
  have HS := Lib.hid hS
  have HT := Lib.hid hT
  have HG := Lib.hid hG
  clear hS hT hG
  go_enter Tryd.func79, Tryd.ntmps79
  go_wp2_with fail
  refine HG.out.mono ?_
  rintro e w1 ⟨rfl, hQ⟩
  have hA1 : Blk w1 b 57 z.vals := hQ.keeps hA hne
  have hf := hA1.frozen
  have hc := hA1.cell
  have hA2 : Blk (w1.setCell ⟨b, 2, none⟩ (.string (bs x.1))) b 57 ({ z with name := x.1 } : Call).vals := hA1.set_ 2 (.string (bs x.1))
  have hR2 : Rd (w1.setCell ⟨b, 2, none⟩ (.string (bs x.1))) g x.2 := hQ.1.touch ((Touch.refl (fun k => k = b) w1).setCell_ (g := b) (o := 2) (.inl rfl) (.string (bs x.1))) (fun e => hne e.symm)
  have hT2 : Touch (fun k => k = g ∨ k = b) w (w1.setCell ⟨b, 2, none⟩ (.string (bs x.1))) := (hQ.2.mono fun _ _ h => .inl h).setCell_ (g := b) (o := 2) (.inl (.inr rfl)) (.string (bs x.1))
  have HR2 := Lib.hid hR2
  have HA2 := Lib.hid hA2
  have HT2 := Lib.hid hT2
  clear hR2 hA2 hT2
  clear hQ hA1 hA hR HG
  go_wp2_with fail
  refine (rErr_any g x.2 _ HR2.out).mono ?_
  rintro e w3 ⟨rfl, rfl⟩
  go_wp2
  go_ret
  rw [HS.out, HT.out]
  exact ⟨rfl, HR2.out, HA2.out, HT2.out⟩

theorem ctake_n2 (g b : Nat) (z : Call) (r : Rs) (w : World) (hR : Rd w g r) (hA : Blk w b 57 z.vals) (hl : r.s.length ≤ 9223372036854775807) : Calls Tryd.prog 79 #[.pointer (some ⟨g, 0, none⟩), .pointer (some ⟨b, 0, none⟩), .int .i32 78] w fun e w' => e = .returned (.bool (cTkOk 78 r)) ∧ Took g b (cTk 78 z r).1 (cTk 78 z r).2 w w' := by
  have hne : b ≠ g := Blk.ne_ hA hR.1 (by decide)
  have hS : cTkOk 78 r = ((rOpaque 255 r).2.e == 0) := rfl
  have hT : cTk 78 z r = ({ z with name2 := (rOpaque 255 r).1 }, (rOpaque 255 r).2) := rfl
  have hG := rOpaque_any g 255 r w hR hl
  generalize rOpaque 255 r = x at *
  have HS := Lib.hid hS
  have HT := Lib.hid hT
  have HG := Lib.hid hG
  clear hS hT hG
  go_enter Tryd.func79, Tryd.ntmps79
  go_wp2_with fail
  refine HG.out.mono ?_
  rintro e w1 ⟨rfl, hQ⟩
  have hA1 : Blk w1 b 57 z.vals := hQ.keeps hA hne
  have hf := hA1.frozen
  have hc := hA1.cell
  have hA2 : Blk (w1.setCell ⟨b, 4, none⟩ (.string (bs x.1))) b 57 ({ z with name2 := x.1 } : Call).vals := hA1.set_ 4 (.string (bs x.1))
  have hR2 : Rd (w1.setCell ⟨b, 4, none⟩ (.string (bs x.1))) g x.2 := hQ.1.touch ((Touch.refl (fun k => k = b) w1).setCell_ (g := b) (o := 4) (.inl rfl) (.string (bs x.1))) (fun e => hne e.symm)
  have hT2 : Touch (fun k => k = g ∨ k = b) w (w1.setCell ⟨b, 4, none⟩ (.string (bs x.1))) := (hQ.2.mono fun _ _ h => .inl h).setCell_ (g := b) (o := 4) (.inl (.inr rfl)) (.string (bs x.1))
  have HR2 := Lib.hid hR2
  have HA2 := Lib.hid hA2
  have HT2 := Lib.hid hT2
  clear hR2 hA2 hT2
  clear hQ hA1 hA hR HG
  go_wp2_with fail
  refine (rErr_any g x.2 _ HR2.out).mono ?_
  rintro e w3 ⟨rfl, rfl⟩
  go_wp2
  go_ret
  rw [HS.out, HT.out]
  exact ⟨rfl, HR2.out, HA2.out, HT2.out⟩

theorem ctake_t (g b : Nat) (z : Call) (r : Rs) (w : World) (hR : Rd w g r) (hA : Blk w b 57 z.vals) (hl : r.s.length ≤ 9223372036854775807) : Calls Tryd.prog 79 #[.pointer (some ⟨g, 0, none⟩), .pointer (some ⟨b, 0, none⟩), .int .i32 116] w fun e w' => e = .returned (.bool (cTkOk 116 r)) ∧ Took g b (cTk 116 z r).1 (cTk 116 z r).2 w w' := by
  have hne : b ≠ g := Blk.ne_ hA hR.1 (by decide)
  have hS : cTkOk 116 r = ((rOpaque 255 r).2.e == 0) := rfl
  have hT : cTk 116 z r = ({ z with text := (rOpaque 255 r).1 }, (rOpaque 255 r).2) := rfl
  have hG := rOpaque_any g 255 r w hR hl
  generalize rOpaque 255 r = x at *
  have HS := Lib.hid hS
  have HT := Lib.hid hT
  have HG := Lib.hid hG
  clear hS hT hG
  go_enter Tryd.func79, Tryd.ntmps79
  go_wp2_with fail
  refine HG.out.mono ?_
  rintro e w1 ⟨rfl, hQ⟩
  have hA1 : Blk w1 b 57 z.vals := hQ.keeps hA hne
  have hf := hA1.frozen
  have hc := hA1.cell
  have hA2 : Blk (w1.setCell ⟨b, 23, none⟩ (.string (bs x.1))) b 57 ({ z with text := x.1 } : Call).vals := hA1.set_ 23 (.string (bs x.1))
  have hR2 : Rd (w1.setCell ⟨b, 23, none⟩ (.string (bs x.1))) g x.2 := hQ.1.touch ((Touch.refl (fun k => k = b) w1).setCell_ (g := b) (o := 23) (.inl rfl) (.string (bs x.1))) (fun e => hne e.symm)
  have hT2 : Touch (fun k => k = g ∨ k = b) w (w1.setCell ⟨b, 23, none⟩ (.string (bs x.1))) := (hQ.2.mono fun _ _ h => .inl h).setCell_ (g := b) (o := 23) (.inl (.inr rfl)) (.string (bs x.1))
  have HR2 := Lib.hid hR2
  have HA2 := Lib.hid hA2
  have HT2 := Lib.hid hT2
  clear hR2 hA2 hT2
  clear hQ hA1 hA hR HG
  go_wp2_with fail
  refine (rErr_any g x.2 _ HR2.out).mono ?_
  rintro e w3 ⟨rfl, rfl⟩
  go_wp2
  go_ret
  rw [HS.out, HT.out]
  exact ⟨rfl, HR2.out, HA2.out, HT2.out⟩

theorem ctake_d (g b : Nat) (z : Call) (r : Rs) (w : World) (hR : Rd w g r) (hA : Blk w b 57 z.vals) (hl : r.s.length ≤ 9223372036854775807) : Calls Tryd.prog 79 #[.pointer (some ⟨g, 0, none⟩), .pointer (some ⟨b, 0, none⟩), .int .i32 100] w fun e w' => e = .returned (.bool (cTkOk 100 r)) ∧ Took g b (cTk 100 z r).1 (cTk 100 z r).2 w w' := by
  have hne : b ≠ g := Blk.ne_ hA hR.1 (by decide)
  have hS : cTkOk 100 r = ((rOpaque 256 r).2.e == 0) := rfl
  have hT : cTk 100 z r = ({ z with data := (rOpaque 256 r).1 }, (rOpaque 256 r).2) := rfl
  have hG := rOpaque_any g 256 r w hR hl
  generalize rOpaque 256 r = x at *
  have HS := Lib.hid hS
  have HT := Lib.hid hT
  have HG := Lib.hid hG
  clear hS hT hG
  go_enter Tryd.func79, Tryd.ntmps79
  go_wp2_with fail
  refine HG.out.mono ?_
  rintro e w1 ⟨rfl, hQ⟩
  have hA1 : Blk w1 b 57 z.vals := hQ.keeps hA hne
  have hf := hA1.frozen
  have hc := hA1.cell
  have hA2 : Blk (w1.setCell ⟨b, 8, none⟩ (.string (bs x.1))) b 57 ({ z with data := x.1 } : Call).vals := hA1.set_ 8 (.string (bs x.1))
  have hR2 : Rd (w1.setCell ⟨b, 8, none⟩ (.string (bs x.1))) g x.2 := hQ.1.touch ((Touch.refl (fun k => k = b) w1).setCell_ (g := b) (o := 8) (.inl rfl) (.string (bs x.1))) (fun e => hne e.symm)
  have hT2 : Touch (fun k => k = g ∨ k = b) w (w1.setCell ⟨b, 8, none⟩ (.string (bs x.1))) := (hQ.2.mono fun _ _ h => .inl h).setCell_ (g := b) (o := 8) (.inl (.inr rfl)) (.string (bs x.1))
  have HR2 := Lib.hid hR2
  have HA2 := Lib.hid hA2
  have HT2 := Lib.hid hT2
  clear hR2 hA2 hT2
  clear hQ hA1 hA hR HG
  go_wp2_with fail
  refine (rErr_any g x.2 _ HR2.out).mono ?_
  rintro e w3 ⟨rfl, rfl⟩
  go_wp2
  go_ret
  rw [HS.out, HT.out]
  exact ⟨rfl, HR2.out, HA2.out, HT2.out⟩

theorem ctake_o (g b : Nat) (z : Call) (r : Rs) (w : World) (hR : Rd w g r) (hA : Blk w b 57 z.vals) (hl : r.s.length ≤ 9223372036854775807) : Calls Tryd.prog 79 #[.pointer (some ⟨g, 0, none⟩), .pointer (some ⟨b, 0, none⟩), .int .i32 111] w fun e w' => e = .returned (.bool (cTkOk 111 r)) ∧ Took g b (cTk 111 z r).1 (cTk 111 z r).2 w w' := by
  have hne : b ≠ g := Blk.ne_ hA hR.1 (by decide)
  have hS : cTkOk 111 r = ((rU64 r).2.e == 0) := rfl
  have hT : cTk 111 z r = ({ z with offset := (rU64 r).1 }, (rU64 r).2) := rfl
  have hG := rU64_any g r w hR hl
  generalize rU64 r = x at *
  have HS := Lib.hid hS
  have HT := Lib.hid hT
  have HG := Lib.hid hG
  clear hS hT hG
  go_enter Tryd.func79, Tryd.ntmps79
  go_wp2_with fail
  refine HG.out.mono ?_
  rintro e w1 ⟨rfl, hQ⟩
  have hA1 : Blk w1 b 57 z.vals := hQ.keeps hA hne
  have hf := hA1.frozen
  have hc := hA1.cell
  have hA2 : Blk (w1.setCell ⟨b, 5, none⟩ (.int .i64 x.1)) b 57 ({ z with offset := x.1 } : Call).vals := hA1.set_ 5 (.int .i64 x.1)
  have hR2 : Rd (w1.setCell ⟨b, 5, none⟩ (.int .i64 x.1)) g x.2 := hQ.1.touch ((Touch.refl (fun k => k = b) w1).setCell_ (g := b) (o := 5) (.inl rfl) (.int .i64 x.1)) (fun e => hne e.symm)
  have hT2 : Touch (fun k => k = g ∨ k = b) w (w1.setCell ⟨b, 5, none⟩ (.int .i64 x.1)) := (hQ.2.mono fun _ _ h => .inl h).setCell_ (g := b) (o := 5) (.inl (.inr rfl)) (.int .i64 x.1)
  have HR2 := Lib.hid hR2
  have HA2 := Lib.hid hA2
  have HT2 := Lib.hid hT2
  clear hR2 hA2 hT2
  clear hQ hA1 hA hR HG
  go_wp2_with fail
  refine (rErr_any g x.2 _ HR2.out).mono ?_
  rintro e w3 ⟨rfl, rfl⟩
  go_wp2
  go_ret
  rw [HS.out, HT.out]
  exact ⟨rfl, HR2.out, HA2.out, HT2.out⟩

theorem ctake_k (g b : Nat) (z : Call) (r : Rs) (w : World) (hR : Rd w g r) (hA : Blk w b 57 z.vals) (hl : r.s.length ≤ 9223372036854775807) : Calls Tryd.prog 79 #[.pointer (some ⟨g, 0, none⟩), .pointer (some ⟨b, 0, none⟩), .int .i32 107] w fun e w' => e = .returned (.bool (cTkOk 107 r)) ∧ Took g b (cTk 107 z r).1 (cTk 107 z r).2 w w' := by
  have hne : b ≠ g := Blk.ne_ hA hR.1 (by decide)
  have hS : cTkOk 107 r = ((rU64 r).2.e == 0) := rfl
  have hT : cTk 107 z r = ({ z with cookie := (rU64 r).1 }, (rU64 r).2) := rfl
  have hG := rU64_any g r w hR hl
  generalize rU64 r = x at *
  have HS := Lib.hid hS
  have HT := Lib.hid hT
  have HG := Lib.hid hG
  clear hS hT hG
  go_enter Tryd.func79, Tryd.ntmps79
  go_wp2_with fail
  refine HG.out.mono ?_
  rintro e w1 ⟨rfl, hQ⟩
  have hA1 : Blk w1 b 57 z.vals := hQ.keeps hA hne
  have hf := hA1.frozen
  have hc := hA1.cell
  have hA2 : Blk (w1.setCell ⟨b, 21, none⟩ (.int .i64 x.1)) b 57 ({ z with cookie := x.1 } : Call).vals := hA1.set_ 21 (.int .i64 x.1)
  have hR2 : Rd (w1.setCell ⟨b, 21, none⟩ (.int .i64 x.1)) g x.2 := hQ.1.touch ((Touch.refl (fun k => k = b) w1).setCell_ (g := b) (o := 21) (.inl rfl) (.int .i64 x.1)) (fun e => hne e.symm)
  have hT2 : Touch (fun k => k = g ∨ k = b) w (w1.setCell ⟨b, 21, none⟩ (.int .i64 x.1)) := (hQ.2.mono fun _ _ h => .inl h).setCell_ (g := b) (o := 21) (.inl (.inr rfl)) (.int .i64 x.1)
  have HR2 := Lib.hid hR2
  have HA2 := Lib.hid hA2
  have HT2 := Lib.hid hT2
  clear hR2 hA2 hT2
  clear hQ hA1 hA hR HG
  go_wp2_with fail
  refine (rErr_any g x.2 _ HR2.out).mono ?_
  rintro e w3 ⟨rfl, rfl⟩
  go_wp2
  go_ret
  rw [HS.out, HT.out]
  exact ⟨rfl, HR2.out, HA2.out, HT2.out⟩

theorem ctake_v (g b : Nat) (z : Call) (r : Rs) (w : World) (hR : Rd w g r) (hA : Blk w b 57 z.vals) (hl : r.s.length ≤ 9223372036854775807) : Calls Tryd.prog 79 #[.pointer (some ⟨g, 0, none⟩), .pointer (some ⟨b, 0, none⟩), .int .i32 118] w fun e w' => e = .returned (.bool (cTkOk 118 r)) ∧ Took g b (cTk 118 z r).1 (cTk 118 z r).2 w w' := by
  have hne : b ≠ g := Blk.ne_ hA hR.1 (by decide)
  have hS : cTkOk 118 r = ((rU64 r).2.e == 0) := rfl
  have hT : cTk 118 z r = ({ z with verf := (rU64 r).1 }, (rU64 r).2) := rfl
  have hG := rU64_any g r w hR hl
  generalize rU64 r = x at *
  have HS := Lib.hid hS
  have HT := Lib.hid hT
  have HG := Lib.hid hG
  clear hS hT hG
  go_enter Tryd.func79, Tryd.ntmps79
  go_wp2_with fail
  refine HG.out.mono ?_
  rintro e w1 ⟨rfl, hQ⟩
  have hA1 : Blk w1 b 57 z.vals := hQ.keeps hA hne
  have hf := hA1.frozen
  have hc := hA1.cell
  have hA2 : Blk (w1.setCell ⟨b, 22, none⟩ (.int .i64 x.1)) b 57 ({ z with verf := x.1 } : Call).vals := hA1.set_ 22 (.int .i64 x.1)
  have hR2 : Rd (w1.setCell ⟨b, 22, none⟩ (.int .i64 x.1)) g x.2 := hQ.1.touch ((Touch.refl (fun k => k = b) w1).setCell_ (g := b) (o := 22) (.inl rfl) (.int .i64 x.1)) (fun e => hne e.symm)
  have hT2 : Touch (fun k => k = g ∨ k = b) w (w1.setCell ⟨b, 22, none⟩ (.int .i64 x.1)) := (hQ.2.mono fun _ _ h => .inl h).setCell_ (g := b) (o := 22) (.inl (.inr rfl)) (.int .i64 x.1)
  have HR2 := Lib.hid hR2
  have HA2 := Lib.hid hA2
  have HT2 := Lib.hid hT2
  clear hR2 hA2 hT2
  clear hQ hA1 hA hR HG
  go_wp2_with fail
  refine (rErr_any g x.2 _ HR2.out).mono ?_
  rintro e w3 ⟨rfl, rfl⟩
  go_wp2
  go_ret
  rw [HS.out, HT.out]
  exact ⟨rfl, HR2.out, HA2.out, HT2.out⟩

theorem ctake_c (g b : Nat) (z : Call) (r : Rs) (w : World) (hR : Rd w g r) (hA : Blk w b 57 z.vals) (hl : r.s.length ≤ 9223372036854775807) : Calls Tryd.prog 79 #[.pointer (some ⟨g, 0, none⟩), .pointer (some ⟨b, 0, none⟩), .int .i32 99] w fun e w' => e = .returned (.bool (cTkOk 99 r)) ∧ Took g b (cTk 99 z r).1 (cTk 99 z r).2 w w' := by
  have hne : b ≠ g := Blk.ne_ hA hR.1 (by decide)
  have hS : cTkOk 99 r = ((rU32 r).2.e == 0) := rfl
  have hT : cTk 99 z r = ({ z with count := (rU32 r).1 }, (rU32 r).2) := rfl
  have hG := rU32_any g r w hR hl
  generalize rU32 r = x at *
  have HS := Lib.hid hS
  have HT := Lib.hid hT
  have HG := Lib.hid hG
  clear hS hT hG
  go_enter Tryd.func79, Tryd.ntmps79
  go_wp2_with fail
  refine HG.out.mono ?_
  rintro e w1 ⟨rfl, hQ⟩
  have hA1 : Blk w1 b 57 z.vals := hQ.keeps hA hne
  have hf := hA1.frozen
  have hc := hA1.cell
  have hA2 : Blk (w1.setCell ⟨b, 6, none⟩ (.int .i64 x.1)) b 57 ({ z with count := x.1 } : Call).vals := hA1.set_ 6 (.int .i64 x.1)
  have hR2 : Rd (w1.setCell ⟨b, 6, none⟩ (.int .i64 x.1)) g x.2 := hQ.1.touch ((Touch.refl (fun k => k = b) w1).setCell_ (g := b) (o := 6) (.inl rfl) (.int .i64 x.1)) (fun e => hne e.symm)
  have hT2 : Touch (fun k => k = g ∨ k = b) w (w1.setCell ⟨b, 6, none⟩ (.int .i64 x.1)) := (hQ.2.mono fun _ _ h => .inl h).setCell_ (g := b) (o := 6) (.inl (.inr rfl)) (.int .i64 x.1)
  have HR2 := Lib.hid hR2
  have HA2 := Lib.hid hA2
  have HT2 := Lib.hid hT2
  clear hR2 hA2 hT2
  clear hQ hA1 hA hR HG
  go_wp2_with fail
  refine (rErr_any g x.2 _ HR2.out).mono ?_
  rintro e w3 ⟨rfl, rfl⟩
  go_wp2
  go_ret
  rw [HS.out, HT.out]
  exact ⟨rfl, HR2.out, HA2.out, HT2.out⟩

theorem ctake_h (g b : Nat) (z : Call) (r : Rs) (w : World) (hR : Rd w g r) (hA : Blk w b 57 z.vals) (hl : r.s.length ≤ 9223372036854775807) : Calls Tryd.prog 79 #[.pointer (some ⟨g, 0, none⟩), .pointer (some ⟨b, 0, none⟩), .int .i32 104] w fun e w' => e = .returned (.bool (cTkOk 104 r)) ∧ Took g b (cTk 104 z r).1 (cTk 104 z r).2 w w' := by
  have hne : b ≠ g := Blk.ne_ hA hR.1 (by decide)
  have hS : cTkOk 104 r = ((rU32 r).2.e == 0) := rfl
  have hT : cTk 104 z r = ({ z with how := (rU32 r).1 }, (rU32 r).2) := rfl
  have hG := rU32_any g r w hR hl
  generalize rU32 r = x at *
  have HS := Lib.hid hS
  have HT := Lib.hid hT
  have HG := Lib.hid hG
  clear hS hT hG
  go_enter Tryd.func79, Tryd.ntmps79
  go_wp2_with fail
  refine HG.out.mono ?_
  rintro e w1 ⟨rfl, hQ⟩
  have hA1 : Blk w1 b 57 z.vals := hQ.keeps hA hne
  have hf := hA1.frozen
  have hc := hA1.cell
  have hA2 : Blk (w1.setCell ⟨b, 7, none⟩ (.int .i64 x.1)) b 57 ({ z with how := x.1 } : Call).vals := hA1.set_ 7 (.int .i64 x.1)
  have hR2 : Rd (w1.setCell ⟨b, 7, none⟩ (.int .i64 x.1)) g x.2 := hQ.1.touch ((Touch.refl (fun k => k = b) w1).setCell_ (g := b) (o := 7) (.inl rfl) (.int .i64 x.1)) (fun e => hne e.symm)
  have hT2 : Touch (fun k => k = g ∨ k = b) w (w1.setCell ⟨b, 7, none⟩ (.int .i64 x.1)) := (hQ.2.mono fun _ _ h => .inl h).setCell_ (g := b) (o := 7) (.inl (.inr rfl)) (.int .i64 x.1)
  have HR2 := Lib.hid hR2
  have HA2 := Lib.hid hA2
  have HT2 := Lib.hid hT2
  clear hR2 hA2 hT2
  clear hQ hA1 hA hR HG
  go_wp2_with fail
  refine (rErr_any g x.2 _ HR2.out).mono ?_
  rintro e w3 ⟨rfl, rfl⟩
  go_wp2
  go_ret
  rw [HS.out, HT.out]
  exact ⟨rfl, HR2.out, HA2.out, HT2.out⟩

set_option maxHeartbeats 800000 in
theorem ctake_g (g b : Nat) (z : Call) (r : Rs) (w : World) (hR : Rd w g r) (hA : Blk w b 57 z.vals) (hl : r.s.length ≤ 9223372036854775807) : Calls Tryd.prog 79 #[.pointer (some ⟨g, 0, none⟩), .pointer (some ⟨b, 0, none⟩), .int .i32 103] w fun e w' => e = .returned (.bool (cTkOk 103 r)) ∧ Took g b (cTk 103 z r).1 (cTk 103 z r).2 w w' := by
  have hne : b ≠ g := Blk.ne_ hA hR.1 (by decide)
  have hS : cTkOk 103 r = ((rOpt r).2.e == 0) := rfl
  have hT : cTk 103 z r = ({ z with guard := optOf (rOpt r).1 }, (rOpt r).2) := rfl
  have hG := rOpt_any g r w hR hl
  generalize rOpt r = x at *
  have HS := Lib.hid hS
  have HT := Lib.hid hT
  have HG := Lib.hid hG
  clear hS hT hG
  go_enter Tryd.func79, Tryd.ntmps79
  go_wp2_with fail
  refine HG.out.mono ?_
  rintro e w1 ⟨rfl, hQ⟩
  have hA1 : Blk w1 b 57 z.vals := hQ.keeps hA hne
  have hA2 : Blk (w1.setCells b 19 (optV x.1)) b 57 ({ z with guard := optOf x.1 } : Call).vals := hA1.sets (optV x.1) _ 19
  have hR2 : Rd (w1.setCells b 19 (optV x.1)) g x.2 := hQ.1.touch (Touch.setCells (F := fun k => k = b) (g := b) (.inl rfl) (optV x.1) 19 w1 (Touch.refl _ w1)) (fun e => hne e.symm)
  have hT2 : Touch (fun k => k = g ∨ k = b) w (w1.setCells b 19 (optV x.1)) := Touch.setCells (.inl (.inr rfl)) (optV x.1) 19 w1 (hQ.2.mono fun _ _ h => .inl h)
  have HR2 := Lib.hid hR2
  have HA2 := Lib.hid hA2
  have HT2 := Lib.hid hT2
  clear hR2 hA2 hT2
  clear hQ hA hR HG
  obtain ⟨w2, hw2⟩ : ∃ w2, w2 = (w1.setCells b 19 (optV x.1)) := ⟨_, rfl⟩
  rw [← hw2] at HR2 HA2 HT2
  have HW := Lib.hid hw2
  clear hw2
  go_wp2_with (first | (refine wpList_store_part (by rfl) 53 _ _ (by rfl) b 19 (optV x.1) _ hA1 (by simp [optV, Call.len]) (by rfl) (by rfl) (by kernel_rfl) (optV_one _) ?_; rw [← HW.out]) | fail)
  refine (rErr_any g x.2 _ HR2.out).mono ?_
  rintro e w3 ⟨rfl, rfl⟩
  go_wp2
  go_ret
  rw [HS.out, HT.out]
  exact ⟨rfl, HR2.out, HA2.out, HT2.out⟩

set_option maxHeartbeats 800000 in
theorem ctake_s (g b : Nat) (z : Call) (r : Rs) (w : World) (hR : Rd w g r) (hA : Blk w b 57 z.vals) (hl : r.s.length ≤ 9223372036854775807) : Calls Tryd.prog 79 #[.pointer (some ⟨g, 0, none⟩), .pointer (some ⟨b, 0, none⟩), .int .i32 115] w fun e w' => e = .returned (.bool (cTkOk 115 r)) ∧ Took g b (cTk 115 z r).1 (cTk 115 z r).2 w w' := by
  have hne : b ≠ g := Blk.ne_ hA hR.1 (by decide)
  have hS : cTkOk 115 r = ((gotR Sett.ok settZ (rSett r)).2 == 0) := rfl
  have hT : cTk 115 z r = ({ z with set := (gotR Sett.ok settZ (rSett r)).1 }, (rSett r).2) := rfl
  have hG := getSett_any g r w hR hl
  generalize gotR Sett.ok settZ (rSett r) = x at *
  generalize (rSett r).2 = r2 at *
  have HS := Lib.hid hS
  have HT := Lib.hid hT
  have HG := Lib.hid hG
  clear hS hT hG
  go_enter Tryd.func79, Tryd.ntmps79
  go_wp2_with fail
  refine HG.out.mono ?_
  rintro e w1 ⟨rfl, hQ⟩
  unfold gotV
  have hsz : (w1.alloc (.cells x.1.vals.toArray 55)).heap.size = w1.heap.size + 1 := by simp
  have hX := Blk.new w1 55 x.1.vals
  have hA1 : Blk (w1.alloc (.cells x.1.vals.toArray 55)) b 57 z.vals := (hQ.keeps hA hne).alloc _
  have hr : rowOf (w1.alloc (.cells x.1.vals.toArray 55)) w1.heap.size 0 10 = some x.1.vals.toArray := hX.row 0 10 (by simp [Sett.len])
  have hA2 : Blk ((w1.alloc (.cells x.1.vals.toArray 55)).setCells b 9 x.1.vals) b 57 ({ z with set := x.1 } : Call).vals := hA1.sets x.1.vals _ 9
  have hR2 : Rd ((w1.alloc (.cells x.1.vals.toArray 55)).setCells b 9 x.1.vals) g r2 := (hQ.1.stays ((Below.refl _ _).alloc (Nat.le_refl _) _)).touch (Touch.setCells (F := fun k => k = b) (g := b) (.inl rfl) x.1.vals 9 _ (Touch.refl _ _)) (fun e => hne e.symm)
  have hT2 : Touch (fun k => k = g ∨ k = b) w ((w1.alloc (.cells x.1.vals.toArray 55)).setCells b 9 x.1.vals) := Touch.setCells (.inl (.inr rfl)) x.1.vals 9 _ ((hQ.2.mono fun _ _ h => .inl h).alloc _)
  have HR2 := Lib.hid hR2
  have HA2 := Lib.hid hA2
  have HT2 := Lib.hid hT2
  clear hR2 hA2 hT2
  clear hQ hA hR HG hX
  obtain ⟨w2, hw2⟩ : ∃ w2, w2 = ((w1.alloc (.cells x.1.vals.toArray 55)).setCells b 9 x.1.vals) := ⟨_, rfl⟩
  rw [← hw2] at HR2 HA2 HT2
  have HW := Lib.hid hw2
  clear hw2
  have tok : True := trivial
  go_wp2_with (first
    | (clear tok; refine wpList_new_struct (by rfl) (by rfl) 55 (by rfl) _ _ (by rfl) x.1.vals infoSettM (by rfl) (by rfl) (Sett.one _) (by rfl) (by rfl) ?_)
    | (refine wpList_store_part (by rfl) 55 _ _ (by rfl) b 9 x.1.vals _ hA1 (by simp [Sett.len, Call.len]) (by rfl) (by rfl) (by kernel_rfl) (Sett.one _) ?_; rw [← HW.out])
    | fail)
  go_ret
  rw [HS.out, HT.out]
  exact ⟨rfl, HR2.out, HA2.out, HT2.out⟩

set_option maxHeartbeats 800000 in
theorem ctake_any (g b : Nat) (z : Call) (r : Rs) (c : Nat) (hc : cLetter c) (w : World) (hR : Rd w g r) (hA : Blk w b 57 z.vals) (hl : r.s.length ≤ 9223372036854775807) : Calls Tryd.prog 79 #[.pointer (some ⟨g, 0, none⟩), .pointer (some ⟨b, 0, none⟩), .int .i32 c] w fun e w' => e = .returned (.bool (cTkOk c r)) ∧ Took g b (cTk c z r).1 (cTk c z r).2 w w' := by
  rcases hc with rfl | rfl | rfl | rfl | rfl | rfl | rfl | rfl | rfl | rfl | rfl | rfl | rfl
  · exact ctake_f g b z r w hR hA hl
  · exact ctake_f2 g b z r w hR hA hl
  · exact ctake_n g b z r w hR hA hl
  · exact ctake_n2 g b z r w hR hA hl
  · exact ctake_t g b z r w hR hA hl
  · exact ctake_d g b z r w hR hA hl
  · exact ctake_o g b z r w hR hA hl
  · exact ctake_k g b z r w hR hA hl
  · exact ctake_v g b z r w hR hA hl
  · exact ctake_c g b z r w hR hA hl
  · exact ctake_h g b z r w hR hA hl
  · exact ctake_s g b z r w hR hA hl
  · exact ctake_g g b z r w hR hA hl
end Go.Proofs.YthfhdighniiodaaDoor