/-
  Layer 8, walks: the rows of results are taken (written by wip/tools/gentaken8b.py). Conditions: a reader and results at blocks of their own; machine texts.
-/
import Derived.Test.YtfjflkmhhbhceaaGreatDoorW22
import Derived.Test.YtfjflkmhhbhceaaGreatDoorW07
import Derived.Test.YtfjflkmhhbhceaaGreatDoorW16
import Derived.Test.YtfjflkmhhbhceaaGreatDoorW10
namespace Go.Proofs.YtfjflkmhhbhceaaGreatDoor
open Go.RowKit
attribute [local go_sem ↓] Go.wp_at_zero Go.wp_at_succ
attribute [local go_sem] rowAt_ptr rowOf_drew rowOf_drewN rowOf_alloc_past rowOf_new

theorem numsOk_e {r : Rs} (h : numsOk r = true) : (numsK (rU32 r).2 (rU32 r).1).2.e = 0 := by
  unfold numsOk at h
  simp at h
  exact h.2
theorem entsOk_e {whole : Bool} {r : Rs} (h : entsOk whole r = true) : (entsK whole (rU32 r).2 (rU32 r).1).2.e = 0 := by
  unfold entsOk at h
  simp at h
  obtain ⟨_, h0, h⟩ := h
  generalize (rU32 r).1 = n at *
  cases n with
  | zero => exact h0
  | succ n =>
    have := h n (by omega)
    unfold oneOk at this
    simp at this
    exact this.2
set_option maxRecDepth 20000 in
set_option maxHeartbeats 1600000 in
theorem ptake_n (g b : Nat) (z : Reply) (r : Rs) (w : World) (hR : Rd w g r) (hA : Blk w b 51 z.vals) (hl : r.s.length ≤ 9223372036854775807) : Calls Tryz.prog 103 #[.pointer (some ⟨g, 0, none⟩), .pointer (some ⟨b, 0, none⟩), .int .i32 110] w fun e w' => e = .returned (.bool (numsOk r)) ∧
    (numsOk r = true → ∃ A c, Took8 g b { z with ua := A, un := (numsK (rU32 r).2 (rU32 r).1).1.length, uc := c } (numsK (rU32 r).2 (rU32 r).1).2 w w' ∧ RowS w' w.heap.size 3 1 (.slice A (numsK (rU32 r).2 (rU32 r).1).1.length c) ((numsK (rU32 r).2 (rU32 r).1).1.map int1)) ∧ Touch (fun k => k = g ∨ k = b) w w' := by
  have hne : b ≠ g := Blk.ne_ hA hR.1 (by decide)
  obtain ⟨bh, bl, hB0, hs0⟩ := chain2_blks w [.pointer (some ⟨g, 0, none⟩)] [.int .i32 110] 167 21
  obtain ⟨w0, hw0⟩ : ∃ V, V = (w.alloc (.cells #[.pointer (some ⟨g, 0, none⟩)] 167)).alloc (.cells #[.int .i32 110] 21) := ⟨_, rfl⟩
  replace bh : Blk w0 w.heap.size 167 [.pointer (some ⟨g, 0, none⟩)] := by rw [hw0]; exact bh
  replace bl : Blk w0 (w.heap.size + 1) 21 [.int .i32 110] := by rw [hw0]; exact bl
  replace hB0 : Below w.heap.size w w0 := by rw [hw0]; exact hB0
  have hgl := hR.lt
  have hbl := hA.lt
  have nh : w.heap.size ≠ g := by omega
  have nb : w.heap.size ≠ b := by omega
  have nb' : b ≠ w.heap.size := by omega
  have hR0 := hR.stays hB0
  have hA0 := hA.stays hB0
  have hT0 := Touch.of_below hB0 (fun k => k = g ∨ k = b)
  have hz0 := hB0.size
  have HW0 := Lib.hid hw0
  clear hw0 hB0 hs0 hR hA
  have hG := someI_any g w.heap.size r w0 hR0 bh hl
  have HOKE := Lib.hid (show numsOk r = true → (numsK (rU32 r).2 (rU32 r).1).2.e = 0 from fun h => numsOk_e h)
  generalize numsOk r = OK at *
  generalize (numsK (rU32 r).2 (rU32 r).1).2 = Q at *
  generalize (numsK (rU32 r).2 (rU32 r).1).1 = us at *
  have HG := Lib.hid hG
  clear hG
  go_enter Tryz.func103, Tryz.ntmps103
  go_wp2_with fail
  rw [← HW0.out]
  refine HG.out.mono ?_
  rintro e w1 ⟨v, rfl, hok, hno, hT⟩
  have hA1 : Blk w1 b 51 z.vals := hA0.touch hT hne
  have bh1 := bh.touch hT nh
  have hf := hA1.frozen 57
  have hc := hA1.cell 57
  have c1 : w1.cell? ⟨w.heap.size, 0, none⟩ = some (.pointer (some ⟨g, 0, none⟩)) := bh1.cell 0
  have hc : (w1.cell? ⟨b, 57, none⟩).isSome = true := by rw [hc]; rfl
  obtain ⟨old, hc⟩ := Option.isSome_iff_exists.1 hc
  have hT1 : Touch (fun k => k = g ∨ k = b) w w1 := hT0.then_ (hT.mono fun _ _ h => .inl h)
  cases OK
  case false =>
    have hv := hno rfl
    subst hv
    have HT := Lib.hid (hT1.setCell_ (g := b) (o := 57) (.inl (.inr rfl)) (.slice none 0 0))
    clear hok hno hT hT1 hA1 hA0 hR0 HG hT0 bh bh1 bl
    go_wp2
    go_ret
    refine ⟨rfl, fun h => ?_, HT.out⟩
    cases h
  case true =>
    obtain ⟨hRow, hRd⟩ := hok rfl
    obtain ⟨A, cp, rfl, _⟩ := hRow.at_
    rw [List.length_map] at hRow hno
    have hRow1 : RowS w1 w.heap.size 3 1 (.slice A us.length cp) (us.map int1) := RowS.base hRow hz0
    have hRow2 : RowS (w1.setCell ⟨b, 57, none⟩ (.slice A us.length cp)) w.heap.size 3 1 (.slice A us.length cp) (us.map int1) :=
      RowS.touch hRow1 ((Touch.refl (fun k => k = b) w1).setCell_ (g := b) (o := 57) (.inl rfl) _) (fun j hj hg => by have := (RowS.lt hRow1 j hj).1; omega)
    have hA2 : Blk (w1.setCell ⟨b, 57, none⟩ (.slice A us.length cp)) b 51 ({ z with ua := A, un := us.length, uc := cp } : Reply).vals := hA1.set_ 57 (.slice A us.length cp)
    have hR2 : Rd (w1.setCell ⟨b, 57, none⟩ (.slice A us.length cp)) g Q := hRd.touch ((Touch.refl (fun k => k = b) w1).setCell_ (g := b) (o := 57) (.inl rfl) _) (fun e => hne e.symm)
    have hT2 := hT1.setCell_ (g := b) (o := 57) (.inl (.inr rfl)) (.slice A us.length cp)
    have HL := Lib.hid (And.intro hR2 (And.intro hA2 (And.intro hT2 hRow2)))
    have hQ0 := HOKE.out rfl
    clear hok hno hT hT1 hA1 hA0 hR0 HG hT0 bh bh1 bl hRow hRow1 hRow2 hA2 hR2 hT2 hRd
    rw [List.length_map]
    go_wp2_with fail
    refine (rErr_any g Q _ HL.out.1).mono ?_
    rintro e w3 ⟨rfl, rfl⟩
    rw [hQ0]
    go_wp2
    go_ret
    refine ⟨rfl, ?_, HL.out.2.2.1⟩
    first
    | exact ⟨A, cp, ⟨HL.out.1, HL.out.2.1, HL.out.2.2.1⟩, HL.out.2.2.2⟩
    | exact fun _ => ⟨A, cp, ⟨HL.out.1, HL.out.2.1, HL.out.2.2.1⟩, HL.out.2.2.2⟩

set_option maxRecDepth 20000 in
set_option maxHeartbeats 1600000 in
theorem ptake_l (g b : Nat) (z : Reply) (r : Rs) (w : World) (hR : Rd w g r) (hA : Blk w b 51 z.vals) (hl : r.s.length ≤ 9223372036854775807) : Calls Tryz.prog 103 #[.pointer (some ⟨g, 0, none⟩), .pointer (some ⟨b, 0, none⟩), .int .i32 108] w fun e w' => e = .returned (.bool (entsOk false r)) ∧
    (entsOk false r = true → ∃ A c, Took8 g b { z with ea := A, en := (entsK false (rU32 r).2 (rU32 r).1).1.length, ec := c } (entsK false (rU32 r).2 (rU32 r).1).2 w w' ∧ RowS w' w.heap.size 126 15 (.slice A (entsK false (rU32 r).2 (rU32 r).1).1.length c) ((entsK false (rU32 r).2 (rU32 r).1).1.map Entry.vals)) ∧ Touch (fun k => k = g ∨ k = b) w w' := by
  have hne : b ≠ g := Blk.ne_ hA hR.1 (by decide)
  obtain ⟨bh, bl, hB0, hs0⟩ := chain2_blks w [.pointer (some ⟨g, 0, none⟩)] [.int .i32 108] 167 21
  obtain ⟨w0, hw0⟩ : ∃ V, V = (w.alloc (.cells #[.pointer (some ⟨g, 0, none⟩)] 167)).alloc (.cells #[.int .i32 108] 21) := ⟨_, rfl⟩
  replace bh : Blk w0 w.heap.size 167 [.pointer (some ⟨g, 0, none⟩)] := by rw [hw0]; exact bh
  replace bl : Blk w0 (w.heap.size + 1) 21 [.int .i32 108] := by rw [hw0]; exact bl
  replace hB0 : Below w.heap.size w w0 := by rw [hw0]; exact hB0
  have hgl := hR.lt
  have hbl := hA.lt
  have nh : w.heap.size ≠ g := by omega
  have nb : w.heap.size ≠ b := by omega
  have nb' : b ≠ w.heap.size := by omega
  have hR0 := hR.stays hB0
  have hA0 := hA.stays hB0
  have hT0 := Touch.of_below hB0 (fun k => k = g ∨ k = b)
  have hz0 := hB0.size
  have HW0 := Lib.hid hw0
  clear hw0 hB0 hs0 hR hA
  have hG := someE_any g w.heap.size (w.heap.size + 1) 108 false rfl r w0 hR0 bh bl hl
  have HOKE := Lib.hid (show entsOk false r = true → (entsK false (rU32 r).2 (rU32 r).1).2.e = 0 from fun h => entsOk_e h)
  generalize entsOk false r = OK at *
  generalize (entsK false (rU32 r).2 (rU32 r).1).2 = Q at *
  generalize (entsK false (rU32 r).2 (rU32 r).1).1 = us at *
  have HG := Lib.hid hG
  clear hG
  go_enter Tryz.func103, Tryz.ntmps103
  go_wp2_with fail
  rw [← HW0.out]
  refine HG.out.mono ?_
  rintro e w1 ⟨v, rfl, hok, hno, hT⟩
  have hA1 : Blk w1 b 51 z.vals := hA0.touch hT hne
  have bh1 := bh.touch hT nh
  have hf := hA1.frozen 56
  have hc := hA1.cell 56
  have c1 : w1.cell? ⟨w.heap.size, 0, none⟩ = some (.pointer (some ⟨g, 0, none⟩)) := bh1.cell 0
  have hc : (w1.cell? ⟨b, 56, none⟩).isSome = true := by rw [hc]; rfl
  obtain ⟨old, hc⟩ := Option.isSome_iff_exists.1 hc
  have hT1 : Touch (fun k => k = g ∨ k = b) w w1 := hT0.then_ (hT.mono fun _ _ h => .inl h)
  cases OK
  case false =>
    have hv := hno rfl
    subst hv
    have HT := Lib.hid (hT1.setCell_ (g := b) (o := 56) (.inl (.inr rfl)) (.slice none 0 0))
    clear hok hno hT hT1 hA1 hA0 hR0 HG hT0 bh bh1 bl
    go_wp2
    go_ret
    refine ⟨rfl, fun h => ?_, HT.out⟩
    cases h
  case true =>
    obtain ⟨hRow, hRd⟩ := hok rfl
    obtain ⟨A, cp, rfl, _⟩ := hRow.at_
    rw [List.length_map] at hRow hno
    have hRow1 : RowS w1 w.heap.size 126 15 (.slice A us.length cp) (us.map Entry.vals) := RowS.base hRow hz0
    have hRow2 : RowS (w1.setCell ⟨b, 56, none⟩ (.slice A us.length cp)) w.heap.size 126 15 (.slice A us.length cp) (us.map Entry.vals) :=
      RowS.touch hRow1 ((Touch.refl (fun k => k = b) w1).setCell_ (g := b) (o := 56) (.inl rfl) _) (fun j hj hg => by have := (RowS.lt hRow1 j hj).1; omega)
    have hA2 : Blk (w1.setCell ⟨b, 56, none⟩ (.slice A us.length cp)) b 51 ({ z with ea := A, en := us.length, ec := cp } : Reply).vals := hA1.set_ 56 (.slice A us.length cp)
    have hR2 : Rd (w1.setCell ⟨b, 56, none⟩ (.slice A us.length cp)) g Q := hRd.touch ((Touch.refl (fun k => k = b) w1).setCell_ (g := b) (o := 56) (.inl rfl) _) (fun e => hne e.symm)
    have hT2 := hT1.setCell_ (g := b) (o := 56) (.inl (.inr rfl)) (.slice A us.length cp)
    have HL := Lib.hid (And.intro hR2 (And.intro hA2 (And.intro hT2 hRow2)))
    have hQ0 := HOKE.out rfl
    clear hok hno hT hT1 hA1 hA0 hR0 HG hT0 bh bh1 bl hRow hRow1 hRow2 hA2 hR2 hT2 hRd
    rw [List.length_map]
    go_wp2_with fail
    refine (rErr_any g Q _ HL.out.1).mono ?_
    rintro e w3 ⟨rfl, rfl⟩
    rw [hQ0]
    go_wp2
    go_ret
    refine ⟨rfl, ?_, HL.out.2.2.1⟩
    first
    | exact ⟨A, cp, ⟨HL.out.1, HL.out.2.1, HL.out.2.2.1⟩, HL.out.2.2.2⟩
    | exact fun _ => ⟨A, cp, ⟨HL.out.1, HL.out.2.1, HL.out.2.2.1⟩, HL.out.2.2.2⟩

set_option maxRecDepth 20000 in
set_option maxHeartbeats 1600000 in
theorem ptake_p (g b : Nat) (z : Reply) (r : Rs) (w : World) (hR : Rd w g r) (hA : Blk w b 51 z.vals) (hl : r.s.length ≤ 9223372036854775807) : Calls Tryz.prog 103 #[.pointer (some ⟨g, 0, none⟩), .pointer (some ⟨b, 0, none⟩), .int .i32 112] w fun e w' => e = .returned (.bool (entsOk true r)) ∧
    (entsOk true r = true → ∃ A c, Took8 g b { z with ea := A, en := (entsK true (rU32 r).2 (rU32 r).1).1.length, ec := c } (entsK true (rU32 r).2 (rU32 r).1).2 w w' ∧ RowS w' w.heap.size 126 15 (.slice A (entsK true (rU32 r).2 (rU32 r).1).1.length c) ((entsK true (rU32 r).2 (rU32 r).1).1.map Entry.vals)) ∧ Touch (fun k => k = g ∨ k = b) w w' := by
  have hne : b ≠ g := Blk.ne_ hA hR.1 (by decide)
  obtain ⟨bh, bl, hB0, hs0⟩ := chain2_blks w [.pointer (some ⟨g, 0, none⟩)] [.int .i32 112] 167 21
  obtain ⟨w0, hw0⟩ : ∃ V, V = (w.alloc (.cells #[.pointer (some ⟨g, 0, none⟩)] 167)).alloc (.cells #[.int .i32 112] 21) := ⟨_, rfl⟩
  replace bh : Blk w0 w.heap.size 167 [.pointer (some ⟨g, 0, none⟩)] := by rw [hw0]; exact bh
  replace bl : Blk w0 (w.heap.size + 1) 21 [.int .i32 112] := by rw [hw0]; exact bl
  replace hB0 : Below w.heap.size w w0 := by rw [hw0]; exact hB0
  have hgl := hR.lt
  have hbl := hA.lt
  have nh : w.heap.size ≠ g := by omega
  have nb : w.heap.size ≠ b := by omega
  have nb' : b ≠ w.heap.size := by omega
  have hR0 := hR.stays hB0
  have hA0 := hA.stays hB0
  have hT0 := Touch.of_below hB0 (fun k => k = g ∨ k = b)
  have hz0 := hB0.size
  have HW0 := Lib.hid hw0
  clear hw0 hB0 hs0 hR hA
  have hG := someE_any g w.heap.size (w.heap.size + 1) 112 true rfl r w0 hR0 bh bl hl
  have HOKE := Lib.hid (show entsOk true r = true → (entsK true (rU32 r).2 (rU32 r).1).2.e = 0 from fun h => entsOk_e h)
  generalize entsOk true r = OK at *
  generalize (entsK true (rU32 r).2 (rU32 r).1).2 = Q at *
  generalize (entsK true (rU32 r).2 (rU32 r).1).1 = us at *
  have HG := Lib.hid hG
  clear hG
  go_enter Tryz.func103, Tryz.ntmps103
  go_wp2_with fail
  rw [← HW0.out]
  refine HG.out.mono ?_
  rintro e w1 ⟨v, rfl, hok, hno, hT⟩
  have hA1 : Blk w1 b 51 z.vals := hA0.touch hT hne
  have bh1 := bh.touch hT nh
  have hf := hA1.frozen 56
  have hc := hA1.cell 56
  have c1 : w1.cell? ⟨w.heap.size, 0, none⟩ = some (.pointer (some ⟨g, 0, none⟩)) := bh1.cell 0
  have hc : (w1.cell? ⟨b, 56, none⟩).isSome = true := by rw [hc]; rfl
  obtain ⟨old, hc⟩ := Option.isSome_iff_exists.1 hc
  have hT1 : Touch (fun k => k = g ∨ k = b) w w1 := hT0.then_ (hT.mono fun _ _ h => .inl h)
  cases OK
  case false =>
    have hv := hno rfl
    subst hv
    have HT := Lib.hid (hT1.setCell_ (g := b) (o := 56) (.inl (.inr rfl)) (.slice none 0 0))
    clear hok hno hT hT1 hA1 hA0 hR0 HG hT0 bh bh1 bl
    go_wp2
    go_ret
    refine ⟨rfl, fun h => ?_, HT.out⟩
    cases h
  case true =>
    obtain ⟨hRow, hRd⟩ := hok rfl
    obtain ⟨A, cp, rfl, _⟩ := hRow.at_
    rw [List.length_map] at hRow hno
    have hRow1 : RowS w1 w.heap.size 126 15 (.slice A us.length cp) (us.map Entry.vals) := RowS.base hRow hz0
    have hRow2 : RowS (w1.setCell ⟨b, 56, none⟩ (.slice A us.length cp)) w.heap.size 126 15 (.slice A us.length cp) (us.map Entry.vals) :=
      RowS.touch hRow1 ((Touch.refl (fun k => k = b) w1).setCell_ (g := b) (o := 56) (.inl rfl) _) (fun j hj hg => by have := (RowS.lt hRow1 j hj).1; omega)
    have hA2 : Blk (w1.setCell ⟨b, 56, none⟩ (.slice A us.length cp)) b 51 ({ z with ea := A, en := us.length, ec := cp } : Reply).vals := hA1.set_ 56 (.slice A us.length cp)
    have hR2 : Rd (w1.setCell ⟨b, 56, none⟩ (.slice A us.length cp)) g Q := hRd.touch ((Touch.refl (fun k => k = b) w1).setCell_ (g := b) (o := 56) (.inl rfl) _) (fun e => hne e.symm)
    have hT2 := hT1.setCell_ (g := b) (o := 56) (.inl (.inr rfl)) (.slice A us.length cp)
    have HL := Lib.hid (And.intro hR2 (And.intro hA2 (And.intro hT2 hRow2)))
    have hQ0 := HOKE.out rfl
    clear hok hno hT hT1 hA1 hA0 hR0 HG hT0 bh bh1 bl hRow hRow1 hRow2 hA2 hR2 hT2 hRd
    rw [List.length_map]
    go_wp2_with fail
    refine (rErr_any g Q _ HL.out.1).mono ?_
    rintro e w3 ⟨rfl, rfl⟩
    rw [hQ0]
    go_wp2
    go_ret
    refine ⟨rfl, ?_, HL.out.2.2.1⟩
    first
    | exact ⟨A, cp, ⟨HL.out.1, HL.out.2.1, HL.out.2.2.1⟩, HL.out.2.2.2⟩
    | exact fun _ => ⟨A, cp, ⟨HL.out.1, HL.out.2.1, HL.out.2.2.1⟩, HL.out.2.2.2⟩

end Go.Proofs.YtfjflkmhhbhceaaGreatDoor

/-
  Layer 8, walks: the field of any letter is taken (written by wip/tools/gentaken8c.py). Conditions: a reader and results at blocks of their own; machine texts.
-/
namespace Go.Proofs.YtfjflkmhhbhceaaGreatDoor
open Go.RowKit
attribute [local go_sem ↓] Go.wp_at_zero Go.wp_at_succ
attribute [local go_sem] rowAt_ptr rowOf_drew rowOf_drewN rowOf_alloc_past rowOf_new

/-- results as data, at block b, their rows in blocks from B on -/
def There8 (B b : Nat) (d : RepD) (W : World) : Prop :=
  ∃ z : Reply, Blk W b 51 z.vals ∧ z.bare = d.f ∧ RowS W B 126 15 (.slice z.ea z.en z.ec) (d.es.map Entry.vals) ∧ RowS W B 3 1 (.slice z.ua z.un z.uc) (d.us.map int1)
def pLetter (c : Nat) : Prop := c = 104 ∨ c = 97 ∨ c = 68 ∨ c = 119 ∨ c = 87 ∨ c = 120 ∨ c = 99 ∨ c = 115 ∨ c = 118 ∨ c = 101 ∨ c = 100 ∨ c = 110 ∨ c = 108 ∨ c = 112
theorem RowS.past8 {w w' : World} {B e sz : Nat} {v : Value} {rows : List (List Value)} {g b : Nat} {r : Rs} {cs : List Value} (h : RowS w B e sz v rows) (hR : Rd w g r) (hA : Blk w b 51 cs) (h1 : e ≠ 200) (h2 : e ≠ 51) (hT : Touch (fun k => k = g ∨ k = b) w w') : RowS w' B e sz v rows :=
  RowS.touch h hT fun k hk hg => by
    rcases hg with rfl | rfl
    · exact Blk.own_ne h.2 hR.1 h1 hk
    · exact Blk.own_ne h.2 hA h2 hk
/-- what 'taken' gives -/
def TakenP (c : Nat) (g b B : Nat) (d : RepD) (r : Rs) (w : World) (e : Ending) (w' : World) : Prop :=
  e = .returned (.bool (pTkOk c r)) ∧ (pTkOk c r = true → There8 B b (pTk c d r).1 w' ∧ Rd w' g (pTk c d r).2) ∧ Touch (fun k => k = g ∨ k = b) w w'

theorem ptake_any (g b B : Nat) (d : RepD) (r : Rs) (c : Nat) (hc : pLetter c) (w : World) (hR : Rd w g r) (hD : There8 B b d w) (hB : B ≤ w.heap.size) (hl : r.s.length ≤ 9223372036854775807) :
    Calls Tryz.prog 103 #[.pointer (some ⟨g, 0, none⟩), .pointer (some ⟨b, 0, none⟩), .int .i32 c] w (TakenP c g b B d r w) := by
  obtain ⟨z, hA, hz, hE, hU⟩ := hD
  obtain ⟨df, des, dus⟩ := d
  simp only at hz hE hU
  subst hz
  rcases hc with rfl | rfl | rfl | rfl | rfl | rfl | rfl | rfl | rfl | rfl | rfl | rfl | rfl | rfl
  · refine (ptake_h g b z r w hR hA hl).mono ?_
    rintro e w' ⟨rfl, hT⟩
    exact ⟨rfl, fun _ => ⟨⟨_, hT.C, rfl, hE.past8 hR hA (by decide) (by decide) hT.T, hU.past8 hR hA (by decide) (by decide) hT.T⟩, hT.R⟩, hT.T⟩
  · refine (ptake_a g b z r w hR hA hl).mono ?_
    rintro e w' ⟨rfl, hT⟩
    exact ⟨rfl, fun _ => ⟨⟨_, hT.C, rfl, hE.past8 hR hA (by decide) (by decide) hT.T, hU.past8 hR hA (by decide) (by decide) hT.T⟩, hT.R⟩, hT.T⟩
  · refine (ptake_d2 g b z r w hR hA hl).mono ?_
    rintro e w' ⟨rfl, hT⟩
    exact ⟨rfl, fun _ => ⟨⟨_, hT.C, rfl, hE.past8 hR hA (by decide) (by decide) hT.T, hU.past8 hR hA (by decide) (by decide) hT.T⟩, hT.R⟩, hT.T⟩
  · refine (ptake_w g b z r w hR hA hl).mono ?_
    rintro e w' ⟨rfl, hT⟩
    exact ⟨rfl, fun _ => ⟨⟨_, hT.C, rfl, hE.past8 hR hA (by decide) (by decide) hT.T, hU.past8 hR hA (by decide) (by decide) hT.T⟩, hT.R⟩, hT.T⟩
  · refine (ptake_w2 g b z r w hR hA hl).mono ?_
    rintro e w' ⟨rfl, hT⟩
    exact ⟨rfl, fun _ => ⟨⟨_, hT.C, rfl, hE.past8 hR hA (by decide) (by decide) hT.T, hU.past8 hR hA (by decide) (by decide) hT.T⟩, hT.R⟩, hT.T⟩
  · refine (ptake_x g b z r w hR hA hl).mono ?_
    rintro e w' ⟨rfl, hT⟩
    exact ⟨rfl, fun _ => ⟨⟨_, hT.C, rfl, hE.past8 hR hA (by decide) (by decide) hT.T, hU.past8 hR hA (by decide) (by decide) hT.T⟩, hT.R⟩, hT.T⟩
  · refine (ptake_c g b z r w hR hA hl).mono ?_
    rintro e w' ⟨rfl, hT⟩
    exact ⟨rfl, fun _ => ⟨⟨_, hT.C, rfl, hE.past8 hR hA (by decide) (by decide) hT.T, hU.past8 hR hA (by decide) (by decide) hT.T⟩, hT.R⟩, hT.T⟩
  · refine (ptake_s g b z r w hR hA hl).mono ?_
    rintro e w' ⟨rfl, hT⟩
    exact ⟨rfl, fun _ => ⟨⟨_, hT.C, rfl, hE.past8 hR hA (by decide) (by decide) hT.T, hU.past8 hR hA (by decide) (by decide) hT.T⟩, hT.R⟩, hT.T⟩
  · refine (ptake_v g b z r w hR hA hl).mono ?_
    rintro e w' ⟨rfl, hT⟩
    exact ⟨rfl, fun _ => ⟨⟨_, hT.C, rfl, hE.past8 hR hA (by decide) (by decide) hT.T, hU.past8 hR hA (by decide) (by decide) hT.T⟩, hT.R⟩, hT.T⟩
  · refine (ptake_e g b z r w hR hA hl).mono ?_
    rintro e w' ⟨rfl, hT⟩
    exact ⟨rfl, fun _ => ⟨⟨_, hT.C, rfl, hE.past8 hR hA (by decide) (by decide) hT.T, hU.past8 hR hA (by decide) (by decide) hT.T⟩, hT.R⟩, hT.T⟩
  · refine (ptake_d g b z r w hR hA hl).mono ?_
    rintro e w' ⟨rfl, hT⟩
    exact ⟨rfl, fun _ => ⟨⟨_, hT.C, rfl, hE.past8 hR hA (by decide) (by decide) hT.T, hU.past8 hR hA (by decide) (by decide) hT.T⟩, hT.R⟩, hT.T⟩
  · refine (ptake_n g b z r w hR hA hl).mono ?_
    rintro e w' ⟨rfl, hok, hT⟩
    refine ⟨rfl, fun h => ?_, hT⟩
    obtain ⟨A, cp, hk, hrow⟩ := hok h
    exact ⟨⟨_, hk.C, rfl, hE.past8 hR hA (by decide) (by decide) hT, RowS.base hrow hB⟩, hk.R⟩
  · refine (ptake_l g b z r w hR hA hl).mono ?_
    rintro e w' ⟨rfl, hok, hT⟩
    refine ⟨rfl, fun h => ?_, hT⟩
    obtain ⟨A, cp, hk, hrow⟩ := hok h
    exact ⟨⟨_, hk.C, rfl, RowS.base hrow hB, hU.past8 hR hA (by decide) (by decide) hT⟩, hk.R⟩
  · refine (ptake_p g b z r w hR hA hl).mono ?_
    rintro e w' ⟨rfl, hok, hT⟩
    refine ⟨rfl, fun h => ?_, hT⟩
    obtain ⟨A, cp, hk, hrow⟩ := hok h
    exact ⟨⟨_, hk.C, rfl, RowS.base hrow hB, hU.past8 hR hA (by decide) (by decide) hT⟩, hk.R⟩
end Go.Proofs.YtfjflkmhhbhceaaGreatDoor


/-
  Layer 8, walks: the program's Get of results. Condition: texts of Go's length.
-/
namespace Go.Proofs.YtfjflkmhhbhceaaGreatDoor
open Go.RowKit
attribute [local go_sem ↓] Go.wp_at_zero Go.wp_at_succ
attribute [local go_sem] rowAt_ptr rowOf_drew rowOf_drewN rowOf_alloc_past rowOf_new
attribute [local go_sem ↓] ldReply

attribute [local go_sem] Reply.at0 Reply.lat0 Reply.at1 Reply.lat1 Reply.at2 Reply.lat2 Reply.at3 Reply.lat3 Reply.at4 Reply.lat4 Reply.at5 Reply.lat5 Reply.at6 Reply.lat6 Reply.at7 Reply.lat7 Reply.at8 Reply.lat8 Reply.at9 Reply.lat9 Reply.at10 Reply.lat10 Reply.at11 Reply.lat11 Reply.at12 Reply.lat12 Reply.at13 Reply.lat13 Reply.at14 Reply.lat14 Reply.at15 Reply.lat15 Reply.at16 Reply.lat16 Reply.at17 Reply.lat17 Reply.at18 Reply.lat18 Reply.at19 Reply.lat19 Reply.at20 Reply.lat20 Reply.at21 Reply.lat21 Reply.at22 Reply.lat22 Reply.at23 Reply.lat23 Reply.at24 Reply.lat24 Reply.at25 Reply.lat25 Reply.at26 Reply.lat26 Reply.at27 Reply.lat27 Reply.at28 Reply.lat28 Reply.at29 Reply.lat29 Reply.at30 Reply.lat30 Reply.at31 Reply.lat31 Reply.at32 Reply.lat32 Reply.at33 Reply.lat33 Reply.at34 Reply.lat34 Reply.at35 Reply.lat35 Reply.at36 Reply.lat36 Reply.at37 Reply.lat37 Reply.at38 Reply.lat38 Reply.at39 Reply.lat39 Reply.at40 Reply.lat40 Reply.at41 Reply.lat41 Reply.at42 Reply.lat42 Reply.at43 Reply.lat43 Reply.at44 Reply.lat44 Reply.at45 Reply.lat45 Reply.at46 Reply.lat46 Reply.at47 Reply.lat47 Reply.at48 Reply.lat48 Reply.at49 Reply.lat49 Reply.at50 Reply.lat50 Reply.at51 Reply.lat51 Reply.at52 Reply.lat52 Reply.at53 Reply.lat53 Reply.at54 Reply.lat54 Reply.at55 Reply.lat55 Reply.at56 Reply.lat56 Reply.at57 Reply.lat57 Reply.sub0_58 Reply.lsub0_58 Reply.sub2_11 Reply.lsub2_11 Reply.sub3_10 Reply.lsub3_10 Reply.sub13_11 Reply.lsub13_11 Reply.sub14_10 Reply.lsub14_10 Reply.sub24_13 Reply.lsub24_13 Reply.sub24_2 Reply.lsub24_2 Reply.sub26_11 Reply.lsub26_11 Reply.sub27_10 Reply.lsub27_10 Reply.sub37_13 Reply.lsub37_13 Reply.sub37_2 Reply.lsub37_2 Reply.sub39_11 Reply.lsub39_11 Reply.sub40_10 Reply.lsub40_10 Reply.len

theorem lettersPQ_ascii (fine : Bool) : ∀ s ∈ lettersPQ fine, ∀ c ∈ s, c.toNat < 128 ∧ pLetter c.toNat := by
  unfold pLetter
  cases fine <;> decide
theorem pFields_letter (p : Int) (fine : Bool) {k : Nat} (hk : k < (pFields p fine).length) : (pFields p fine)[k].toNat < 128 ∧ pLetter (pFields p fine)[k].toNat := by
  have hm : (pFields p fine)[k] ∈ pFields p fine := List.getElem_mem hk
  generalize (pFields p fine)[k] = c at *
  unfold pFields at hm
  split at hm
  · simp at hm
  · rcases Nat.lt_or_ge p.toNat (lettersPQ fine).length with h | h
    · have he : (lettersPQ fine).getD p.toNat [] = (lettersPQ fine)[p.toNat] := by simp [List.getD, List.getElem?_eq_getElem h]
      rw [he] at hm
      exact lettersPQ_ascii fine _ (List.getElem_mem h) _ hm
    · simp [List.getD, List.getElem?_eq_none h] at hm
/-- the results of bytes; none: there are none -/
def pGet (p : Int) (s : List UInt8) : Option RepD :=
  if (rU32 ⟨s, 0⟩).2.e ≠ 0 ∨ pKnown (rU32 ⟨s, 0⟩).1 = false then none
  else if (∀ k, k < (pFields p ((rU32 ⟨s, 0⟩).1 == 0)).length → pStOk (pFields p ((rU32 ⟨s, 0⟩).1 == 0)) (repS (rU32 ⟨s, 0⟩).1) (rU32 ⟨s, 0⟩).2 k = true) ∧
    rDone (pSt (pFields p ((rU32 ⟨s, 0⟩).1 == 0)) (repS (rU32 ⟨s, 0⟩).1) (rU32 ⟨s, 0⟩).2 (pFields p ((rU32 ⟨s, 0⟩).1 == 0)).length).2 = 0
  then some (pSt (pFields p ((rU32 ⟨s, 0⟩).1 == 0)) (repS (rU32 ⟨s, 0⟩).1) (rU32 ⟨s, 0⟩).2 (pFields p ((rU32 ⟨s, 0⟩).1 == 0)).length).1 else none
theorem Blk.ne_itr8 {w : World} {g b pos : Nat} {T : TypeId} {cs : List Value} {l : List UInt8} (h : Blk w g T cs) (hI : Itr w b l pos) : g ≠ b := by
  intro e
  subst e
  unfold Blk at h
  unfold Itr at hI
  rw [hI] at h
  cases h
theorem ite_of8 {α : Type} (P : α → Prop) {c : Prop} [Decidable c] {a b : α} (ha : P a) (hb : P b) : P (if c then a else b) := by split <;> assumption
theorem RowS.ne_itr {w : World} {B e sz : Nat} {v : Value} {rows : List (List Value)} {it : Nat} {l : List UInt8} {pos : Nat} (h : RowS w B e sz v rows) (hI : Itr w it l pos) (k : Nat) (hk : v.ownBlock = some k) : k ≠ it := by
  rintro rfl
  rcases h.2.2 with ⟨rfl, _⟩ | ⟨g, cap, cur, rfl, _, hh, _⟩
  · simp [Value.ownBlock] at hk
  · obtain rfl : g = k := by simpa [Value.ownBlock] using hk
    unfold Itr at hI
    rw [hI] at hh
    cases hh
theorem There8.setIter {B b it : Nat} {d : RepD} {W : World} {l : List UInt8} {pos : Nat} (h : There8 B b d W) (hI : Itr W it l pos) (p : Nat) : There8 B b d (W.setIter it l p) := by
  obtain ⟨z, hA, hz, hE, hU⟩ := h
  have hT := (Touch.refl (fun k => k = it) W).setIter (b := it) (.inl rfl) l p
  exact ⟨z, hA.farIter (hA.ne_itr8 hI) _ _, hz, RowS.touch hE hT (fun k hk hf => hE.ne_itr hI k hk hf), RowS.touch hU hT (fun k hk hf => hU.ne_itr hI k hk hf)⟩
theorem There8.stays {B b : Nat} {d : RepD} {W W' : World} (h : There8 B b d W) (hb : Below W.heap.size W W') : There8 B b d W' := by
  obtain ⟨z, hA, hz, hE, hU⟩ := h
  exact ⟨z, hA.stays hb, hz, RowS.stays hE hb, RowS.stays hU hb⟩
theorem pTk_len (c : Nat) (d : RepD) {r : Rs} (h : r.s.length ≤ 9223372036854775807) : (pTk c d r).2.s.length ≤ 9223372036854775807 := by
  have ho := fun n => Nat.le_trans (rOpaque_len8 (n := n) h) h
  have hp := rPost_len8 h
  have h4 := Nat.le_trans (rU32_len h) h
  have h8 := Nat.le_trans (rU64_len h) h
  have hb := Nat.le_trans (rBool_len h) h
  have hw : (rWcc r).2.s.length ≤ 9223372036854775807 := rPost_len8 (Nat.le_trans (rOpt_len h) h)
  have hn := numsK_len h4 (rU32 r).1
  have he := fun b => entsK_len (whole := b) h4 (rU32 r).1
  unfold pTk
  exact (ite_of8 (fun x : RepD × Rs => x.2.s.length ≤ 9223372036854775807) (ho _) (ite_of8 (fun x : RepD × Rs => x.2.s.length ≤ 9223372036854775807) hp (ite_of8 (fun x : RepD × Rs => x.2.s.length ≤ 9223372036854775807) hp (ite_of8 (fun x : RepD × Rs => x.2.s.length ≤ 9223372036854775807) hw (ite_of8 (fun x : RepD × Rs => x.2.s.length ≤ 9223372036854775807) hw (ite_of8 (fun x : RepD × Rs => x.2.s.length ≤ 9223372036854775807) h4 (ite_of8 (fun x : RepD × Rs => x.2.s.length ≤ 9223372036854775807) h4 (ite_of8 (fun x : RepD × Rs => x.2.s.length ≤ 9223372036854775807) h4 (ite_of8 (fun x : RepD × Rs => x.2.s.length ≤ 9223372036854775807) h8 (ite_of8 (fun x : RepD × Rs => x.2.s.length ≤ 9223372036854775807) hb (ite_of8 (fun x : RepD × Rs => x.2.s.length ≤ 9223372036854775807) (ho _) (ite_of8 (fun x : RepD × Rs => x.2.s.length ≤ 9223372036854775807) hn (ite_of8 (fun x : RepD × Rs => x.2.s.length ≤ 9223372036854775807) (he _) (ite_of8 (fun x : RepD × Rs => x.2.s.length ≤ 9223372036854775807) (he _) h))))))))))))))
theorem pSt_len (l : List UInt8) (d : RepD) {r : Rs} (h : r.s.length ≤ 9223372036854775807) (k : Nat) (hk : k ≤ l.length) : (pSt l d r k).2.s.length ≤ 9223372036854775807 := by
  induction k with
  | zero => exact h
  | succ k ih => rw [pSt_succ _ _ _ _ (by omega)]; exact pTk_len _ _ (ih (by omega))
/-- what Get gives -/
def GetP8 (x : Option RepD) (w : World) (e : Ending) (w' : World) : Prop :=
  (match x with
    | some d => ∃ z : Reply, e = .returned (.tuple #[.agg z.vals.toArray, .int .i64 0]) ∧ z.bare = d.f ∧ RowS w' w.heap.size 126 15 (.slice z.ea z.en z.ec) (d.es.map Entry.vals) ∧ RowS w' w.heap.size 3 1 (.slice z.ua z.un z.uc) (d.us.map int1)
    | none => e = .returned (.tuple #[.agg replyZ.vals.toArray, .int .i64 14])) ∧ Below w.heap.size w w'
theorem GetP8.no {x : Option RepD} {w w' : World} (h : x = none) (hB : Below w.heap.size w w') : GetP8 x w (.returned (.tuple #[.agg replyZ.vals.toArray, .int .i64 14])) w' := by subst h; exact ⟨rfl, hB⟩

set_option maxRecDepth 20000 in
set_option maxHeartbeats 3200000 in
theorem rget_any (p : Int) (hp : 0 ≤ p ∧ p ≤ 21) (s : List UInt8) (w : World) (hl : s.length ≤ 9223372036854775807) :
    Calls Tryz.prog 44 #[.int .i64 p, .string (bs s)] w (GetP8 (pGet p s) w) := by
  have b0 := Blk.new w 51 replyZ.vals
  have hB0 : Below w.heap.size w (w.alloc (.cells replyZ.vals.toArray 51)) := (Below.refl _ _).alloc (Nat.le_refl _) _
  have hs0 : (w.alloc (.cells replyZ.vals.toArray 51)).heap.size = w.heap.size + 1 := by simp
  have K := fun W g (h : Rd W g ⟨s, 0⟩) => rU32_any g ⟨s, 0⟩ W h hl
  have HP := Lib.hid (show pGet p s = if (rU32 ⟨s, 0⟩).2.e ≠ 0 ∨ pKnown (rU32 ⟨s, 0⟩).1 = false then none
    else if (∀ k, k < (pFields p ((rU32 ⟨s, 0⟩).1 == 0)).length → pStOk (pFields p ((rU32 ⟨s, 0⟩).1 == 0)) (repS (rU32 ⟨s, 0⟩).1) (rU32 ⟨s, 0⟩).2 k = true) ∧
      rDone (pSt (pFields p ((rU32 ⟨s, 0⟩).1 == 0)) (repS (rU32 ⟨s, 0⟩).1) (rU32 ⟨s, 0⟩).2 (pFields p ((rU32 ⟨s, 0⟩).1 == 0)).length).2 = 0
    then some (pSt (pFields p ((rU32 ⟨s, 0⟩).1 == 0)) (repS (rU32 ⟨s, 0⟩).1) (rU32 ⟨s, 0⟩).2 (pFields p ((rU32 ⟨s, 0⟩).1 == 0)).length).1 else none from rfl)
  have hq := Nat.le_trans (rU32_len (r := ⟨s, 0⟩) hl) hl
  generalize pGet p s = RES at *
  generalize rU32 ⟨s, 0⟩ = y at *
  obtain ⟨n, q⟩ := y
  simp only at K HP hq
  have K := Lib.hid K
  go_enter Tryz.func44, Tryz.ntmps44
  go_wp2_with fail
  change Calls _ _ _ (w.alloc (.cells replyZ.vals.toArray 51)) _
  generalize w.alloc (.cells replyZ.vals.toArray 51) = w0 at *
  refine (there8_any p _ hp).mono ?_
  rintro e w1 ⟨rfl, rfl⟩
  go_wp2_with fail
  refine (readNew_any s _).mono ?_
  rintro e w1 ⟨rfl, hR1, hB1⟩
  replace b0 := b0.stays hB1
  have hBB1 := below_then hB0 hB1
  rw [hs0] at hR1 ⊢
  clear hB0 hB1 hs0
  go_wp2_with fail
  refine (K.out _ _ hR1).mono ?_
  rintro e w2 ⟨rfl, hQ⟩
  have hg0 : w.heap.size ≠ w.heap.size + 1 := by omega
  replace b0 := b0.touch hQ.2 hg0
  have hlw := b0.lt
  have hB2 := hBB1.trans (hQ.2.below (B := w.heap.size) (fun k _ hk => by omega) hBB1.size)
  obtain ⟨z, hz⟩ : ∃ z : Reply, z = { replyZ with status := n } := ⟨_, rfl⟩
  have hx := (Below.refl w2.heap.size w2).alloc (Nat.le_refl _) (.cells z.vals.toArray 51)
  have x3 := Blk.new w2 51 z.vals
  obtain ⟨w3, hw3⟩ : ∃ V, V = w2.alloc (.cells z.vals.toArray 51) := ⟨_, rfl⟩
  rw [← hw3] at hx x3
  have HW3 := Lib.hid hw3
  have HZ := Lib.hid hz
  replace b0 := b0.stays hx
  have hR3 := hQ.1.stays hx
  have HB := Lib.hid (below_then hB2 hx)
  have c0 : w3.cell? ⟨w2.heap.size, 0, none⟩ = some (.int .i64 n) := by rw [x3.cell 0, HZ.out]; rfl
  clear hQ hB2 hx hw3 hz hBB1 hR1 K
  go_wp2_with (first
    | (refine wpList_store_new (by rfl) 51 _ _ (by rfl) z.vals replyZ.vals w2 51 rfl (by rfl) (by rfl) (by rw [HZ.out]; rfl) (by kernel_rfl) (Reply.one _) ?_; rw [← HW3.out])
    | fail)
  refine (rErr_any _ q _ hR3).mono ?_
  rintro e w4 ⟨rfl, rfl⟩
  by_cases he : q.e = 0
  case neg =>
    have he2 : (q.e != 0) = true := by simpa using he
    go_wp2_with (first | (refine wpList_store_whole (by rfl) 51 _ _ (by rfl) w.heap.size replyZ.vals _ b0 (by rfl) (by rfl) (by rfl) (by kernel_rfl) (Reply.one _) ?_) | fail)
    refine ret_cells2 w.heap.size 0 replyZ.vals (.int .i64 14) Tryz.results44 Tryz.underlying51 rfl (by kernel_rfl) rfl rfl (b0.whole (by rfl)).range rfl ?_
    exact GetP8.no (by rw [HP.out]; grind) (Below.setWhole HB.out (Nat.le_refl _) _)
  rw [he]
  go_wp2_with fail
  refine (replyKnown_any n _).mono ?_
  rintro e w4 ⟨rfl, hb⟩
  replace b0 := b0.stays hb
  replace x3 := x3.stays hb
  replace hR3 := hR3.stays hb
  replace HB := Lib.hid (below_then HB.out hb)
  have c0 : w4.cell? ⟨w2.heap.size, 0, none⟩ = some (.int .i64 n) := by rw [x3.cell 0, HZ.out]; rfl
  clear hb
  cases hk : pKnown n
  case false =>
    go_wp2_with (first | (refine wpList_store_whole (by rfl) 51 _ _ (by rfl) w.heap.size replyZ.vals _ b0 (by rfl) (by rfl) (by rfl) (by kernel_rfl) (Reply.one _) ?_) | fail)
    refine ret_cells2 w.heap.size 0 replyZ.vals (.int .i64 14) Tryz.results44 Tryz.underlying51 rfl (by kernel_rfl) rfl rfl (b0.whole (by rfl)).range rfl ?_
    exact GetP8.no (by rw [HP.out, if_pos (.inr hk)]) (Below.setWhole HB.out (Nat.le_refl _) _)
  have HP2 := Lib.hid (HP.out.trans (if_neg (show ¬ (q.e ≠ 0 ∨ pKnown n = false) by simp [he, hk])))
  obtain ⟨l, hlf⟩ : ∃ l, l = pFields p (n == 0) := ⟨_, rfl⟩
  have hlet : ∀ k (hk : k < l.length), l[k].toNat < 128 ∧ pLetter l[k].toNat := by rw [hlf]; exact fun k hk => pFields_letter p _ hk
  have KF := replyFields_any p (n == 0)
  rw [← hlf] at HP2 KF
  have KF := Lib.hid KF
  have hbe : ((n : Int) == 0) = (n == 0) := by rw [Bool.eq_iff_iff]; simp
  have HBE := Lib.hid hbe
  clear hlf HP hk hbe
  go_wp2_with fail
  rw [HBE.out]
  refine (KF.out _).mono ?_
  rintro e w5 ⟨rfl, hb⟩
  have hD0 : There8 w.heap.size w2.heap.size (repS n) w5 := ⟨z, x3.stays hb, by rw [HZ.out]; rfl, by rw [HZ.out]; exact RowS.none_, by rw [HZ.out]; exact RowS.none_⟩
  replace b0 := b0.stays hb
  replace hR3 := hR3.stays hb
  replace HB := Lib.hid (below_then HB.out hb)
  have hbw : w2.heap.size < w5.heap.size := Nat.lt_of_lt_of_le x3.lt hb.size
  have hI := Itr.new w5 l
  clear hb x3 c0 KF
  go_wp2
  have hx6 : Below w5.heap.size w5 (w5.iter (bs l) 0) := (Below.refl w5.heap.size w5).alloc (Nat.le_refl _) (.stringIter (bs l) 0)
  replace hD0 := hD0.stays hx6
  replace b0 := b0.stays hx6
  replace hR3 := hR3.stays hx6
  have hwi : w.heap.size ≤ w5.heap.size := HB.out.size
  replace HB := Lib.hid (below_then HB.out hx6)
  clear hx6
  generalize w5.iter (bs l) 0 = w6 at *
  generalize w5.heap.size = it at *
  have HST := Lib.hid (fun k (hk : k < l.length) => (show pStOk l (repS n) q k = pTkOk l[k].toNat (pSt l (repS n) q k).2 by simp [pStOk, List.getD, List.getElem?_eq_getElem hk]))
  have HSS := Lib.hid (fun k hk => pSt_succ l (repS n) q k hk)
  have HSL := Lib.hid (fun k hk => pSt_len l (repS n) hq k hk)
  go_loopw [9] (fun _ wr => ∃ k : Nat, k ≤ l.length ∧ (∀ j, j < k → pStOk l (repS n) q j = true) ∧ There8 w.heap.size w2.heap.size (pSt l (repS n) q k).1 wr ∧ Rd wr (w.heap.size + 1) (pSt l (repS n) q k).2 ∧ Blk wr w.heap.size 51 replyZ.vals ∧ Below w.heap.size w wr ∧ Itr wr it l k) (fun _ wr => l.length - itrPos wr it)
  case atStart => exact ⟨0, Nat.zero_le _, fun _ h => absurd h (Nat.not_lt_zero _), hD0, hR3, b0, HB.out, hI⟩
  case round =>
    clear hD0 hR3 b0 hI
    obtain ⟨k, hk, hall, hD, hR, b0, hB, hI⟩ := hrel
    by_cases hlk : k < l.length
    · have hn := fun ty => run_next_itr (P := Tryz.prog) hI hlk (hlet k hlk).1 ty
      have hD2 := hD.setIter hI (k + 1)
      have b2 := b0.farIter (b0.ne_itr8 hI) l (k + 1)
      have hR2 : Rd (wr.setIter it l (k + 1)) (w.heap.size + 1) (pSt l (repS n) q k).2 := ⟨hR.1.farIter (hR.1.ne_itr8 hI) l (k + 1), hR.2⟩
      have hI2 := hI.set_ (k + 1)
      have hB2 := Below.setIter hB (b := it) hwi l (k + 1)
      have KT := Lib.hid (ptake_any (w.heap.size + 1) w2.heap.size w.heap.size _ _ l[k].toNat (hlet k hlk).2 _ hR2 hD2 hB2.size (HSL.out k hk))
      go_wp2_with fail
      refine KT.out.mono ?_
      rintro e w7 ⟨rfl, hok, hT⟩
      have hI3 := hI2.touch hT (fun e => by
        rcases e with e | e
        · exact hR2.1.ne_itr8 hI2 e.symm
        · obtain ⟨_, hA, _⟩ := hD2
          exact hA.ne_itr8 hI2 e.symm)
      have hgb : w2.heap.size ≠ w.heap.size := by omega
      have b3 := b2.touch hT (fun e => by rcases e with e | e <;> omega)
      have hB3 := hB2.trans (hT.below (B := w.heap.size) (fun j _ hf => by rcases hf with rfl | rfl <;> omega) hB2.size)
      cases hb : pTkOk l[k].toNat (pSt l (repS n) q k).2
      case true =>
        obtain ⟨hD3, hR3⟩ := hok hb
        rw [← HSS.out k hlk] at hD3 hR3
        have HALL := Lib.hid (show ∀ j, j < k + 1 → pStOk l (repS n) q j = true from fun j hj => by
          rcases Nat.lt_or_ge j k with h | h
          · exact hall j h
          · obtain rfl : j = k := by omega
            rw [HST.out j hlk]; exact hb)
        have hp1 := hI.pos_
        have hp3 := hI3.pos_
        clear hn hD hD2 hR hR2 hI hI2 hB hB2 b0 b2 hok hall KT hT
        go_wp2
        go_roundw
        case rel => exact ⟨k + 1, by omega, HALL.out, hD3, hR3, b3, hB3, hI3⟩
        case measure => rw [hp1, hp3]; omega
      case false =>
        have HN := Lib.hid (show RES = none by
          rw [HP2.out]
          refine if_neg fun h => ?_
          have := h.1 k hlk
          rw [HST.out k hlk, hb] at this
          cases this)
        have b0 := b3
        have HB := Lib.hid hB3
        clear hn hD hD2 hR hR2 hI hI2 hI3 hB hB2 b2 hok hall KT hT
        go_wp2_with (first | (refine wpList_store_whole (by rfl) 51 _ _ (by rfl) w.heap.size replyZ.vals _ b0 (by rfl) (by rfl) (by rfl) (by kernel_rfl) (Reply.one _) ?_) | fail)
        refine ret_cells2 w.heap.size 0 replyZ.vals (.int .i64 14) Tryz.results44 Tryz.underlying51 rfl (by kernel_rfl) rfl rfl (b0.whole (by rfl)).range rfl ?_
        exact GetP8.no HN.out (Below.setWhole HB.out (Nat.le_refl _) _)
    · have hn := fun ty => run_next_itr_end (P := Tryz.prog) hI hlk ty
      obtain rfl : k = l.length := by omega
      have HB := Lib.hid hB
      have HALL := Lib.hid hall
      have HD := Lib.hid hD
      have HR := Lib.hid hR
      clear hB hall hD hR
      go_wp2_with fail
      refine (rDone_any _ _ _ HR.out).mono ?_
      rintro e w7 ⟨rfl, rfl⟩
      by_cases hd : rDone (pSt l (repS n) q l.length).2 = 0
      case neg =>
        have HN := Lib.hid (show RES = none by
          rw [HP2.out]
          exact if_neg fun h => hd h.2)
        have hd2 : (rDone (pSt l (repS n) q l.length).2 != 0) = true := by simpa using hd
        go_wp2_with (first | (refine wpList_store_whole (by rfl) 51 _ _ (by rfl) w.heap.size replyZ.vals _ b0 (by rfl) (by rfl) (by rfl) (by kernel_rfl) (Reply.one _) ?_) | fail)
        refine ret_cells2 w.heap.size 0 replyZ.vals (.int .i64 14) Tryz.results44 Tryz.underlying51 rfl (by kernel_rfl) rfl rfl (b0.whole (by rfl)).range rfl ?_
        exact GetP8.no HN.out (Below.setWhole HB.out (Nat.le_refl _) _)
      have HS := Lib.hid (show RES = some (pSt l (repS n) q l.length).1 by
        rw [HP2.out]
        exact if_pos ⟨HALL.out, hd⟩)
      rw [hd]
      obtain ⟨z', hA, hz', hE, hU⟩ := HD.out
      have r4 := hA.row 0 58 (by simp [Reply.len])
      rw [show (z'.vals.drop 0).take 58 = z'.vals by rw [List.drop_zero, List.take_of_length_le (by rw [Reply.len]; omega)]] at r4
      have hTz := Touch.setCells (F := fun k => k = w.heap.size) (g := w.heap.size) (.inl rfl) z'.vals 0 wr (Touch.refl _ _)
      have hE2 := RowS.touch hE hTz (fun k hk hf => by subst hf; exact Blk.own_ne hE.2 b0 (by decide) hk)
      have hU2 := RowS.touch hU hTz (fun k hk hf => by subst hf; exact Blk.own_ne hU.2 b0 (by decide) hk)
      have HL := Lib.hid (And.intro hz' (And.intro hE2 (And.intro hU2 (Below.setWhole HB.out (Nat.le_refl _) z'.vals))))
      clear hz' hE hU hE2 hU2 hTz hA hn hlet
      go_wp2_with (first | (refine wpList_store_whole (by rfl) 51 _ _ (by rfl) w.heap.size z'.vals _ b0 (by rfl) (by rfl) (by rfl) (by kernel_rfl) (Reply.one _) ?_) | fail)
      refine ret_cells2 w.heap.size 0 z'.vals (.int .i64 0) Tryz.results44 Tryz.underlying51 rfl (by kernel_rfl) rfl rfl (b0.whole (by rfl)).range rfl ?_
      rw [HS.out]
      exact ⟨⟨z', rfl, HL.out.1, HL.out.2.1, HL.out.2.2.1⟩, HL.out.2.2.2⟩
end Go.Proofs.YtfjflkmhhbhceaaGreatDoor


/-
  Layer 8 in plain words: what is taken of results, laid once more, is the bytes. Condition: a machine text.
-/
namespace Go.Proofs.YtfjflkmhhbhceaaGreatDoor
open Go.RowKit

/-- an entry's bytes -/
def entB (whole : Bool) (x : Entry) : List UInt8 := num x.gen.toNat 8 ++ opq x.name ++ num x.cookie.toNat 8 ++ (if whole then x.attr.bytes ++ opq x.fh else [])
def numB (n : Int) : List UInt8 := num n.toNat 8
/-- the bytes of a letter's field -/
def rB8 (d : RepD) (c : Nat) : List UInt8 :=
  if c = 104 then opq d.f.fh
  else if c = 97 then d.f.obj.bytes
  else if c = 68 then d.f.dir.bytes
  else if c = 119 then d.f.wcc.bytes
  else if c = 87 then d.f.wcc2.bytes
  else if c = 120 then num d.f.access.toNat 4
  else if c = 99 then num d.f.count.toNat 4
  else if c = 115 then num d.f.stable.toNat 4
  else if c = 118 then num d.f.verf.toNat 8
  else if c = 101 then truth d.f.eof
  else if c = 100 then opq d.f.data
  else if c = 110 then num d.us.length 4 ++ d.us.flatMap numB
  else if c = 108 then num d.es.length 4 ++ d.es.flatMap (entB false)
  else if c = 112 then num d.es.length 4 ++ d.es.flatMap (entB true)
  else []
def numM (n : Int) : Prop := 0 ≤ n ∧ n ≤ 9223372036854775807
def entM (whole : Bool) (x : Entry) : Prop := numM x.gen ∧ x.name.length ≤ 255 ∧ numM x.cookie ∧ (whole = true → x.attr.ok = true ∧ x.attr.good ∧ x.fh.length ≤ 64)
/-- what the bytes of a letter's field ask -/
def rM8 (d : RepD) (c : Nat) : Prop :=
  if c = 104 then d.f.fh.length ≤ 64
  else if c = 97 then d.f.obj.ok = true ∧ d.f.obj.good
  else if c = 68 then d.f.dir.ok = true ∧ d.f.dir.good
  else if c = 119 then d.f.wcc.ok = true ∧ d.f.wcc.good
  else if c = 87 then d.f.wcc2.ok = true ∧ d.f.wcc2.good
  else if c = 120 then numM d.f.access
  else if c = 99 then numM d.f.count
  else if c = 115 then numM d.f.stable
  else if c = 118 then numM d.f.verf
  else if c = 101 then True
  else if c = 100 then d.f.data.length ≤ 256
  else if c = 110 then d.us.length ≤ 16 ∧ ∀ n ∈ d.us, numM n
  else if c = 108 then d.es.length ≤ 64 ∧ ∀ x ∈ d.es, entM false x
  else if c = 112 then d.es.length ≤ 64 ∧ ∀ x ∈ d.es, entM true x
  else True
/-- the bytes of the first k letters -/
def pLaid (d : RepD) (l : List UInt8) (k : Nat) : List UInt8 := (l.take k).flatMap fun c => rB8 d c.toNat
theorem pLaid_succ (d : RepD) (l : List UInt8) (k : Nat) (hk : k < l.length) : pLaid d l (k + 1) = pLaid d l k ++ rB8 d l[k].toNat := by
  unfold pLaid
  rw [List.take_add_one, List.getElem?_eq_getElem hk, List.flatMap_append]
  simp
end Go.Proofs.YtfjflkmhhbhceaaGreatDoor


/-
  Layer 8 in plain words: how long the bytes of results are. No condition.
-/
namespace Go.Proofs.YtfjflkmhhbhceaaGreatDoor
open Go.RowKit

theorem flat_len8 {α : Type} (f : α → List UInt8) (n : Nat) (l : List α) (h : ∀ x ∈ l, (f x).length ≤ n) : (l.flatMap f).length ≤ n * l.length := by
  induction l with
  | nil => simp
  | cons a l ih =>
    rw [List.flatMap_cons, List.length_append, List.length_cons, Nat.mul_succ]
    have h1 := h a (by simp)
    have h2 := ih fun x hx => h x (by simp [hx])
    omega
theorem opq_len8 (s : List UInt8) : (opq s).length ≤ s.length + 8 := by
  unfold opq
  have h1 := filled_len s
  have h2 := padn_lt s.length
  have h3 := num_len s.length 4
  rw [List.length_append]
  omega
theorem entB_len (whole : Bool) (x : Entry) (h : entM whole x) : (entB whole x).length ≤ 500 := by
  obtain ⟨_, h2, _, h4⟩ := h
  have e1 := num_len x.gen.toNat 8
  have e2 := num_len x.cookie.toNat 8
  have e3 := opq_len8 x.name
  have e4 := opq_len8 x.fh
  have e5 := x.attr.bytes_len
  unfold entB
  rw [List.length_append, List.length_append, List.length_append]
  cases whole
  · simp only [Bool.false_eq_true, if_false, List.length_nil]
    omega
  · obtain ⟨_, _, h6⟩ := h4 rfl
    rw [if_pos rfl, List.length_append]
    omega
theorem numB_len (n : Int) : (numB n).length = 8 := num_len _ 8
theorem rB8_len (d : RepD) (c : Nat) (hm : rM8 d c) (hc : pLetter c) : (rB8 d c).length ≤ 33000 := by
  rcases hc with rfl | rfl | rfl | rfl | rfl | rfl | rfl | rfl | rfl | rfl | rfl | rfl | rfl | rfl
  · have h1 : d.f.fh.length ≤ 64 := hm
    have := opq_len8 d.f.fh
    show (opq d.f.fh).length ≤ 33000
    omega
  · have := d.f.obj.bytes_len
    show d.f.obj.bytes.length ≤ 33000
    omega
  · have := d.f.dir.bytes_len
    show d.f.dir.bytes.length ≤ 33000
    omega
  · have := d.f.wcc.bytes_len
    show d.f.wcc.bytes.length ≤ 33000
    omega
  · have := d.f.wcc2.bytes_len
    show d.f.wcc2.bytes.length ≤ 33000
    omega
  · show (num d.f.access.toNat 4).length ≤ 33000
    rw [num_len]; omega
  · show (num d.f.count.toNat 4).length ≤ 33000
    rw [num_len]; omega
  · show (num d.f.stable.toNat 4).length ≤ 33000
    rw [num_len]; omega
  · show (num d.f.verf.toNat 8).length ≤ 33000
    rw [num_len]; omega
  · show (truth d.f.eof).length ≤ 33000
    simp [truth, num_len]
  · have h1 : d.f.data.length ≤ 256 := hm
    have := opq_len8 d.f.data
    show (opq d.f.data).length ≤ 33000
    omega
  · have h1 : d.us.length ≤ 16 ∧ ∀ n ∈ d.us, numM n := hm
    show (num d.us.length 4 ++ d.us.flatMap numB).length ≤ 33000
    have h2 := flat_len8 numB 8 d.us fun n _ => Nat.le_of_eq (numB_len n)
    rw [List.length_append, num_len]
    omega
  · have h1 : d.es.length ≤ 64 ∧ ∀ x ∈ d.es, entM false x := hm
    show (num d.es.length 4 ++ d.es.flatMap (entB false)).length ≤ 33000
    have h2 := flat_len8 (entB false) 500 d.es fun n hn => entB_len false n (h1.2 n hn)
    rw [List.length_append, num_len]
    omega
  · have h1 : d.es.length ≤ 64 ∧ ∀ x ∈ d.es, entM true x := hm
    show (num d.es.length 4 ++ d.es.flatMap (entB true)).length ≤ 33000
    have h2 := flat_len8 (entB true) 500 d.es fun n hn => entB_len true n (h1.2 n hn)
    rw [List.length_append, num_len]
    omega
theorem pLaid_len (d : RepD) (l : List UInt8) (hl : ∀ k (hk : k < l.length), pLetter l[k].toNat) (hm : ∀ k (hk : k < l.length), rM8 d l[k].toNat) (k : Nat) (hk : k ≤ l.length) : (pLaid d l k).length ≤ 33000 * k := by
  induction k with
  | zero => simp [pLaid]
  | succ k ih =>
    have h1 := ih (by omega)
    have h2 := rB8_len d l[k].toNat (hm k hk) (hl k hk)
    rw [pLaid_succ d l k hk, List.length_append]
    omega
theorem flat_take {α : Type} (f : α → List UInt8) (l : List α) (k : Nat) (hk : k < l.length) : (l.take (k + 1)).flatMap f = (l.take k).flatMap f ++ f l[k] := by
  rw [List.take_add_one, List.getElem?_eq_getElem hk, List.flatMap_append]
  simp
theorem flat_take_len {α : Type} (f : α → List UInt8) (n : Nat) (l : List α) (h : ∀ x ∈ l, (f x).length ≤ n) (k : Nat) : ((l.take k).flatMap f).length ≤ n * l.length := by
  have h1 := flat_len8 f n (l.take k) fun x hx => h x (List.mem_of_mem_take hx)
  have h2 : (l.take k).length ≤ l.length := by rw [List.length_take]; omega
  exact Nat.le_trans h1 (Nat.mul_le_mul_left n h2)
end Go.Proofs.YtfjflkmhhbhceaaGreatDoor
