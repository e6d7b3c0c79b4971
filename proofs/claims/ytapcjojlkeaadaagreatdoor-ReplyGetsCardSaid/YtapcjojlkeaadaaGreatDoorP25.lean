/-
  Layer 8, walks: the rows of results are taken (written by wip/tools/gentaken8b.py). Conditions: a reader and results at blocks of their own; machine texts.
-/
import Derived.Test.YtapcjojlkeaadaaGreatDoorP24
namespace Go.Proofs.YtapcjojlkeaadaaGreatDoor
open Go.RowKit
attribute [local go_sem ↓] Go.wp_at_zero Go.wp_at_succ
attribute [local go_sem] rowAt_ptr rowOf_drew rowOf_drewN rowOf_alloc_past rowOf_new

theorem numsOk_e {r : Rs} (h : numsOk r = true) : (numsK (rU32 r).2 (rU32 r).1).2.e = 0 := by
  unfold numsOk at h
  simp at h
  exact h.2
theorem entsOk_e {whole : Bool} {r : Rs} (h : entsOk whole r = true) : (entsK whole (rU32 r).2 (rU32 r).1).2.e = 0 := by
  unfold entsOk at h
  simp at h
  obtain ⟨_, h0, h⟩ := h
  generalize (rU32 r).1 = n at *
  cases n with
  | zero => exact h0
  | succ n =>
    have := h n (by omega)
    unfold oneOk at this
    simp at this
    exact this.2
set_option maxRecDepth 20000 in
set_option maxHeartbeats 1600000 in
theorem ptake_n (g b : Nat) (z : Reply) (r : Rs) (w : World) (hR : Rd w g r) (hA : Blk w b 35 z.vals) (hl : r.s.length ≤ 9223372036854775807) : Calls Tryz.prog 17 #[.pointer (some ⟨g, 0, none⟩), .pointer (some ⟨b, 0, none⟩), .int .i32 110] w fun e w' => e = .returned (.bool (numsOk r)) ∧
    (numsOk r = true → ∃ A c, Took8 g b { z with ua := A, un := (numsK (rU32 r).2 (rU32 r).1).1.length, uc := c } (numsK (rU32 r).2 (rU32 r).1).2 w w' ∧ RowS w' w.heap.size 3 1 (.slice A (numsK (rU32 r).2 (rU32 r).1).1.length c) ((numsK (rU32 r).2 (rU32 r).1).1.map int1)) ∧ Touch (fun k => k = g ∨ k = b) w w' := by
  have hne : b ≠ g := Blk.ne_ hA hR.1 (by decide)
  obtain ⟨bh, bl, hB0, hs0⟩ := chain2_blks w [.pointer (some ⟨g, 0, none⟩)] [.int .i32 110] 48 21
  obtain ⟨w0, hw0⟩ : ∃ V, V = (w.alloc (.cells #[.pointer (some ⟨g, 0, none⟩)] 48)).alloc (.cells #[.int .i32 110] 21) := ⟨_, rfl⟩
  replace bh : Blk w0 w.heap.size 48 [.pointer (some ⟨g, 0, none⟩)] := by rw [hw0]; exact bh
  replace bl : Blk w0 (w.heap.size + 1) 21 [.int .i32 110] := by rw [hw0]; exact bl
  replace hB0 : Below w.heap.size w w0 := by rw [hw0]; exact hB0
  have hgl := hR.lt
  have hbl := hA.lt
  have nh : w.heap.size ≠ g := by omega
  have nb : w.heap.size ≠ b := by omega
  have nb' : b ≠ w.heap.size := by omega
  have hR0 := hR.stays hB0
  have hA0 := hA.stays hB0
  have hT0 := Touch.of_below hB0 (fun k => k = g ∨ k = b)
  have hz0 := hB0.size
  have HW0 := Lib.hid hw0
  clear hw0 hB0 hs0 hR hA
  have hG := someI_any g w.heap.size r w0 hR0 bh hl
  have HOKE := Lib.hid (show numsOk r = true → (numsK (rU32 r).2 (rU32 r).1).2.e = 0 from fun h => numsOk_e h)
  generalize numsOk r = OK at *
  generalize (numsK (rU32 r).2 (rU32 r).1).2 = Q at *
  generalize (numsK (rU32 r).2 (rU32 r).1).1 = us at *
  have HG := Lib.hid hG
  clear hG
  go_enter Tryz.func17, Tryz.ntmps17
  go_wp2_with fail
  rw [← HW0.out]
  refine HG.out.mono ?_
  rintro e w1 ⟨v, rfl, hok, hno, hT⟩
  have hA1 : Blk w1 b 35 z.vals := hA0.touch hT hne
  have bh1 := bh.touch hT nh
  have hf := hA1.frozen 57
  have hc := hA1.cell 57
  have c1 : w1.cell? ⟨w.heap.size, 0, none⟩ = some (.pointer (some ⟨g, 0, none⟩)) := bh1.cell 0
  have hc : (w1.cell? ⟨b, 57, none⟩).isSome = true := by rw [hc]; rfl
  obtain ⟨old, hc⟩ := Option.isSome_iff_exists.1 hc
  have hT1 : Touch (fun k => k = g ∨ k = b) w w1 := hT0.then_ (hT.mono fun _ _ h => .inl h)
  cases OK
  case false =>
    have hv := hno rfl
    subst hv
    have HT := Lib.hid (hT1.setCell_ (g := b) (o := 57) (.inl (.inr rfl)) (.slice none 0 0))
    clear hok hno hT hT1 hA1 hA0 hR0 HG hT0 bh bh1 bl
    go_wp2
    go_ret
    refine ⟨rfl, fun h => ?_, HT.out⟩
    cases h
  case true =>
    obtain ⟨hRow, hRd⟩ := hok rfl
    obtain ⟨A, cp, rfl, _⟩ := hRow.at_
    rw [List.length_map] at hRow hno
    have hRow1 : RowS w1 w.heap.size 3 1 (.slice A us.length cp) (us.map int1) := RowS.base hRow hz0
    have hRow2 : RowS (w1.setCell ⟨b, 57, none⟩ (.slice A us.length cp)) w.heap.size 3 1 (.slice A us.length cp) (us.map int1) :=
      RowS.touch hRow1 ((Touch.refl (fun k => k = b) w1).setCell_ (g := b) (o := 57) (.inl rfl) _) (fun j hj hg => by have := (RowS.lt hRow1 j hj).1; omega)
    have hA2 : Blk (w1.setCell ⟨b, 57, none⟩ (.slice A us.length cp)) b 35 ({ z with ua := A, un := us.length, uc := cp } : Reply).vals := hA1.set_ 57 (.slice A us.length cp)
    have hR2 : Rd (w1.setCell ⟨b, 57, none⟩ (.slice A us.length cp)) g Q := hRd.touch ((Touch.refl (fun k => k = b) w1).setCell_ (g := b) (o := 57) (.inl rfl) _) (fun e => hne e.symm)
    have hT2 := hT1.setCell_ (g := b) (o := 57) (.inl (.inr rfl)) (.slice A us.length cp)
    have HL := Lib.hid (And.intro hR2 (And.intro hA2 (And.intro hT2 hRow2)))
    have hQ0 := HOKE.out rfl
    clear hok hno hT hT1 hA1 hA0 hR0 HG hT0 bh bh1 bl hRow hRow1 hRow2 hA2 hR2 hT2 hRd
    rw [List.length_map]
    go_wp2_with fail
    refine (rErr_any g Q _ HL.out.1).mono ?_
    rintro e w3 ⟨rfl, rfl⟩
    rw [hQ0]
    go_wp2
    go_ret
    refine ⟨rfl, ?_, HL.out.2.2.1⟩
    first
    | exact ⟨A, cp, ⟨HL.out.1, HL.out.2.1, HL.out.2.2.1⟩, HL.out.2.2.2⟩
    | exact fun _ => ⟨A, cp, ⟨HL.out.1, HL.out.2.1, HL.out.2.2.1⟩, HL.out.2.2.2⟩

set_option maxRecDepth 20000 in
set_option maxHeartbeats 1600000 in
theorem ptake_l (g b : Nat) (z : Reply) (r : Rs) (w : World) (hR : Rd w g r) (hA : Blk w b 35 z.vals) (hl : r.s.length ≤ 9223372036854775807) : Calls Tryz.prog 17 #[.pointer (some ⟨g, 0, none⟩), .pointer (some ⟨b, 0, none⟩), .int .i32 108] w fun e w' => e = .returned (.bool (entsOk false r)) ∧
    (entsOk false r = true → ∃ A c, Took8 g b { z with ea := A, en := (entsK false (rU32 r).2 (rU32 r).1).1.length, ec := c } (entsK false (rU32 r).2 (rU32 r).1).2 w w' ∧ RowS w' w.heap.size 56 15 (.slice A (entsK false (rU32 r).2 (rU32 r).1).1.length c) ((entsK false (rU32 r).2 (rU32 r).1).1.map Entry.vals)) ∧ Touch (fun k => k = g ∨ k = b) w w' := by
  have hne : b ≠ g := Blk.ne_ hA hR.1 (by decide)
  obtain ⟨bh, bl, hB0, hs0⟩ := chain2_blks w [.pointer (some ⟨g, 0, none⟩)] [.int .i32 108] 48 21
  obtain ⟨w0, hw0⟩ : ∃ V, V = (w.alloc (.cells #[.pointer (some ⟨g, 0, none⟩)] 48)).alloc (.cells #[.int .i32 108] 21) := ⟨_, rfl⟩
  replace bh : Blk w0 w.heap.size 48 [.pointer (some ⟨g, 0, none⟩)] := by rw [hw0]; exact bh
  replace bl : Blk w0 (w.heap.size + 1) 21 [.int .i32 108] := by rw [hw0]; exact bl
  replace hB0 : Below w.heap.size w w0 := by rw [hw0]; exact hB0
  have hgl := hR.lt
  have hbl := hA.lt
  have nh : w.heap.size ≠ g := by omega
  have nb : w.heap.size ≠ b := by omega
  have nb' : b ≠ w.heap.size := by omega
  have hR0 := hR.stays hB0
  have hA0 := hA.stays hB0
  have hT0 := Touch.of_below hB0 (fun k => k = g ∨ k = b)
  have hz0 := hB0.size
  have HW0 := Lib.hid hw0
  clear hw0 hB0 hs0 hR hA
  have hG := someE_any g w.heap.size (w.heap.size + 1) 108 false rfl r w0 hR0 bh bl hl
  have HOKE := Lib.hid (show entsOk false r = true → (entsK false (rU32 r).2 (rU32 r).1).2.e = 0 from fun h => entsOk_e h)
  generalize entsOk false r = OK at *
  generalize (entsK false (rU32 r).2 (rU32 r).1).2 = Q at *
  generalize (entsK false (rU32 r).2 (rU32 r).1).1 = us at *
  have HG := Lib.hid hG
  clear hG
  go_enter Tryz.func17, Tryz.ntmps17
  go_wp2_with fail
  rw [← HW0.out]
  refine HG.out.mono ?_
  rintro e w1 ⟨v, rfl, hok, hno, hT⟩
  have hA1 : Blk w1 b 35 z.vals := hA0.touch hT hne
  have bh1 := bh.touch hT nh
  have hf := hA1.frozen 56
  have hc := hA1.cell 56
  have c1 : w1.cell? ⟨w.heap.size, 0, none⟩ = some (.pointer (some ⟨g, 0, none⟩)) := bh1.cell 0
  have hc : (w1.cell? ⟨b, 56, none⟩).isSome = true := by rw [hc]; rfl
  obtain ⟨old, hc⟩ := Option.isSome_iff_exists.1 hc
  have hT1 : Touch (fun k => k = g ∨ k = b) w w1 := hT0.then_ (hT.mono fun _ _ h => .inl h)
  cases OK
  case false =>
    have hv := hno rfl
    subst hv
    have HT := Lib.hid (hT1.setCell_ (g := b) (o := 56) (.inl (.inr rfl)) (.slice none 0 0))
    clear hok hno hT hT1 hA1 hA0 hR0 HG hT0 bh bh1 bl
    go_wp2
    go_ret
    refine ⟨rfl, fun h => ?_, HT.out⟩
    cases h
  case true =>
    obtain ⟨hRow, hRd⟩ := hok rfl
    obtain ⟨A, cp, rfl, _⟩ := hRow.at_
    rw [List.length_map] at hRow hno
    have hRow1 : RowS w1 w.heap.size 56 15 (.slice A us.length cp) (us.map Entry.vals) := RowS.base hRow hz0
    have hRow2 : RowS (w1.setCell ⟨b, 56, none⟩ (.slice A us.length cp)) w.heap.size 56 15 (.slice A us.length cp) (us.map Entry.vals) :=
      RowS.touch hRow1 ((Touch.refl (fun k => k = b) w1).setCell_ (g := b) (o := 56) (.inl rfl) _) (fun j hj hg => by have := (RowS.lt hRow1 j hj).1; omega)
    have hA2 : Blk (w1.setCell ⟨b, 56, none⟩ (.slice A us.length cp)) b 35 ({ z with ea := A, en := us.length, ec := cp } : Reply).vals := hA1.set_ 56 (.slice A us.length cp)
    have hR2 : Rd (w1.setCell ⟨b, 56, none⟩ (.slice A us.length cp)) g Q := hRd.touch ((Touch.refl (fun k => k = b) w1).setCell_ (g := b) (o := 56) (.inl rfl) _) (fun e => hne e.symm)
    have hT2 := hT1.setCell_ (g := b) (o := 56) (.inl (.inr rfl)) (.slice A us.length cp)
    have HL := Lib.hid (And.intro hR2 (And.intro hA2 (And.intro hT2 hRow2)))
    have hQ0 := HOKE.out rfl
    clear hok hno hT hT1 hA1 hA0 hR0 HG hT0 bh bh1 bl hRow hRow1 hRow2 hA2 hR2 hT2 hRd
    rw [List.length_map]
    go_wp2_with fail
    refine (rErr_any g Q _ HL.out.1).mono ?_
    rintro e w3 ⟨rfl, rfl⟩
    rw [hQ0]
    go_wp2
    go_ret
    refine ⟨rfl, ?_, HL.out.2.2.1⟩
    first
    | exact ⟨A, cp, ⟨HL.out.1, HL.out.2.1, HL.out.2.2.1⟩, HL.out.2.2.2⟩
    | exact fun _ => ⟨A, cp, ⟨HL.out.1, HL.out.2.1, HL.out.2.2.1⟩, HL.out.2.2.2⟩

set_option maxRecDepth 20000 in
set_option maxHeartbeats 1600000 in
theorem ptake_p (g b : Nat) (z : Reply) (r : Rs) (w : World) (hR : Rd w g r) (hA : Blk w b 35 z.vals) (hl : r.s.length ≤ 9223372036854775807) : Calls Tryz.prog 17 #[.pointer (some ⟨g, 0, none⟩), .pointer (some ⟨b, 0, none⟩), .int .i32 112] w fun e w' => e = .returned (.bool (entsOk true r)) ∧
    (entsOk true r = true → ∃ A c, Took8 g b { z with ea := A, en := (entsK true (rU32 r).2 (rU32 r).1).1.length, ec := c } (entsK true (rU32 r).2 (rU32 r).1).2 w w' ∧ RowS w' w.heap.size 56 15 (.slice A (entsK true (rU32 r).2 (rU32 r).1).1.length c) ((entsK true (rU32 r).2 (rU32 r).1).1.map Entry.vals)) ∧ Touch (fun k => k = g ∨ k = b) w w' := by
  have hne : b ≠ g := Blk.ne_ hA hR.1 (by decide)
  obtain ⟨bh, bl, hB0, hs0⟩ := chain2_blks w [.pointer (some ⟨g, 0, none⟩)] [.int .i32 112] 48 21
  obtain ⟨w0, hw0⟩ : ∃ V, V = (w.alloc (.cells #[.pointer (some ⟨g, 0, none⟩)] 48)).alloc (.cells #[.int .i32 112] 21) := ⟨_, rfl⟩
  replace bh : Blk w0 w.heap.size 48 [.pointer (some ⟨g, 0, none⟩)] := by rw [hw0]; exact bh
  replace bl : Blk w0 (w.heap.size + 1) 21 [.int .i32 112] := by rw [hw0]; exact bl
  replace hB0 : Below w.heap.size w w0 := by rw [hw0]; exact hB0
  have hgl := hR.lt
  have hbl := hA.lt
  have nh : w.heap.size ≠ g := by omega
  have nb : w.heap.size ≠ b := by omega
  have nb' : b ≠ w.heap.size := by omega
  have hR0 := hR.stays hB0
  have hA0 := hA.stays hB0
  have hT0 := Touch.of_below hB0 (fun k => k = g ∨ k = b)
  have hz0 := hB0.size
  have HW0 := Lib.hid hw0
  clear hw0 hB0 hs0 hR hA
  have hG := someE_any g w.heap.size (w.heap.size + 1) 112 true rfl r w0 hR0 bh bl hl
  have HOKE := Lib.hid (show entsOk true r = true → (entsK true (rU32 r).2 (rU32 r).1).2.e = 0 from fun h => entsOk_e h)
  generalize entsOk true r = OK at *
  generalize (entsK true (rU32 r).2 (rU32 r).1).2 = Q at *
  generalize (entsK true (rU32 r).2 (rU32 r).1).1 = us at *
  have HG := Lib.hid hG
  clear hG
  go_enter Tryz.func17, Tryz.ntmps17
  go_wp2_with fail
  rw [← HW0.out]
  refine HG.out.mono ?_
  rintro e w1 ⟨v, rfl, hok, hno, hT⟩
  have hA1 : Blk w1 b 35 z.vals := hA0.touch hT hne
  have bh1 := bh.touch hT nh
  have hf := hA1.frozen 56
  have hc := hA1.cell 56
  have c1 : w1.cell? ⟨w.heap.size, 0, none⟩ = some (.pointer (some ⟨g, 0, none⟩)) := bh1.cell 0
  have hc : (w1.cell? ⟨b, 56, none⟩).isSome = true := by rw [hc]; rfl
  obtain ⟨old, hc⟩ := Option.isSome_iff_exists.1 hc
  have hT1 : Touch (fun k => k = g ∨ k = b) w w1 := hT0.then_ (hT.mono fun _ _ h => .inl h)
  cases OK
  case false =>
    have hv := hno rfl
    subst hv
    have HT := Lib.hid (hT1.setCell_ (g := b) (o := 56) (.inl (.inr rfl)) (.slice none 0 0))
    clear hok hno hT hT1 hA1 hA0 hR0 HG hT0 bh bh1 bl
    go_wp2
    go_ret
    refine ⟨rfl, fun h => ?_, HT.out⟩
    cases h
  case true =>
    obtain ⟨hRow, hRd⟩ := hok rfl
    obtain ⟨A, cp, rfl, _⟩ := hRow.at_
    rw [List.length_map] at hRow hno
    have hRow1 : RowS w1 w.heap.size 56 15 (.slice A us.length cp) (us.map Entry.vals) := RowS.base hRow hz0
    have hRow2 : RowS (w1.setCell ⟨b, 56, none⟩ (.slice A us.length cp)) w.heap.size 56 15 (.slice A us.length cp) (us.map Entry.vals) :=
      RowS.touch hRow1 ((Touch.refl (fun k => k = b) w1).setCell_ (g := b) (o := 56) (.inl rfl) _) (fun j hj hg => by have := (RowS.lt hRow1 j hj).1; omega)
    have hA2 : Blk (w1.setCell ⟨b, 56, none⟩ (.slice A us.length cp)) b 35 ({ z with ea := A, en := us.length, ec := cp } : Reply).vals := hA1.set_ 56 (.slice A us.length cp)
    have hR2 : Rd (w1.setCell ⟨b, 56, none⟩ (.slice A us.length cp)) g Q := hRd.touch ((Touch.refl (fun k => k = b) w1).setCell_ (g := b) (o := 56) (.inl rfl) _) (fun e => hne e.symm)
    have hT2 := hT1.setCell_ (g := b) (o := 56) (.inl (.inr rfl)) (.slice A us.length cp)
    have HL := Lib.hid (And.intro hR2 (And.intro hA2 (And.intro hT2 hRow2)))
    have hQ0 := HOKE.out rfl
    clear hok hno hT hT1 hA1 hA0 hR0 HG hT0 bh bh1 bl hRow hRow1 hRow2 hA2 hR2 hT2 hRd
    rw [List.length_map]
    go_wp2_with fail
    refine (rErr_any g Q _ HL.out.1).mono ?_
    rintro e w3 ⟨rfl, rfl⟩
    rw [hQ0]
    go_wp2
    go_ret
    refine ⟨rfl, ?_, HL.out.2.2.1⟩
    first
    | exact ⟨A, cp, ⟨HL.out.1, HL.out.2.1, HL.out.2.2.1⟩, HL.out.2.2.2⟩
    | exact fun _ => ⟨A, cp, ⟨HL.out.1, HL.out.2.1, HL.out.2.2.1⟩, HL.out.2.2.2⟩

end Go.Proofs.YtapcjojlkeaadaaGreatDoor

/-
  Layer 8, walks: the field of any letter is taken (written by wip/tools/gentaken8c.py). Conditions: a reader and results at blocks of their own; machine texts.
-/
namespace Go.Proofs.YtapcjojlkeaadaaGreatDoor
open Go.RowKit
attribute [local go_sem ↓] Go.wp_at_zero Go.wp_at_succ
attribute [local go_sem] rowAt_ptr rowOf_drew rowOf_drewN rowOf_alloc_past rowOf_new

/-- results as data, at block b, their rows in blocks from B on -/
def There8 (B b : Nat) (d : RepD) (W : World) : Prop :=
  ∃ z : Reply, Blk W b 35 z.vals ∧ z.bare = d.f ∧ RowS W B 56 15 (.slice z.ea z.en z.ec) (d.es.map Entry.vals) ∧ RowS W B 3 1 (.slice z.ua z.un z.uc) (d.us.map int1)
def pLetter (c : Nat) : Prop := c = 104 ∨ c = 97 ∨ c = 68 ∨ c = 119 ∨ c = 87 ∨ c = 120 ∨ c = 99 ∨ c = 115 ∨ c = 118 ∨ c = 101 ∨ c = 100 ∨ c = 110 ∨ c = 108 ∨ c = 112
theorem RowS.past8 {w w' : World} {B e sz : Nat} {v : Value} {rows : List (List Value)} {g b : Nat} {r : Rs} {cs : List Value} (h : RowS w B e sz v rows) (hR : Rd w g r) (hA : Blk w b 35 cs) (h1 : e ≠ 77) (h2 : e ≠ 35) (hT : Touch (fun k => k = g ∨ k = b) w w') : RowS w' B e sz v rows :=
  RowS.touch h hT fun k hk hg => by
    rcases hg with rfl | rfl
    · exact Blk.own_ne h.2 hR.1 h1 hk
    · exact Blk.own_ne h.2 hA h2 hk
/-- what 'taken' gives -/
def TakenP (c : Nat) (g b B : Nat) (d : RepD) (r : Rs) (w : World) (e : Ending) (w' : World) : Prop :=
  e = .returned (.bool (pTkOk c r)) ∧ (pTkOk c r = true → There8 B b (pTk c d r).1 w' ∧ Rd w' g (pTk c d r).2) ∧ Touch (fun k => k = g ∨ k = b) w w'

theorem ptake_any (g b B : Nat) (d : RepD) (r : Rs) (c : Nat) (hc : pLetter c) (w : World) (hR : Rd w g r) (hD : There8 B b d w) (hB : B ≤ w.heap.size) (hl : r.s.length ≤ 9223372036854775807) :
    Calls Tryz.prog 17 #[.pointer (some ⟨g, 0, none⟩), .pointer (some ⟨b, 0, none⟩), .int .i32 c] w (TakenP c g b B d r w) := by
  obtain ⟨z, hA, hz, hE, hU⟩ := hD
  obtain ⟨df, des, dus⟩ := d
  simp only at hz hE hU
  subst hz
  rcases hc with rfl | rfl | rfl | rfl | rfl | rfl | rfl | rfl | rfl | rfl | rfl | rfl | rfl | rfl
  · refine (ptake_h g b z r w hR hA hl).mono ?_
    rintro e w' ⟨rfl, hT⟩
    exact ⟨rfl, fun _ => ⟨⟨_, hT.C, rfl, hE.past8 hR hA (by decide) (by decide) hT.T, hU.past8 hR hA (by decide) (by decide) hT.T⟩, hT.R⟩, hT.T⟩
  · refine (ptake_a g b z r w hR hA hl).mono ?_
    rintro e w' ⟨rfl, hT⟩
    exact ⟨rfl, fun _ => ⟨⟨_, hT.C, rfl, hE.past8 hR hA (by decide) (by decide) hT.T, hU.past8 hR hA (by decide) (by decide) hT.T⟩, hT.R⟩, hT.T⟩
  · refine (ptake_d2 g b z r w hR hA hl).mono ?_
    rintro e w' ⟨rfl, hT⟩
    exact ⟨rfl, fun _ => ⟨⟨_, hT.C, rfl, hE.past8 hR hA (by decide) (by decide) hT.T, hU.past8 hR hA (by decide) (by decide) hT.T⟩, hT.R⟩, hT.T⟩
  · refine (ptake_w g b z r w hR hA hl).mono ?_
    rintro e w' ⟨rfl, hT⟩
    exact ⟨rfl, fun _ => ⟨⟨_, hT.C, rfl, hE.past8 hR hA (by decide) (by decide) hT.T, hU.past8 hR hA (by decide) (by decide) hT.T⟩, hT.R⟩, hT.T⟩
  · refine (ptake_w2 g b z r w hR hA hl).mono ?_
    rintro e w' ⟨rfl, hT⟩
    exact ⟨rfl, fun _ => ⟨⟨_, hT.C, rfl, hE.past8 hR hA (by decide) (by decide) hT.T, hU.past8 hR hA (by decide) (by decide) hT.T⟩, hT.R⟩, hT.T⟩
  · refine (ptake_x g b z r w hR hA hl).mono ?_
    rintro e w' ⟨rfl, hT⟩
    exact ⟨rfl, fun _ => ⟨⟨_, hT.C, rfl, hE.past8 hR hA (by decide) (by decide) hT.T, hU.past8 hR hA (by decide) (by decide) hT.T⟩, hT.R⟩, hT.T⟩
  · refine (ptake_c g b z r w hR hA hl).mono ?_
    rintro e w' ⟨rfl, hT⟩
    exact ⟨rfl, fun _ => ⟨⟨_, hT.C, rfl, hE.past8 hR hA (by decide) (by decide) hT.T, hU.past8 hR hA (by decide) (by decide) hT.T⟩, hT.R⟩, hT.T⟩
  · refine (ptake_s g b z r w hR hA hl).mono ?_
    rintro e w' ⟨rfl, hT⟩
    exact ⟨rfl, fun _ => ⟨⟨_, hT.C, rfl, hE.past8 hR hA (by decide) (by decide) hT.T, hU.past8 hR hA (by decide) (by decide) hT.T⟩, hT.R⟩, hT.T⟩
  · refine (ptake_v g b z r w hR hA hl).mono ?_
    rintro e w' ⟨rfl, hT⟩
    exact ⟨rfl, fun _ => ⟨⟨_, hT.C, rfl, hE.past8 hR hA (by decide) (by decide) hT.T, hU.past8 hR hA (by decide) (by decide) hT.T⟩, hT.R⟩, hT.T⟩
  · refine (ptake_e g b z r w hR hA hl).mono ?_
    rintro e w' ⟨rfl, hT⟩
    exact ⟨rfl, fun _ => ⟨⟨_, hT.C, rfl, hE.past8 hR hA (by decide) (by decide) hT.T, hU.past8 hR hA (by decide) (by decide) hT.T⟩, hT.R⟩, hT.T⟩
  · refine (ptake_d g b z r w hR hA hl).mono ?_
    rintro e w' ⟨rfl, hT⟩
    exact ⟨rfl, fun _ => ⟨⟨_, hT.C, rfl, hE.past8 hR hA (by decide) (by decide) hT.T, hU.past8 hR hA (by decide) (by decide) hT.T⟩, hT.R⟩, hT.T⟩
  · refine (ptake_n g b z r w hR hA hl).mono ?_
    rintro e w' ⟨rfl, hok, hT⟩
    refine ⟨rfl, fun h => ?_, hT⟩
    obtain ⟨A, cp, hk, hrow⟩ := hok h
    exact ⟨⟨_, hk.C, rfl, hE.past8 hR hA (by decide) (by decide) hT, RowS.base hrow hB⟩, hk.R⟩
  · refine (ptake_l g b z r w hR hA hl).mono ?_
    rintro e w' ⟨rfl, hok, hT⟩
    refine ⟨rfl, fun h => ?_, hT⟩
    obtain ⟨A, cp, hk, hrow⟩ := hok h
    exact ⟨⟨_, hk.C, rfl, RowS.base hrow hB, hU.past8 hR hA (by decide) (by decide) hT⟩, hk.R⟩
  · refine (ptake_p g b z r w hR hA hl).mono ?_
    rintro e w' ⟨rfl, hok, hT⟩
    refine ⟨rfl, fun h => ?_, hT⟩
    obtain ⟨A, cp, hk, hrow⟩ := hok h
    exact ⟨⟨_, hk.C, rfl, RowS.base hrow hB, hU.past8 hR hA (by decide) (by decide) hT⟩, hk.R⟩
end Go.Proofs.YtapcjojlkeaadaaGreatDoor
