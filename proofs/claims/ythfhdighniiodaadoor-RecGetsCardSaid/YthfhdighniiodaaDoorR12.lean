/-
  Layer 17, walks: which letters a change's kind has; may the field of a letter be, and it is copied (written by wip/tools/genrec.py). Conditions: changes at blocks of their own.
-/
import Derived.Test.YthfhdighniiodaaDoorR05
import Derived.Test.YthfhdighniiodaaDoorR11
namespace Go.Proofs.YthfhdighniiodaaDoor
open Go.RowKit
attribute [local go_sem ↓] Go.wp_at_zero Go.wp_at_succ
attribute [local go_sem] rowAt_ptr rowOf_drew rowOf_drewN rowOf_alloc_past rowOf_new
attribute [local go_sem ↓] ldAttrR

attribute [local go_sem] Change.at0 Change.lat0 Change.at1 Change.lat1 Change.at2 Change.lat2 Change.at3 Change.lat3 Change.at4 Change.lat4 Change.at5 Change.lat5 Change.at6 Change.lat6 Change.at7 Change.lat7 Change.at8 Change.lat8 Change.at9 Change.lat9 Change.at10 Change.lat10 Change.at11 Change.lat11 Change.at12 Change.lat12 Change.at13 Change.lat13 Change.at14 Change.lat14 Change.at15 Change.lat15 Change.at16 Change.lat16 Change.at17 Change.lat17 Change.sub0_18 Change.lsub0_18 Change.sub6_10 Change.lsub6_10 Change.len Attr.at0 Attr.lat0 Attr.at1 Attr.lat1 Attr.at2 Attr.lat2 Attr.at3 Attr.lat3 Attr.at4 Attr.lat4 Attr.at5 Attr.lat5 Attr.at6 Attr.lat6 Attr.at7 Attr.lat7 Attr.at8 Attr.lat8 Attr.at9 Attr.lat9 Attr.sub0_10 Attr.lsub0_10 Attr.len

def lettersR : List (List UInt8) := [[], [101, 115, 117], [101, 115], [117, 97], [117], [117], [117, 110, 99], [117, 110], [117, 98, 116], [117, 98]]
/-- the letters of a change's kind -/
def rHas (p : Int) : List UInt8 := if p < 0 then [] else lettersR.getD p.toNat []
theorem rHas_cases (p : Int) : p < 0 ∨ 10 ≤ p ∨ p = 0 ∨ p = 1 ∨ p = 2 ∨ p = 3 ∨ p = 4 ∨ p = 5 ∨ p = 6 ∨ p = 7 ∨ p = 8 ∨ p = 9 := by omega
theorem rHas_low {p : Int} (h : p < 0) : rHas p = [] := by simp [rHas, h]
theorem rHas_high {p : Int} (h : 10 ≤ p) : rHas p = [] := by
  have h1 : ¬ p < 0 := by omega
  have h2 : lettersR.length ≤ p.toNat := by show 10 ≤ _; omega
  simp [rHas, h1, List.getD, List.getElem?_eq_none h2]
theorem rHas_mem {p : Int} {Q : List UInt8 → Prop} (h0 : Q []) (h : ∀ s ∈ lettersR, Q s) : Q (rHas p) := by
  unfold rHas
  split
  · exact h0
  · rcases Nat.lt_or_ge p.toNat lettersR.length with hl | hl
    · have he : lettersR.getD p.toNat [] = lettersR[p.toNat] := by simp [List.getD, List.getElem?_eq_getElem hl]
      rw [he]; exact h _ (List.getElem_mem hl)
    · simpa [List.getD, List.getElem?_eq_none hl] using h0

set_option maxHeartbeats 1600000 in
theorem recHas_any (p : Int) (w : World) : Calls Tryd.prog 49 #[.int .i64 p] w fun e w' => e = .returned (.string (bs (rHas p))) ∧ w = w' := by
  rcases rHas_cases p with hlo | hhi | rfl | rfl | rfl | rfl | rfl | rfl | rfl | rfl | rfl | rfl
  · rw [rHas_low hlo]
    go_enter Tryd.func49, Tryd.ntmps49
    go_wp2
    all_goals first
      | (go_ret; exact ⟨rfl, rfl⟩)
      | (exfalso; omega)
  · rw [rHas_high hhi]
    go_enter Tryd.func49, Tryd.ntmps49
    go_wp2
    all_goals first
      | (go_ret; exact ⟨rfl, rfl⟩)
      | (exfalso; omega)
  all_goals
    go_enter Tryd.func49, Tryd.ntmps49
    go_wp2
    go_ret
    exact ⟨rfl, rfl⟩
set_option maxHeartbeats 1600000 in
theorem refLetters_any (p : Int) (w : World) : Calls Tryd.prog 52 #[.int .i64 p] w fun e w' => e = .returned (.string (bs (rHas p))) ∧ Below w.heap.size w w' := by
  rcases rHas_cases p with hlo | hhi | rfl | rfl | rfl | rfl | rfl | rfl | rfl | rfl | rfl | rfl
  · rw [rHas_low hlo]
    go_enter Tryd.func52, Tryd.ntmps52
    go_wp2
    go_ret
    exact ⟨rfl, (Below.refl _ _).alloc (Nat.le_refl _) _⟩
  · rw [rHas_high hhi]
    have hlo : ¬ p < 0 := by omega
    go_enter Tryd.func52, Tryd.ntmps52
    go_wp2
    go_ret
    exact ⟨rfl, (Below.refl _ _).alloc (Nat.le_refl _) _⟩
  all_goals
    go_enter Tryd.func52, Tryd.ntmps52
    go_wp2
    go_ret
    exact ⟨rfl, (Below.refl _ _).alloc (Nat.le_refl _) _⟩
theorem rtext_any (l : List UInt8) (least most : Int) (w : World) : Calls Tryd.prog 98 #[.string (bs l), .int .i64 least, .int .i64 most] w fun e w' => e = .returned (.bool (decide (least ≤ (l.length : Int)) && decide ((l.length : Int) ≤ most))) ∧ w = w' := by
  have hsz := bs_size l
  go_enter Tryd.func98, Tryd.ntmps98
  go_wp2
  all_goals (go_ret; go_light; exact ⟨ret_bool (by grind), rfl⟩)
theorem rnumber_any (n least most : Int) (w : World) : Calls Tryd.prog 97 #[.int .i64 n, .int .i64 least, .int .i64 most] w fun e w' => e = .returned (.bool (decide (least ≤ n) && decide (n ≤ most))) ∧ w = w' := by
  go_enter Tryd.func97, Tryd.ntmps97
  go_wp2
  all_goals (go_ret; go_light; exact ⟨ret_bool (by grind), rfl⟩)

def rLetter (c : Nat) : Prop := c = 101 ∨ c = 115 ∨ c = 117 ∨ c = 110 ∨ c = 99 ∨ c = 97 ∨ c = 98 ∨ c = 116
instance (c : Nat) : Decidable (rLetter c) := by unfold rLetter; infer_instance
theorem lettersR_are : ∀ s ∈ lettersR, ∀ c ∈ s, rLetter c.toNat ∧ c.toNat < 128 := by decide
theorem rHas_letter (p : Int) : ∀ c ∈ rHas p, rLetter c.toNat ∧ c.toNat < 128 := rHas_mem (Q := fun s => ∀ c ∈ s, rLetter c.toNat ∧ c.toNat < 128) (by simp) lettersR_are
theorem rHas_short (p : Int) : (rHas p).length ≤ 3 := rHas_mem (Q := fun s => s.length ≤ 3) (by simp) (by decide)
/-- may the field of a letter be -/
def rMay (x : Change) (c : Nat) : Bool :=
  if c = 101 then decide (1 ≤ x.epoch) && decide (x.epoch ≤ 4294967295) else
  if c = 115 then decide (1 ≤ x.serial) else
  if c = 117 then decide (1 ≤ (x.up.length : Int)) && decide ((x.up.length : Int) ≤ 64) else
  if c = 110 then decide (1 ≤ (x.name.length : Int)) && decide ((x.name.length : Int) ≤ 255) else
  if c = 99 then decide (0 ≤ (x.child.length : Int)) && decide ((x.child.length : Int) ≤ 64) else
  if c = 97 then x.attr.ok else
  if c = 98 then decide (0 ≤ x.no) && decide (x.no ≤ 65535) else
  decide (0 ≤ x.slot) && decide (x.slot ≤ 65535)
/-- the field of a letter is copied -/
def rCopy (z x : Change) (c : Nat) : Change :=
  if c = 101 then { z with epoch := x.epoch } else
  if c = 115 then { z with serial := x.serial } else
  if c = 117 then { z with up := x.up } else
  if c = 110 then { z with name := x.name } else
  if c = 99 then { z with child := x.child } else
  if c = 97 then { z with attr := x.attr } else
  if c = 98 then { z with no := x.no } else
  if c = 116 then { z with slot := x.slot } else z

theorem rfield_e (g b : Nat) (z x : Change) (w : World) (hA : Blk w g 44 z.vals) (hB : Blk w b 44 x.vals) (hne : b ≠ g) :
    Calls Tryd.prog 57 #[.pointer (some ⟨g, 0, none⟩), .pointer (some ⟨b, 0, none⟩), .int .i32 101] w fun e w' => e = .returned (.bool (rMay x 101)) ∧ Blk w' g 44 (rCopy z x 101).vals ∧ Blk w' b 44 x.vals ∧ Touch (fun k => k = g) w w' := by
  have ha := hA.cell
  have hf := hA.frozen
  have hc := hB.cell
  have hB2 : Blk (w.setCell ⟨g, 1, none⟩ (.int .i64 x.epoch)) b 44 x.vals := hB.far (p := ⟨g, 1, none⟩) hne _
  have hc2 := hB2.cell
  have HA := Lib.hid (show Blk (w.setCell ⟨g, 1, none⟩ (.int .i64 x.epoch)) g 44 (rCopy z x 101).vals from hA.set_ 1 (.int .i64 x.epoch))
  have HB := Lib.hid hB2
  have HT := Lib.hid ((Touch.refl (fun k => k = g) w).setCell_ (g := g) (o := 1) (.inl rfl) (.int .i64 x.epoch))
  have HS := Lib.hid (show rMay x 101 = (decide (1 ≤ x.epoch) && decide (x.epoch ≤ 4294967295)) by simp [rMay])
  clear hA hB hB2
  go_enter Tryd.func57, Tryd.ntmps57
  go_wp2_with fail
  refine (rnumber_any _ _ _ _).mono ?_
  rintro e w1 ⟨rfl, rfl⟩
  go_wp2
  go_ret
  exact ⟨ret_bool HS.out.symm, HA.out, HB.out, HT.out⟩
theorem rfield_s (g b : Nat) (z x : Change) (w : World) (hA : Blk w g 44 z.vals) (hB : Blk w b 44 x.vals) (hne : b ≠ g) :
    Calls Tryd.prog 57 #[.pointer (some ⟨g, 0, none⟩), .pointer (some ⟨b, 0, none⟩), .int .i32 115] w fun e w' => e = .returned (.bool (rMay x 115)) ∧ Blk w' g 44 (rCopy z x 115).vals ∧ Blk w' b 44 x.vals ∧ Touch (fun k => k = g) w w' := by
  have ha := hA.cell
  have hf := hA.frozen
  have hc := hB.cell
  have hB2 : Blk (w.setCell ⟨g, 2, none⟩ (.int .i64 x.serial)) b 44 x.vals := hB.far (p := ⟨g, 2, none⟩) hne _
  have hc2 := hB2.cell
  have HA := Lib.hid (show Blk (w.setCell ⟨g, 2, none⟩ (.int .i64 x.serial)) g 44 (rCopy z x 115).vals from hA.set_ 2 (.int .i64 x.serial))
  have HB := Lib.hid hB2
  have HT := Lib.hid ((Touch.refl (fun k => k = g) w).setCell_ (g := g) (o := 2) (.inl rfl) (.int .i64 x.serial))
  have HS := Lib.hid (show rMay x 115 = (decide (1 ≤ x.serial)) by simp [rMay])
  clear hA hB hB2
  go_enter Tryd.func57, Tryd.ntmps57
  go_wp2
  go_ret
  exact ⟨ret_bool HS.out.symm, HA.out, HB.out, HT.out⟩
theorem rfield_u (g b : Nat) (z x : Change) (w : World) (hA : Blk w g 44 z.vals) (hB : Blk w b 44 x.vals) (hne : b ≠ g) :
    Calls Tryd.prog 57 #[.pointer (some ⟨g, 0, none⟩), .pointer (some ⟨b, 0, none⟩), .int .i32 117] w fun e w' => e = .returned (.bool (rMay x 117)) ∧ Blk w' g 44 (rCopy z x 117).vals ∧ Blk w' b 44 x.vals ∧ Touch (fun k => k = g) w w' := by
  have ha := hA.cell
  have hf := hA.frozen
  have hc := hB.cell
  have hB2 : Blk (w.setCell ⟨g, 3, none⟩ (.string (bs x.up))) b 44 x.vals := hB.far (p := ⟨g, 3, none⟩) hne _
  have hc2 := hB2.cell
  have HA := Lib.hid (show Blk (w.setCell ⟨g, 3, none⟩ (.string (bs x.up))) g 44 (rCopy z x 117).vals from hA.set_ 3 (.string (bs x.up)))
  have HB := Lib.hid hB2
  have HT := Lib.hid ((Touch.refl (fun k => k = g) w).setCell_ (g := g) (o := 3) (.inl rfl) (.string (bs x.up)))
  have HS := Lib.hid (show rMay x 117 = (decide (1 ≤ (x.up.length : Int)) && decide ((x.up.length : Int) ≤ 64)) by simp [rMay])
  clear hA hB hB2
  go_enter Tryd.func57, Tryd.ntmps57
  go_wp2_with fail
  refine (rtext_any _ _ _ _).mono ?_
  rintro e w1 ⟨rfl, rfl⟩
  go_wp2
  go_ret
  exact ⟨ret_bool HS.out.symm, HA.out, HB.out, HT.out⟩
theorem rfield_n (g b : Nat) (z x : Change) (w : World) (hA : Blk w g 44 z.vals) (hB : Blk w b 44 x.vals) (hne : b ≠ g) :
    Calls Tryd.prog 57 #[.pointer (some ⟨g, 0, none⟩), .pointer (some ⟨b, 0, none⟩), .int .i32 110] w fun e w' => e = .returned (.bool (rMay x 110)) ∧ Blk w' g 44 (rCopy z x 110).vals ∧ Blk w' b 44 x.vals ∧ Touch (fun k => k = g) w w' := by
  have ha := hA.cell
  have hf := hA.frozen
  have hc := hB.cell
  have hB2 : Blk (w.setCell ⟨g, 4, none⟩ (.string (bs x.name))) b 44 x.vals := hB.far (p := ⟨g, 4, none⟩) hne _
  have hc2 := hB2.cell
  have HA := Lib.hid (show Blk (w.setCell ⟨g, 4, none⟩ (.string (bs x.name))) g 44 (rCopy z x 110).vals from hA.set_ 4 (.string (bs x.name)))
  have HB := Lib.hid hB2
  have HT := Lib.hid ((Touch.refl (fun k => k = g) w).setCell_ (g := g) (o := 4) (.inl rfl) (.string (bs x.name)))
  have HS := Lib.hid (show rMay x 110 = (decide (1 ≤ (x.name.length : Int)) && decide ((x.name.length : Int) ≤ 255)) by simp [rMay])
  clear hA hB hB2
  go_enter Tryd.func57, Tryd.ntmps57
  go_wp2_with fail
  refine (rtext_any _ _ _ _).mono ?_
  rintro e w1 ⟨rfl, rfl⟩
  go_wp2
  go_ret
  exact ⟨ret_bool HS.out.symm, HA.out, HB.out, HT.out⟩
theorem rfield_c (g b : Nat) (z x : Change) (w : World) (hA : Blk w g 44 z.vals) (hB : Blk w b 44 x.vals) (hne : b ≠ g) :
    Calls Tryd.prog 57 #[.pointer (some ⟨g, 0, none⟩), .pointer (some ⟨b, 0, none⟩), .int .i32 99] w fun e w' => e = .returned (.bool (rMay x 99)) ∧ Blk w' g 44 (rCopy z x 99).vals ∧ Blk w' b 44 x.vals ∧ Touch (fun k => k = g) w w' := by
  have ha := hA.cell
  have hf := hA.frozen
  have hc := hB.cell
  have hB2 : Blk (w.setCell ⟨g, 5, none⟩ (.string (bs x.child))) b 44 x.vals := hB.far (p := ⟨g, 5, none⟩) hne _
  have hc2 := hB2.cell
  have HA := Lib.hid (show Blk (w.setCell ⟨g, 5, none⟩ (.string (bs x.child))) g 44 (rCopy z x 99).vals from hA.set_ 5 (.string (bs x.child)))
  have HB := Lib.hid hB2
  have HT := Lib.hid ((Touch.refl (fun k => k = g) w).setCell_ (g := g) (o := 5) (.inl rfl) (.string (bs x.child)))
  have HS := Lib.hid (show rMay x 99 = (decide (0 ≤ (x.child.length : Int)) && decide ((x.child.length : Int) ≤ 64)) by simp [rMay])
  clear hA hB hB2
  go_enter Tryd.func57, Tryd.ntmps57
  go_wp2_with fail
  refine (rtext_any _ _ _ _).mono ?_
  rintro e w1 ⟨rfl, rfl⟩
  go_wp2
  go_ret
  exact ⟨ret_bool HS.out.symm, HA.out, HB.out, HT.out⟩
set_option maxHeartbeats 1600000 in
theorem rfield_a (g b : Nat) (z x : Change) (w : World) (hg : x.attr.good) (hA : Blk w g 44 z.vals) (hB : Blk w b 44 x.vals) (hne : b ≠ g) :
    Calls Tryd.prog 57 #[.pointer (some ⟨g, 0, none⟩), .pointer (some ⟨b, 0, none⟩), .int .i32 97] w fun e w' => e = .returned (.bool (rMay x 97)) ∧ Blk w' g 44 (rCopy z x 97).vals ∧ Blk w' b 44 x.vals ∧ Touch (fun k => k = g) w w' := by
  have hr : rowOf w b 6 10 = some x.attr.vals.toArray := hB.row 6 10 (by simp [Change.len])
  have hB2 : Blk (w.setCells g 6 x.attr.vals) b 44 x.vals := Blk.farCells hne _ _ _ hB
  have hr2 : rowOf (w.setCells g 6 x.attr.vals) b 6 10 = some x.attr.vals.toArray := hB2.row 6 10 (by simp [Change.len])
  have HA := Lib.hid (show Blk (w.setCells g 6 x.attr.vals) g 44 (rCopy z x 97).vals from hA.sets x.attr.vals _ 6)
  have HB := Lib.hid hB2
  have HT := Lib.hid (Touch.setCells (F := fun k => k = g) (g := g) (.inl rfl) x.attr.vals 6 w (Touch.refl _ w))
  have HS := Lib.hid (show rMay x 97 = x.attr.ok by simp [rMay])
  clear hB hB2
  go_enter Tryd.func57, Tryd.ntmps57
  have tok : True := trivial
  go_wp2_with (first | (clear tok; refine wpList_store_part (by rfl) 42 _ _ (by rfl) g 6 x.attr.vals _ hA (by simp [Attr.len, Change.len]) (by rfl) (by rfl) (by kernel_rfl) (Attr.one _) ?_) | fail)
  clear hr hA
  generalize w.setCells g 6 x.attr.vals = w1 at *
  refine (check5_any x.attr _ hg).mono ?_
  rintro e w2 ⟨rfl, hb2⟩
  have HA2 := Lib.hid (HA.out.stays hb2)
  have HB2 := Lib.hid (HB.out.stays hb2)
  have HT2 := Lib.hid (HT.out.then_ (Touch.of_below hb2 _))
  clear hb2 hr2
  unfold form
  cases hk : x.attr.ok
  all_goals
    have HK := Lib.hid hk
    clear hk
    go_wp2
    go_ret
    exact ⟨ret_bool (HK.out.symm.trans HS.out.symm), HA2.out, HB2.out, HT2.out⟩
theorem rfield_b (g b : Nat) (z x : Change) (w : World) (hA : Blk w g 44 z.vals) (hB : Blk w b 44 x.vals) (hne : b ≠ g) :
    Calls Tryd.prog 57 #[.pointer (some ⟨g, 0, none⟩), .pointer (some ⟨b, 0, none⟩), .int .i32 98] w fun e w' => e = .returned (.bool (rMay x 98)) ∧ Blk w' g 44 (rCopy z x 98).vals ∧ Blk w' b 44 x.vals ∧ Touch (fun k => k = g) w w' := by
  have ha := hA.cell
  have hf := hA.frozen
  have hc := hB.cell
  have hB2 : Blk (w.setCell ⟨g, 16, none⟩ (.int .i64 x.no)) b 44 x.vals := hB.far (p := ⟨g, 16, none⟩) hne _
  have hc2 := hB2.cell
  have HA := Lib.hid (show Blk (w.setCell ⟨g, 16, none⟩ (.int .i64 x.no)) g 44 (rCopy z x 98).vals from hA.set_ 16 (.int .i64 x.no))
  have HB := Lib.hid hB2
  have HT := Lib.hid ((Touch.refl (fun k => k = g) w).setCell_ (g := g) (o := 16) (.inl rfl) (.int .i64 x.no))
  have HS := Lib.hid (show rMay x 98 = (decide (0 ≤ x.no) && decide (x.no ≤ 65535)) by simp [rMay])
  clear hA hB hB2
  go_enter Tryd.func57, Tryd.ntmps57
  go_wp2_with fail
  refine (rnumber_any _ _ _ _).mono ?_
  rintro e w1 ⟨rfl, rfl⟩
  go_wp2
  go_ret
  exact ⟨ret_bool HS.out.symm, HA.out, HB.out, HT.out⟩
theorem rfield_t (g b : Nat) (z x : Change) (w : World) (hA : Blk w g 44 z.vals) (hB : Blk w b 44 x.vals) (hne : b ≠ g) :
    Calls Tryd.prog 57 #[.pointer (some ⟨g, 0, none⟩), .pointer (some ⟨b, 0, none⟩), .int .i32 116] w fun e w' => e = .returned (.bool (rMay x 116)) ∧ Blk w' g 44 (rCopy z x 116).vals ∧ Blk w' b 44 x.vals ∧ Touch (fun k => k = g) w w' := by
  have ha := hA.cell
  have hf := hA.frozen
  have hc := hB.cell
  have hB2 : Blk (w.setCell ⟨g, 17, none⟩ (.int .i64 x.slot)) b 44 x.vals := hB.far (p := ⟨g, 17, none⟩) hne _
  have hc2 := hB2.cell
  have HA := Lib.hid (show Blk (w.setCell ⟨g, 17, none⟩ (.int .i64 x.slot)) g 44 (rCopy z x 116).vals from hA.set_ 17 (.int .i64 x.slot))
  have HB := Lib.hid hB2
  have HT := Lib.hid ((Touch.refl (fun k => k = g) w).setCell_ (g := g) (o := 17) (.inl rfl) (.int .i64 x.slot))
  have HS := Lib.hid (show rMay x 116 = (decide (0 ≤ x.slot) && decide (x.slot ≤ 65535)) by simp [rMay])
  clear hA hB hB2
  go_enter Tryd.func57, Tryd.ntmps57
  go_wp2_with fail
  refine (rnumber_any _ _ _ _).mono ?_
  rintro e w1 ⟨rfl, rfl⟩
  go_wp2
  go_ret
  exact ⟨ret_bool HS.out.symm, HA.out, HB.out, HT.out⟩
theorem rfield_any (g b : Nat) (z x : Change) (c : Nat) (hl : rLetter c) (w : World) (hg : x.attr.good) (hA : Blk w g 44 z.vals) (hB : Blk w b 44 x.vals) (hne : b ≠ g) :
    Calls Tryd.prog 57 #[.pointer (some ⟨g, 0, none⟩), .pointer (some ⟨b, 0, none⟩), .int .i32 c] w fun e w' => e = .returned (.bool (rMay x c)) ∧ Blk w' g 44 (rCopy z x c).vals ∧ Blk w' b 44 x.vals ∧ Touch (fun k => k = g) w w' := by
  rcases hl with rfl | rfl | rfl | rfl | rfl | rfl | rfl | rfl
  · exact rfield_e g b z x w hA hB hne
  · exact rfield_s g b z x w hA hB hne
  · exact rfield_u g b z x w hA hB hne
  · exact rfield_n g b z x w hA hB hne
  · exact rfield_c g b z x w hA hB hne
  · exact rfield_a g b z x w hg hA hB hne
  · exact rfield_b g b z x w hA hB hne
  · exact rfield_t g b z x w hA hB hne
end Go.Proofs.YthfhdighniiodaaDoor
