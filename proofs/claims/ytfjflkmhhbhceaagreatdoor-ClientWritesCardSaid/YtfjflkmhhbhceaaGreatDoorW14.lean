/-
  Layer 7, walks: may the field of a letter be (written by wip/tools/genmay.py). Condition: a call at a block of its own.
-/
import Derived.Test.YtfjflkmhhbhceaaGreatDoorW07
import Derived.Test.YtfjflkmhhbhceaaGreatDoorW13
import Derived.Test.YtfjflkmhhbhceaaGreatDoorW03
import Derived.Test.YtfjflkmhhbhceaaGreatDoorW06
import Derived.Test.YtfjflkmhhbhceaaGreatDoorW12
import Derived.Test.YtfjflkmhhbhceaaGreatDoorW11
namespace Go.Proofs.YtfjflkmhhbhceaaGreatDoor
open Go.RowKit
attribute [local go_sem ↓] Go.wp_at_zero Go.wp_at_succ
attribute [local go_sem] rowAt_ptr rowOf_drew rowOf_drewN rowOf_alloc_past rowOf_new
attribute [local go_sem ↓] ldSet ldOpt

attribute [local go_sem] Call.at0 Call.lat0 Call.at1 Call.lat1 Call.at2 Call.lat2 Call.at3 Call.lat3 Call.at4 Call.lat4 Call.at5 Call.lat5 Call.at6 Call.lat6 Call.at7 Call.lat7 Call.at8 Call.lat8 Call.at9 Call.lat9 Call.at10 Call.lat10 Call.at11 Call.lat11 Call.at12 Call.lat12 Call.at13 Call.lat13 Call.at14 Call.lat14 Call.at15 Call.lat15 Call.at16 Call.lat16 Call.at17 Call.lat17 Call.at18 Call.lat18 Call.at19 Call.lat19 Call.at20 Call.lat20 Call.at21 Call.lat21 Call.at22 Call.lat22 Call.at23 Call.lat23 Call.sub0_24 Call.lsub0_24 Call.sub9_10 Call.lsub9_10 Call.sub9_2 Call.lsub9_2 Call.sub11_2 Call.lsub11_2 Call.sub13_2 Call.lsub13_2 Call.sub15_2 Call.lsub15_2 Call.sub17_2 Call.lsub17_2 Call.sub19_2 Call.lsub19_2 Call.len Sett.at0 Sett.lat0 Sett.at1 Sett.lat1 Sett.at2 Sett.lat2 Sett.at3 Sett.lat3 Sett.at4 Sett.lat4 Sett.at5 Sett.lat5 Sett.at6 Sett.lat6 Sett.at7 Sett.lat7 Sett.at8 Sett.lat8 Sett.at9 Sett.lat9 Sett.sub0_10 Sett.lsub0_10 Sett.sub0_2 Sett.lsub0_2 Sett.sub2_2 Sett.lsub2_2 Sett.sub4_2 Sett.lsub4_2 Sett.sub6_2 Sett.lsub6_2 Sett.sub8_2 Sett.lsub8_2 Sett.len Opt.at0 Opt.lat0 Opt.at1 Opt.lat1 Opt.sub0_2 Opt.lsub0_2 Opt.len

/-- may the field of a letter be -/
def cMay (x : Call) (c : Nat) : Bool :=
  if c = 102 then decide (x.fh.length ≤ 64) else
  if c = 70 then decide (x.fh2.length ≤ 64) else
  if c = 110 then decide (x.name.length ≤ 255) else
  if c = 78 then decide (x.name2.length ≤ 255) else
  if c = 116 then decide (x.text.length ≤ 255) else
  if c = 100 then decide (x.data.length ≤ 256) else
  if c = 111 then decide (0 ≤ x.offset) else
  if c = 107 then decide (0 ≤ x.cookie) else
  if c = 118 then decide (0 ≤ x.verf) else
  if c = 99 then decide (0 ≤ x.count) && decide (x.count ≤ 4294967295) else
  if c = 104 then decide (0 ≤ x.how) && decide (x.how ≤ 4294967295) else
  if c = 115 then x.set.ok else
  decide (0 ≤ x.guard.n) && (x.guard.is || x.guard.n == 0)

theorem ctext_any (l : List UInt8) (most : Int) (w : World) : Calls Tryz.prog 120 #[.string (bs l), .int .i64 most] w fun e w' => e = .returned (.bool (decide ((l.length : Int) ≤ most))) ∧ w = w' := by
  have hsz := bs_size l
  go_enter Tryz.func120, Tryz.ntmps120
  go_wp2
  go_ret
  exact ⟨rfl, rfl⟩
theorem cnumber_any (n most : Int) (w : World) : Calls Tryz.prog 121 #[.int .i64 n, .int .i64 most] w fun e w' => e = .returned (.bool (decide (0 ≤ n) && decide (n ≤ most))) ∧ w = w' := by
  go_enter Tryz.func121, Tryz.ntmps121
  go_wp2
  all_goals (go_ret; go_light; exact ⟨ret_bool (by grind), rfl⟩)

theorem may_f (b : Nat) (x : Call) (w : World) (hB : Blk w b 36 x.vals) : Calls Tryz.prog 80 #[.pointer (some ⟨b, 0, none⟩), .int .i32 102] w fun e w' => e = .returned (.bool (cMay x 102)) ∧ Below w.heap.size w w' := by
  have hc := hB.cell
  have HS := Lib.hid (show cMay x 102 = decide ((x.fh.length : Int) ≤ 64) by simp [cMay]; omega)
  go_enter Tryz.func80, Tryz.ntmps80
  go_wp2_with fail
  refine (ctext_any _ _ _).mono ?_
  rintro e w1 ⟨rfl, rfl⟩
  go_wp2
  go_ret
  exact ⟨ret_bool HS.out.symm, Below.refl _ _⟩
theorem may_F2 (b : Nat) (x : Call) (w : World) (hB : Blk w b 36 x.vals) : Calls Tryz.prog 80 #[.pointer (some ⟨b, 0, none⟩), .int .i32 70] w fun e w' => e = .returned (.bool (cMay x 70)) ∧ Below w.heap.size w w' := by
  have hc := hB.cell
  have HS := Lib.hid (show cMay x 70 = decide ((x.fh2.length : Int) ≤ 64) by simp [cMay]; omega)
  go_enter Tryz.func80, Tryz.ntmps80
  go_wp2_with fail
  refine (ctext_any _ _ _).mono ?_
  rintro e w1 ⟨rfl, rfl⟩
  go_wp2
  go_ret
  exact ⟨ret_bool HS.out.symm, Below.refl _ _⟩
theorem may_n (b : Nat) (x : Call) (w : World) (hB : Blk w b 36 x.vals) : Calls Tryz.prog 80 #[.pointer (some ⟨b, 0, none⟩), .int .i32 110] w fun e w' => e = .returned (.bool (cMay x 110)) ∧ Below w.heap.size w w' := by
  have hc := hB.cell
  have HS := Lib.hid (show cMay x 110 = decide ((x.name.length : Int) ≤ 255) by simp [cMay]; omega)
  go_enter Tryz.func80, Tryz.ntmps80
  go_wp2_with fail
  refine (ctext_any _ _ _).mono ?_
  rintro e w1 ⟨rfl, rfl⟩
  go_wp2
  go_ret
  exact ⟨ret_bool HS.out.symm, Below.refl _ _⟩
theorem may_N2 (b : Nat) (x : Call) (w : World) (hB : Blk w b 36 x.vals) : Calls Tryz.prog 80 #[.pointer (some ⟨b, 0, none⟩), .int .i32 78] w fun e w' => e = .returned (.bool (cMay x 78)) ∧ Below w.heap.size w w' := by
  have hc := hB.cell
  have HS := Lib.hid (show cMay x 78 = decide ((x.name2.length : Int) ≤ 255) by simp [cMay]; omega)
  go_enter Tryz.func80, Tryz.ntmps80
  go_wp2_with fail
  refine (ctext_any _ _ _).mono ?_
  rintro e w1 ⟨rfl, rfl⟩
  go_wp2
  go_ret
  exact ⟨ret_bool HS.out.symm, Below.refl _ _⟩
theorem may_t (b : Nat) (x : Call) (w : World) (hB : Blk w b 36 x.vals) : Calls Tryz.prog 80 #[.pointer (some ⟨b, 0, none⟩), .int .i32 116] w fun e w' => e = .returned (.bool (cMay x 116)) ∧ Below w.heap.size w w' := by
  have hc := hB.cell
  have HS := Lib.hid (show cMay x 116 = decide ((x.text.length : Int) ≤ 255) by simp [cMay]; omega)
  go_enter Tryz.func80, Tryz.ntmps80
  go_wp2_with fail
  refine (ctext_any _ _ _).mono ?_
  rintro e w1 ⟨rfl, rfl⟩
  go_wp2
  go_ret
  exact ⟨ret_bool HS.out.symm, Below.refl _ _⟩
theorem may_d (b : Nat) (x : Call) (w : World) (hB : Blk w b 36 x.vals) : Calls Tryz.prog 80 #[.pointer (some ⟨b, 0, none⟩), .int .i32 100] w fun e w' => e = .returned (.bool (cMay x 100)) ∧ Below w.heap.size w w' := by
  have hc := hB.cell
  have HS := Lib.hid (show cMay x 100 = decide ((x.data.length : Int) ≤ 256) by simp [cMay]; omega)
  go_enter Tryz.func80, Tryz.ntmps80
  go_wp2_with fail
  refine (ctext_any _ _ _).mono ?_
  rintro e w1 ⟨rfl, rfl⟩
  go_wp2
  go_ret
  exact ⟨ret_bool HS.out.symm, Below.refl _ _⟩
theorem may_o (b : Nat) (x : Call) (w : World) (hB : Blk w b 36 x.vals) : Calls Tryz.prog 80 #[.pointer (some ⟨b, 0, none⟩), .int .i32 111] w fun e w' => e = .returned (.bool (cMay x 111)) ∧ Below w.heap.size w w' := by
  have hc := hB.cell
  have HS := Lib.hid (show cMay x 111 = decide (0 ≤ x.offset) by simp [cMay])
  go_enter Tryz.func80, Tryz.ntmps80
  go_wp2
  go_ret
  exact ⟨ret_bool HS.out.symm, Below.refl _ _⟩
theorem may_k (b : Nat) (x : Call) (w : World) (hB : Blk w b 36 x.vals) : Calls Tryz.prog 80 #[.pointer (some ⟨b, 0, none⟩), .int .i32 107] w fun e w' => e = .returned (.bool (cMay x 107)) ∧ Below w.heap.size w w' := by
  have hc := hB.cell
  have HS := Lib.hid (show cMay x 107 = decide (0 ≤ x.cookie) by simp [cMay])
  go_enter Tryz.func80, Tryz.ntmps80
  go_wp2
  go_ret
  exact ⟨ret_bool HS.out.symm, Below.refl _ _⟩
theorem may_v (b : Nat) (x : Call) (w : World) (hB : Blk w b 36 x.vals) : Calls Tryz.prog 80 #[.pointer (some ⟨b, 0, none⟩), .int .i32 118] w fun e w' => e = .returned (.bool (cMay x 118)) ∧ Below w.heap.size w w' := by
  have hc := hB.cell
  have HS := Lib.hid (show cMay x 118 = decide (0 ≤ x.verf) by simp [cMay])
  go_enter Tryz.func80, Tryz.ntmps80
  go_wp2
  go_ret
  exact ⟨ret_bool HS.out.symm, Below.refl _ _⟩
theorem may_c (b : Nat) (x : Call) (w : World) (hB : Blk w b 36 x.vals) : Calls Tryz.prog 80 #[.pointer (some ⟨b, 0, none⟩), .int .i32 99] w fun e w' => e = .returned (.bool (cMay x 99)) ∧ Below w.heap.size w w' := by
  have hc := hB.cell
  have HS := Lib.hid (show cMay x 99 = (decide (0 ≤ x.count) && decide (x.count ≤ 4294967295)) by simp [cMay])
  go_enter Tryz.func80, Tryz.ntmps80
  go_wp2_with fail
  refine (cnumber_any _ _ _).mono ?_
  rintro e w1 ⟨rfl, rfl⟩
  go_wp2
  go_ret
  exact ⟨ret_bool HS.out.symm, Below.refl _ _⟩
theorem may_h (b : Nat) (x : Call) (w : World) (hB : Blk w b 36 x.vals) : Calls Tryz.prog 80 #[.pointer (some ⟨b, 0, none⟩), .int .i32 104] w fun e w' => e = .returned (.bool (cMay x 104)) ∧ Below w.heap.size w w' := by
  have hc := hB.cell
  have HS := Lib.hid (show cMay x 104 = (decide (0 ≤ x.how) && decide (x.how ≤ 4294967295)) by simp [cMay])
  go_enter Tryz.func80, Tryz.ntmps80
  go_wp2_with fail
  refine (cnumber_any _ _ _).mono ?_
  rintro e w1 ⟨rfl, rfl⟩
  go_wp2
  go_ret
  exact ⟨ret_bool HS.out.symm, Below.refl _ _⟩
end Go.Proofs.YtfjflkmhhbhceaaGreatDoor

/-
  Layer 7, walks: what is to be set, and the guard, may be; the field of a letter is copied (written by wip/tools/gencopied.py). Condition: calls at blocks of their own.
-/
namespace Go.Proofs.YtfjflkmhhbhceaaGreatDoor
open Go.RowKit
attribute [local go_sem ↓] Go.wp_at_zero Go.wp_at_succ
attribute [local go_sem] rowAt_ptr rowOf_drew rowOf_drewN rowOf_alloc_past rowOf_new
attribute [local go_sem ↓] ldSet ldOpt

attribute [local go_sem] Call.at0 Call.lat0 Call.at1 Call.lat1 Call.at2 Call.lat2 Call.at3 Call.lat3 Call.at4 Call.lat4 Call.at5 Call.lat5 Call.at6 Call.lat6 Call.at7 Call.lat7 Call.at8 Call.lat8 Call.at9 Call.lat9 Call.at10 Call.lat10 Call.at11 Call.lat11 Call.at12 Call.lat12 Call.at13 Call.lat13 Call.at14 Call.lat14 Call.at15 Call.lat15 Call.at16 Call.lat16 Call.at17 Call.lat17 Call.at18 Call.lat18 Call.at19 Call.lat19 Call.at20 Call.lat20 Call.at21 Call.lat21 Call.at22 Call.lat22 Call.at23 Call.lat23 Call.sub0_24 Call.lsub0_24 Call.sub9_10 Call.lsub9_10 Call.sub9_2 Call.lsub9_2 Call.sub11_2 Call.lsub11_2 Call.sub13_2 Call.lsub13_2 Call.sub15_2 Call.lsub15_2 Call.sub17_2 Call.lsub17_2 Call.sub19_2 Call.lsub19_2 Call.len Sett.at0 Sett.lat0 Sett.at1 Sett.lat1 Sett.at2 Sett.lat2 Sett.at3 Sett.lat3 Sett.at4 Sett.lat4 Sett.at5 Sett.lat5 Sett.at6 Sett.lat6 Sett.at7 Sett.lat7 Sett.at8 Sett.lat8 Sett.at9 Sett.lat9 Sett.sub0_10 Sett.lsub0_10 Sett.sub0_2 Sett.lsub0_2 Sett.sub2_2 Sett.lsub2_2 Sett.sub4_2 Sett.lsub4_2 Sett.sub6_2 Sett.lsub6_2 Sett.sub8_2 Sett.lsub8_2 Sett.len Opt.at0 Opt.lat0 Opt.at1 Opt.lat1 Opt.sub0_2 Opt.lsub0_2 Opt.len

theorem may_s (b : Nat) (x : Call) (w : World) (hB : Blk w b 36 x.vals) : Calls Tryz.prog 80 #[.pointer (some ⟨b, 0, none⟩), .int .i32 115] w fun e w' => e = .returned (.bool (cMay x 115)) ∧ Below w.heap.size w w' := by
  have hr : rowOf w b 9 10 = some x.set.vals.toArray := hB.row 9 10 (by simp [Call.len])
  have HS := Lib.hid (show cMay x 115 = x.set.ok by simp [cMay])
  go_enter Tryz.func80, Tryz.ntmps80
  go_wp2_with fail
  refine (checkSet_any _ _).mono ?_
  rintro e w1 ⟨rfl, hb⟩
  unfold form
  cases hk : x.set.ok
  all_goals
    have HK := Lib.hid hk
    clear hk
    go_wp2
    go_ret
    exact ⟨ret_bool (HK.out.symm.trans HS.out.symm), hb⟩
theorem may_g (b : Nat) (x : Call) (w : World) (hB : Blk w b 36 x.vals) : Calls Tryz.prog 80 #[.pointer (some ⟨b, 0, none⟩), .int .i32 103] w fun e w' => e = .returned (.bool (cMay x 103)) ∧ Below w.heap.size w w' := by
  have hc := hB.cell
  have HS := Lib.hid (show cMay x 103 = (decide (0 ≤ x.guard.n) && (x.guard.is || x.guard.n == 0)) by simp [cMay])
  go_enter Tryz.func80, Tryz.ntmps80
  go_wp2
  all_goals (go_ret; go_light; exact ⟨ret_bool (by rw [HS.out]; grind), Below.refl _ _⟩)

/-- the field of a letter is copied -/
def cCopy (z x : Call) (c : Nat) : Call :=
  if c = 102 then { z with fh := x.fh } else
  if c = 70 then { z with fh2 := x.fh2 } else
  if c = 110 then { z with name := x.name } else
  if c = 78 then { z with name2 := x.name2 } else
  if c = 116 then { z with text := x.text } else
  if c = 100 then { z with data := x.data } else
  if c = 111 then { z with offset := x.offset } else
  if c = 107 then { z with cookie := x.cookie } else
  if c = 118 then { z with verf := x.verf } else
  if c = 99 then { z with count := x.count } else
  if c = 104 then { z with how := x.how } else
  if c = 115 then { z with set := x.set } else
  if c = 103 then { z with guard := x.guard } else z
theorem copied_f (g b : Nat) (z x : Call) (w : World) (hA : Blk w g 36 z.vals) (hB : Blk w b 36 x.vals) : Calls Tryz.prog 79 #[.pointer (some ⟨g, 0, none⟩), .pointer (some ⟨b, 0, none⟩), .int .i32 102] w fun e w' => e = .returned (.tuple #[]) ∧ Blk w' g 36 (cCopy z x 102).vals ∧ Touch (fun k => k = g) w w' := by
  have ha := hA.cell
  have hf := hA.frozen
  have hc := hB.cell
  have HA := Lib.hid (show Blk (w.setCell ⟨g, 1, none⟩ (.string (bs x.fh))) g 36 (cCopy z x 102).vals from hA.set_ 1 (.string (bs x.fh)))
  have HT := Lib.hid ((Touch.refl (fun k => k = g) w).setCell_ (g := g) (o := 1) (.inl rfl) (.string (bs x.fh)))
  clear hA hB
  go_enter Tryz.func79, Tryz.ntmps79
  go_wp2
  go_end0
  exact ⟨rfl, HA.out, HT.out⟩
theorem copied_f2 (g b : Nat) (z x : Call) (w : World) (hA : Blk w g 36 z.vals) (hB : Blk w b 36 x.vals) : Calls Tryz.prog 79 #[.pointer (some ⟨g, 0, none⟩), .pointer (some ⟨b, 0, none⟩), .int .i32 70] w fun e w' => e = .returned (.tuple #[]) ∧ Blk w' g 36 (cCopy z x 70).vals ∧ Touch (fun k => k = g) w w' := by
  have ha := hA.cell
  have hf := hA.frozen
  have hc := hB.cell
  have HA := Lib.hid (show Blk (w.setCell ⟨g, 3, none⟩ (.string (bs x.fh2))) g 36 (cCopy z x 70).vals from hA.set_ 3 (.string (bs x.fh2)))
  have HT := Lib.hid ((Touch.refl (fun k => k = g) w).setCell_ (g := g) (o := 3) (.inl rfl) (.string (bs x.fh2)))
  clear hA hB
  go_enter Tryz.func79, Tryz.ntmps79
  go_wp2
  go_end0
  exact ⟨rfl, HA.out, HT.out⟩
theorem copied_n (g b : Nat) (z x : Call) (w : World) (hA : Blk w g 36 z.vals) (hB : Blk w b 36 x.vals) : Calls Tryz.prog 79 #[.pointer (some ⟨g, 0, none⟩), .pointer (some ⟨b, 0, none⟩), .int .i32 110] w fun e w' => e = .returned (.tuple #[]) ∧ Blk w' g 36 (cCopy z x 110).vals ∧ Touch (fun k => k = g) w w' := by
  have ha := hA.cell
  have hf := hA.frozen
  have hc := hB.cell
  have HA := Lib.hid (show Blk (w.setCell ⟨g, 2, none⟩ (.string (bs x.name))) g 36 (cCopy z x 110).vals from hA.set_ 2 (.string (bs x.name)))
  have HT := Lib.hid ((Touch.refl (fun k => k = g) w).setCell_ (g := g) (o := 2) (.inl rfl) (.string (bs x.name)))
  clear hA hB
  go_enter Tryz.func79, Tryz.ntmps79
  go_wp2
  go_end0
  exact ⟨rfl, HA.out, HT.out⟩
theorem copied_n2 (g b : Nat) (z x : Call) (w : World) (hA : Blk w g 36 z.vals) (hB : Blk w b 36 x.vals) : Calls Tryz.prog 79 #[.pointer (some ⟨g, 0, none⟩), .pointer (some ⟨b, 0, none⟩), .int .i32 78] w fun e w' => e = .returned (.tuple #[]) ∧ Blk w' g 36 (cCopy z x 78).vals ∧ Touch (fun k => k = g) w w' := by
  have ha := hA.cell
  have hf := hA.frozen
  have hc := hB.cell
  have HA := Lib.hid (show Blk (w.setCell ⟨g, 4, none⟩ (.string (bs x.name2))) g 36 (cCopy z x 78).vals from hA.set_ 4 (.string (bs x.name2)))
  have HT := Lib.hid ((Touch.refl (fun k => k = g) w).setCell_ (g := g) (o := 4) (.inl rfl) (.string (bs x.name2)))
  clear hA hB
  go_enter Tryz.func79, Tryz.ntmps79
  go_wp2
  go_end0
  exact ⟨rfl, HA.out, HT.out⟩
theorem copied_t (g b : Nat) (z x : Call) (w : World) (hA : Blk w g 36 z.vals) (hB : Blk w b 36 x.vals) : Calls Tryz.prog 79 #[.pointer (some ⟨g, 0, none⟩), .pointer (some ⟨b, 0, none⟩), .int .i32 116] w fun e w' => e = .returned (.tuple #[]) ∧ Blk w' g 36 (cCopy z x 116).vals ∧ Touch (fun k => k = g) w w' := by
  have ha := hA.cell
  have hf := hA.frozen
  have hc := hB.cell
  have HA := Lib.hid (show Blk (w.setCell ⟨g, 23, none⟩ (.string (bs x.text))) g 36 (cCopy z x 116).vals from hA.set_ 23 (.string (bs x.text)))
  have HT := Lib.hid ((Touch.refl (fun k => k = g) w).setCell_ (g := g) (o := 23) (.inl rfl) (.string (bs x.text)))
  clear hA hB
  go_enter Tryz.func79, Tryz.ntmps79
  go_wp2
  go_end0
  exact ⟨rfl, HA.out, HT.out⟩
theorem copied_d (g b : Nat) (z x : Call) (w : World) (hA : Blk w g 36 z.vals) (hB : Blk w b 36 x.vals) : Calls Tryz.prog 79 #[.pointer (some ⟨g, 0, none⟩), .pointer (some ⟨b, 0, none⟩), .int .i32 100] w fun e w' => e = .returned (.tuple #[]) ∧ Blk w' g 36 (cCopy z x 100).vals ∧ Touch (fun k => k = g) w w' := by
  have ha := hA.cell
  have hf := hA.frozen
  have hc := hB.cell
  have HA := Lib.hid (show Blk (w.setCell ⟨g, 8, none⟩ (.string (bs x.data))) g 36 (cCopy z x 100).vals from hA.set_ 8 (.string (bs x.data)))
  have HT := Lib.hid ((Touch.refl (fun k => k = g) w).setCell_ (g := g) (o := 8) (.inl rfl) (.string (bs x.data)))
  clear hA hB
  go_enter Tryz.func79, Tryz.ntmps79
  go_wp2
  go_end0
  exact ⟨rfl, HA.out, HT.out⟩
theorem copied_o (g b : Nat) (z x : Call) (w : World) (hA : Blk w g 36 z.vals) (hB : Blk w b 36 x.vals) : Calls Tryz.prog 79 #[.pointer (some ⟨g, 0, none⟩), .pointer (some ⟨b, 0, none⟩), .int .i32 111] w fun e w' => e = .returned (.tuple #[]) ∧ Blk w' g 36 (cCopy z x 111).vals ∧ Touch (fun k => k = g) w w' := by
  have ha := hA.cell
  have hf := hA.frozen
  have hc := hB.cell
  have HA := Lib.hid (show Blk (w.setCell ⟨g, 5, none⟩ (.int .i64 x.offset)) g 36 (cCopy z x 111).vals from hA.set_ 5 (.int .i64 x.offset))
  have HT := Lib.hid ((Touch.refl (fun k => k = g) w).setCell_ (g := g) (o := 5) (.inl rfl) (.int .i64 x.offset))
  clear hA hB
  go_enter Tryz.func79, Tryz.ntmps79
  go_wp2
  go_end0
  exact ⟨rfl, HA.out, HT.out⟩
theorem copied_k (g b : Nat) (z x : Call) (w : World) (hA : Blk w g 36 z.vals) (hB : Blk w b 36 x.vals) : Calls Tryz.prog 79 #[.pointer (some ⟨g, 0, none⟩), .pointer (some ⟨b, 0, none⟩), .int .i32 107] w fun e w' => e = .returned (.tuple #[]) ∧ Blk w' g 36 (cCopy z x 107).vals ∧ Touch (fun k => k = g) w w' := by
  have ha := hA.cell
  have hf := hA.frozen
  have hc := hB.cell
  have HA := Lib.hid (show Blk (w.setCell ⟨g, 21, none⟩ (.int .i64 x.cookie)) g 36 (cCopy z x 107).vals from hA.set_ 21 (.int .i64 x.cookie))
  have HT := Lib.hid ((Touch.refl (fun k => k = g) w).setCell_ (g := g) (o := 21) (.inl rfl) (.int .i64 x.cookie))
  clear hA hB
  go_enter Tryz.func79, Tryz.ntmps79
  go_wp2
  go_end0
  exact ⟨rfl, HA.out, HT.out⟩
theorem copied_v (g b : Nat) (z x : Call) (w : World) (hA : Blk w g 36 z.vals) (hB : Blk w b 36 x.vals) : Calls Tryz.prog 79 #[.pointer (some ⟨g, 0, none⟩), .pointer (some ⟨b, 0, none⟩), .int .i32 118] w fun e w' => e = .returned (.tuple #[]) ∧ Blk w' g 36 (cCopy z x 118).vals ∧ Touch (fun k => k = g) w w' := by
  have ha := hA.cell
  have hf := hA.frozen
  have hc := hB.cell
  have HA := Lib.hid (show Blk (w.setCell ⟨g, 22, none⟩ (.int .i64 x.verf)) g 36 (cCopy z x 118).vals from hA.set_ 22 (.int .i64 x.verf))
  have HT := Lib.hid ((Touch.refl (fun k => k = g) w).setCell_ (g := g) (o := 22) (.inl rfl) (.int .i64 x.verf))
  clear hA hB
  go_enter Tryz.func79, Tryz.ntmps79
  go_wp2
  go_end0
  exact ⟨rfl, HA.out, HT.out⟩
theorem copied_c (g b : Nat) (z x : Call) (w : World) (hA : Blk w g 36 z.vals) (hB : Blk w b 36 x.vals) : Calls Tryz.prog 79 #[.pointer (some ⟨g, 0, none⟩), .pointer (some ⟨b, 0, none⟩), .int .i32 99] w fun e w' => e = .returned (.tuple #[]) ∧ Blk w' g 36 (cCopy z x 99).vals ∧ Touch (fun k => k = g) w w' := by
  have ha := hA.cell
  have hf := hA.frozen
  have hc := hB.cell
  have HA := Lib.hid (show Blk (w.setCell ⟨g, 6, none⟩ (.int .i64 x.count)) g 36 (cCopy z x 99).vals from hA.set_ 6 (.int .i64 x.count))
  have HT := Lib.hid ((Touch.refl (fun k => k = g) w).setCell_ (g := g) (o := 6) (.inl rfl) (.int .i64 x.count))
  clear hA hB
  go_enter Tryz.func79, Tryz.ntmps79
  go_wp2
  go_end0
  exact ⟨rfl, HA.out, HT.out⟩
theorem copied_h (g b : Nat) (z x : Call) (w : World) (hA : Blk w g 36 z.vals) (hB : Blk w b 36 x.vals) : Calls Tryz.prog 79 #[.pointer (some ⟨g, 0, none⟩), .pointer (some ⟨b, 0, none⟩), .int .i32 104] w fun e w' => e = .returned (.tuple #[]) ∧ Blk w' g 36 (cCopy z x 104).vals ∧ Touch (fun k => k = g) w w' := by
  have ha := hA.cell
  have hf := hA.frozen
  have hc := hB.cell
  have HA := Lib.hid (show Blk (w.setCell ⟨g, 7, none⟩ (.int .i64 x.how)) g 36 (cCopy z x 104).vals from hA.set_ 7 (.int .i64 x.how))
  have HT := Lib.hid ((Touch.refl (fun k => k = g) w).setCell_ (g := g) (o := 7) (.inl rfl) (.int .i64 x.how))
  clear hA hB
  go_enter Tryz.func79, Tryz.ntmps79
  go_wp2
  go_end0
  exact ⟨rfl, HA.out, HT.out⟩
theorem copied_s (g b : Nat) (z x : Call) (w : World) (hA : Blk w g 36 z.vals) (hB : Blk w b 36 x.vals) : Calls Tryz.prog 79 #[.pointer (some ⟨g, 0, none⟩), .pointer (some ⟨b, 0, none⟩), .int .i32 115] w fun e w' => e = .returned (.tuple #[]) ∧ Blk w' g 36 (cCopy z x 115).vals ∧ Touch (fun k => k = g) w w' := by
  have hr : rowOf w b 9 10 = some x.set.vals.toArray := hB.row 9 10 (by simp [Call.len])
  have HA := Lib.hid (show Blk (w.setCells g 9 x.set.vals) g 36 (cCopy z x 115).vals from hA.sets x.set.vals _ 9)
  have HT := Lib.hid (Touch.setCells (F := fun k => k = g) (g := g) (.inl rfl) x.set.vals 9 w (Touch.refl _ w))
  clear hB
  go_enter Tryz.func79, Tryz.ntmps79
  go_wp2_with (first | (refine wpList_store_part (by rfl) 34 _ _ (by rfl) g 9 x.set.vals _ hA (by simp [Sett.len, Call.len]) (by rfl) (by rfl) (by kernel_rfl) (Sett.one _) ?_) | fail)
  go_end0
  exact ⟨rfl, HA.out, HT.out⟩
theorem copied_g (g b : Nat) (z x : Call) (w : World) (hA : Blk w g 36 z.vals) (hB : Blk w b 36 x.vals) : Calls Tryz.prog 79 #[.pointer (some ⟨g, 0, none⟩), .pointer (some ⟨b, 0, none⟩), .int .i32 103] w fun e w' => e = .returned (.tuple #[]) ∧ Blk w' g 36 (cCopy z x 103).vals ∧ Touch (fun k => k = g) w w' := by
  have hr : rowOf w b 19 2 = some x.guard.vals.toArray := hB.row 19 2 (by simp [Call.len])
  have HA := Lib.hid (show Blk (w.setCells g 19 x.guard.vals) g 36 (cCopy z x 103).vals from hA.sets x.guard.vals _ 19)
  have HT := Lib.hid (Touch.setCells (F := fun k => k = g) (g := g) (.inl rfl) x.guard.vals 19 w (Touch.refl _ w))
  clear hB
  go_enter Tryz.func79, Tryz.ntmps79
  go_wp2_with (first | (refine wpList_store_part (by rfl) 32 _ _ (by rfl) g 19 x.guard.vals _ hA (by simp [Opt.len, Call.len]) (by rfl) (by rfl) (by kernel_rfl) (Opt.one _) ?_) | fail)
  go_end0
  exact ⟨rfl, HA.out, HT.out⟩
end Go.Proofs.YtfjflkmhhbhceaaGreatDoor


/-
  Layer 7, walks: why a call may not be. No condition.
-/
namespace Go.Proofs.YtfjflkmhhbhceaaGreatDoor
open Go.RowKit
attribute [local go_sem ↓] Go.wp_at_zero Go.wp_at_succ
attribute [local go_sem] rowAt_ptr rowOf_drew rowOf_drewN rowOf_alloc_past rowOf_new
attribute [local go_sem ↓] ldSet ldOpt

attribute [local go_sem] Call.at0 Call.lat0 Call.at1 Call.lat1 Call.at2 Call.lat2 Call.at3 Call.lat3 Call.at4 Call.lat4 Call.at5 Call.lat5 Call.at6 Call.lat6 Call.at7 Call.lat7 Call.at8 Call.lat8 Call.at9 Call.lat9 Call.at10 Call.lat10 Call.at11 Call.lat11 Call.at12 Call.lat12 Call.at13 Call.lat13 Call.at14 Call.lat14 Call.at15 Call.lat15 Call.at16 Call.lat16 Call.at17 Call.lat17 Call.at18 Call.lat18 Call.at19 Call.lat19 Call.at20 Call.lat20 Call.at21 Call.lat21 Call.at22 Call.lat22 Call.at23 Call.lat23 Call.sub0_24 Call.lsub0_24 Call.sub9_10 Call.lsub9_10 Call.sub9_2 Call.lsub9_2 Call.sub11_2 Call.lsub11_2 Call.sub13_2 Call.lsub13_2 Call.sub15_2 Call.lsub15_2 Call.sub17_2 Call.lsub17_2 Call.sub19_2 Call.lsub19_2 Call.len Sett.at0 Sett.lat0 Sett.at1 Sett.lat1 Sett.at2 Sett.lat2 Sett.at3 Sett.lat3 Sett.at4 Sett.lat4 Sett.at5 Sett.lat5 Sett.at6 Sett.lat6 Sett.at7 Sett.lat7 Sett.at8 Sett.lat8 Sett.at9 Sett.lat9 Sett.sub0_10 Sett.lsub0_10 Sett.sub0_2 Sett.lsub0_2 Sett.sub2_2 Sett.lsub2_2 Sett.sub4_2 Sett.lsub4_2 Sett.sub6_2 Sett.lsub6_2 Sett.sub8_2 Sett.lsub8_2 Sett.len Opt.at0 Opt.lat0 Opt.at1 Opt.lat1 Opt.sub0_2 Opt.lsub0_2 Opt.len

def cLetter (c : Nat) : Prop := c = 102 ∨ c = 70 ∨ c = 110 ∨ c = 78 ∨ c = 116 ∨ c = 100 ∨ c = 111 ∨ c = 107 ∨ c = 118 ∨ c = 99 ∨ c = 104 ∨ c = 115 ∨ c = 103
instance (c : Nat) : Decidable (cLetter c) := by unfold cLetter; infer_instance
theorem lettersC_are : ∀ s ∈ lettersC, ∀ c ∈ s, cLetter c.toNat := by decide
theorem cFields_letter (p : Int) {k : Nat} (hk : k < (cFields p).length) : cLetter (cFields p)[k].toNat := by
  have hm : (cFields p)[k] ∈ cFields p := List.getElem_mem hk
  generalize (cFields p)[k] = c at *
  unfold cFields at hm
  split at hm
  · simp at hm
  · rcases Nat.lt_or_ge p.toNat lettersC.length with h | h
    · have he : lettersC.getD p.toNat [] = lettersC[p.toNat] := by simp [List.getD, List.getElem?_eq_getElem h]
      rw [he] at hm
      exact lettersC_are _ (List.getElem_mem h) _ hm
    · simp [List.getD, List.getElem?_eq_none h] at hm
theorem may_any (b : Nat) (x : Call) (c : Nat) (hl : cLetter c) (w : World) (hB : Blk w b 36 x.vals) : Calls Tryz.prog 80 #[.pointer (some ⟨b, 0, none⟩), .int .i32 c] w fun e w' => e = .returned (.bool (cMay x c)) ∧ Below w.heap.size w w' := by
  rcases hl with rfl | rfl | rfl | rfl | rfl | rfl | rfl | rfl | rfl | rfl | rfl | rfl | rfl
  · exact may_f b x w hB
  · exact may_F2 b x w hB
  · exact may_n b x w hB
  · exact may_N2 b x w hB
  · exact may_t b x w hB
  · exact may_d b x w hB
  · exact may_o b x w hB
  · exact may_k b x w hB
  · exact may_v b x w hB
  · exact may_c b x w hB
  · exact may_h b x w hB
  · exact may_s b x w hB
  · exact may_g b x w hB
theorem copied_any (g b : Nat) (z x : Call) (c : Nat) (hl : cLetter c) (w : World) (hA : Blk w g 36 z.vals) (hB : Blk w b 36 x.vals) : Calls Tryz.prog 79 #[.pointer (some ⟨g, 0, none⟩), .pointer (some ⟨b, 0, none⟩), .int .i32 c] w fun e w' => e = .returned (.tuple #[]) ∧ Blk w' g 36 (cCopy z x c).vals ∧ Touch (fun k => k = g) w w' := by
  rcases hl with rfl | rfl | rfl | rfl | rfl | rfl | rfl | rfl | rfl | rfl | rfl | rfl | rfl
  · exact copied_f g b z x w hA hB
  · exact copied_f2 g b z x w hA hB
  · exact copied_n g b z x w hA hB
  · exact copied_n2 g b z x w hA hB
  · exact copied_t g b z x w hA hB
  · exact copied_d g b z x w hA hB
  · exact copied_o g b z x w hA hB
  · exact copied_k g b z x w hA hB
  · exact copied_v g b z x w hA hB
  · exact copied_c g b z x w hA hB
  · exact copied_h g b z x w hA hB
  · exact copied_s g b z x w hA hB
  · exact copied_g g b z x w hA hB
theorem Blk.ne_itr {w : World} {g b pos : Nat} {T : TypeId} {cs : List Value} {l : List UInt8} (h : Blk w g T cs) (hI : Itr w b l pos) : g ≠ b := by
  intro e
  subst e
  unfold Blk at h
  unfold Itr at hI
  rw [h] at hI
  cases hI

/-- the first k letters' fields are copied -/
def cTaken (x : Call) (l : List UInt8) (z : Call) (k : Nat) : Call := (l.take k).foldl (fun z c => cCopy z x c.toNat) z
theorem cTaken_succ (x : Call) (l : List UInt8) (z : Call) (k : Nat) (hk : k < l.length) : cTaken x l z (k + 1) = cCopy (cTaken x l z k) x l[k].toNat := by
  unfold cTaken
  rw [List.take_add_one, List.getElem?_eq_getElem hk, List.foldl_append]
  rfl
/-- what holds while a call is looked at -/
structure Looked (w0 : World) (g b : Nat) (x : Call) (l : List UInt8) (z : Call) (k : Nat) (W : World) : Prop where
  A : Blk W g 36 (cTaken x l z k).vals
  X : Blk W b 36 x.vals
  B : Below w0.heap.size w0 W

theorem check1_any (w0 : World) (g b : Nat) (hg : w0.heap.size ≤ g) (_hb : w0.heap.size ≤ b) (hne : g ≠ b) (x z : Call) (l : List UInt8) (k : Nat) (hk : k < l.length) (hl : cLetter l[k].toNat) (W : World) (hS : Looked w0 g b x l z k W) :
    Calls Tryz.prog 78 #[.int .i32 l[k].toNat, .pointer (some ⟨g, 0, none⟩), .pointer (some ⟨b, 0, none⟩)] W fun e W' => e = .returned (.bool (cMay x l[k].toNat)) ∧ Looked w0 g b x l z (k + 1) W' ∧ ∀ b l pos, Itr W b l pos → Itr W' b l pos := by
  have HT := Lib.hid (cTaken_succ x l z k hk)
  generalize l[k].toNat = c at *
  go_enter Tryz.func78, Tryz.ntmps78
  go_wp2_with fail
  refine (copied_any g b _ x c hl _ hS.A hS.X).mono ?_
  rintro e w1 ⟨rfl, hA, hT⟩
  have hX : Blk w1 b 36 x.vals := hS.X.touch hT (fun e => hne e.symm)
  have HS := Lib.hid hS
  have hnew := hS.A
  clear hS
  go_wp2_with fail
  refine (may_any b x c hl _ hX).mono ?_
  rintro e w2 ⟨rfl, hb2⟩
  have HH : Looked w0 g b x l z (k + 1) w2 := ⟨by rw [HT.out]; exact hA.stays hb2, hX.stays hb2, by
    have h1 : Below w0.heap.size w0 w1 := HS.out.B.trans (hT.below (fun _ _ e => by subst e; exact hg) HS.out.B.size)
    exact below_then h1 hb2⟩
  have HI : ∀ b l pos, Itr W b l pos → Itr w2 b l pos := fun b l pos h => (h.touch hT (fun e => hnew.ne_itr h e.symm)).stays hb2
  go_wp2
  go_ret
  exact ⟨rfl, HH, HI⟩
end Go.Proofs.YtfjflkmhhbhceaaGreatDoor


/-
  Layer 7, walks: why a call may not be. No condition.
-/
namespace Go.Proofs.YtfjflkmhhbhceaaGreatDoor
open Go.RowKit
attribute [local go_sem ↓] Go.wp_at_zero Go.wp_at_succ
attribute [local go_sem] rowAt_ptr rowOf_drew rowOf_drewN rowOf_alloc_past rowOf_new
theorem ldCall {ρ : Operand → Value} {w : World} {dst : Option Tmp} {ty : TypeId} {pos : String} {after : Array Edge} {g : Option (Nat × Bool)} {x : Operand} (h : (rowAt w 24 (ρ x)).isSome = true) :
    (execOp ρ ⟨dst, .load 36 x, ty, pos, after, g⟩).run Tryz.prog w = .ok (.value (.agg ((rowAt w 24 (ρ x)).getD #[]))) w := ex_load 36 24 Tryz.underlying36 rfl (by kernel_rfl) h
attribute [local go_sem ↓] ldSet ldOpt ldCall

attribute [local go_sem] Call.at0 Call.lat0 Call.at1 Call.lat1 Call.at2 Call.lat2 Call.at3 Call.lat3 Call.at4 Call.lat4 Call.at5 Call.lat5 Call.at6 Call.lat6 Call.at7 Call.lat7 Call.at8 Call.lat8 Call.at9 Call.lat9 Call.at10 Call.lat10 Call.at11 Call.lat11 Call.at12 Call.lat12 Call.at13 Call.lat13 Call.at14 Call.lat14 Call.at15 Call.lat15 Call.at16 Call.lat16 Call.at17 Call.lat17 Call.at18 Call.lat18 Call.at19 Call.lat19 Call.at20 Call.lat20 Call.at21 Call.lat21 Call.at22 Call.lat22 Call.at23 Call.lat23 Call.sub0_24 Call.lsub0_24 Call.sub9_10 Call.lsub9_10 Call.sub9_2 Call.lsub9_2 Call.sub11_2 Call.lsub11_2 Call.sub13_2 Call.lsub13_2 Call.sub15_2 Call.lsub15_2 Call.sub17_2 Call.lsub17_2 Call.sub19_2 Call.lsub19_2 Call.len Sett.at0 Sett.lat0 Sett.at1 Sett.lat1 Sett.at2 Sett.lat2 Sett.at3 Sett.lat3 Sett.at4 Sett.lat4 Sett.at5 Sett.lat5 Sett.at6 Sett.lat6 Sett.at7 Sett.lat7 Sett.at8 Sett.lat8 Sett.at9 Sett.lat9 Sett.sub0_10 Sett.lsub0_10 Sett.sub0_2 Sett.lsub0_2 Sett.sub2_2 Sett.lsub2_2 Sett.sub4_2 Sett.lsub4_2 Sett.sub6_2 Sett.lsub6_2 Sett.sub8_2 Sett.lsub8_2 Sett.len Opt.at0 Opt.lat0 Opt.at1 Opt.lat1 Opt.sub0_2 Opt.lsub0_2 Opt.len

def callZ : Call := ⟨0, [], [], [], [], 0, 0, 0, [], ⟨⟨false, 0⟩, ⟨false, 0⟩, ⟨false, 0⟩, ⟨false, 0⟩, ⟨false, 0⟩⟩, ⟨false, 0⟩, 0, 0, []⟩
theorem infoCall : (Tryz.prog.info? 36).map (fun i => (i.zero, i.size)) = some (some (.agg callZ.vals.toArray), 24) := by kernel_rfl
theorem guardCall : Tryz.prog.eqGuardType Tryz.prog.depth 36 = false := by kernel_rfl
def lfCall : List Leaf := [.i .i64, .s, .s, .s, .s, .i .i64, .i .i64, .i .i64, .s, .b, .i .i64, .b, .i .i64, .b, .i .i64, .b, .i .i64, .b, .i .i64, .b, .i .i64, .i .i64, .i .i64, .s]
theorem leafsCall : leafs Tryz.prog 8 36 = some lfCall := by kernel_rfl
theorem Call.inj {x y : Call} (h : x.vals = y.vals) : x = y := by
  obtain ⟨_, _, _, _, _, _, _, _, _, ⟨⟨_, _⟩, ⟨_, _⟩, ⟨_, _⟩, ⟨_, _⟩, ⟨_, _⟩⟩, ⟨_, _⟩, _, _, _⟩ := x
  obtain ⟨_, _, _, _, _, _, _, _, _, ⟨⟨_, _⟩, ⟨_, _⟩, ⟨_, _⟩, ⟨_, _⟩, ⟨_, _⟩⟩, ⟨_, _⟩, _, _, _⟩ := y
  simp only [Call.vals, Sett.vals, Opt.vals, List.cons_append, List.nil_append, List.cons.injEq, Value.int.injEq, Value.bool.injEq, Value.string.injEq, true_and, and_true] at h
  obtain ⟨h0, h1, h2, h3, h4, h5, h6, h7, h8, h9, h10, h11, h12, h13, h14, h15, h16, h17, h18, h19, h20, h21, h22, h23⟩ := h
  have h1 := bs_inj h1
  have h2 := bs_inj h2
  have h3 := bs_inj h3
  have h4 := bs_inj h4
  have h8 := bs_inj h8
  have h23 := bs_inj h23
  subst_vars
  rfl
theorem neqCallS (x y : Call) (h : x = y) (w : World) : (binOp .neq 36 (.agg x.vals.toArray) (.agg y.vals.toArray)).run Tryz.prog w = .ok (.bool false) w := neq_same leafsCall (by kernel_rfl) w _ _ (by rfl) (by rw [h])
theorem neqCallO (x y : Call) (h : x ≠ y) (w : World) : (binOp .neq 36 (.agg x.vals.toArray) (.agg y.vals.toArray)).run Tryz.prog w = .ok (.bool true) w := neq_other leafsCall (by kernel_rfl) w _ _ (by rfl) (by rfl) (fun e => h (Call.inj e))

attribute [local go_sem] guardCall

theorem neqCall (x y : Call) (w : World) : (binOp .neq 36 (.agg x.vals.toArray) (.agg y.vals.toArray)).run Tryz.prog w = .ok (.bool (decide (x ≠ y))) w := by
  by_cases h : x = y
  · rw [neqCallS x y h, decide_eq_false (by simpa using h)]
  · rw [neqCallO x y h, decide_eq_true h]
attribute [local go_sem ↓] neqCall

def cThere (p : Int) : Bool := decide (0 ≤ p) && decide (p ≤ 21)
theorem there_any (p : Int) (w : World) : Calls Tryz.prog 76 #[.int .i64 p] w fun e w' => e = .returned (.bool (cThere p)) ∧ w = w' := by
  go_enter Tryz.func76, Tryz.ntmps76
  go_wp2
  all_goals (go_ret; go_light; exact ⟨ret_bool (by unfold cThere; grind), rfl⟩)
/-- may each letter's field be? -/
def cMayAll (x : Call) (l : List UInt8) : Bool := l.all fun c => cMay x c.toNat
/-- why a call may not be -/
def cCheck (x : Call) : Int :=
  if cThere x.proc = false then 22
  else if cMayAll x (cFields x.proc) = true ∧ cTaken x (cFields x.proc) { callZ with proc := x.proc } (cFields x.proc).length = x then 0 else 14

set_option maxRecDepth 20000 in
set_option maxHeartbeats 400000 in
theorem check7_any (x : Call) (w : World) : Calls Tryz.prog 36 #[.agg x.vals.toArray] w fun e w' => e = .returned (.int .i64 (cCheck x)) ∧ Below w.heap.size w w' := by
  have hb := Blk.new w 36 x.vals
  have hB : Below w.heap.size w (w.alloc (.cells x.vals.toArray 36)) := (Below.refl _ _).alloc (Nat.le_refl _) _
  have hc := hb.cell
  have hcf : ∀ args W, (callFunc 78 args).run Tryz.prog W = .ok (.enter 78 args) W := fun args W => by kernel_rfl
  cases ht : cThere x.proc with
  | false =>
    have HS := Lib.hid (show cCheck x = 22 by simp [cCheck, ht])
    go_enter Tryz.func36, Tryz.ntmps36
    go_wp2_with fail
    refine (there_any _ _).mono ?_
    rintro e w1 ⟨rfl, rfl⟩
    rw [ht]
    go_wp2
    go_ret
    rw [HS.out]
    exact ⟨rfl, hB⟩
  | true =>
    have HS := Lib.hid (show cCheck x = if cMayAll x (cFields x.proc) = true ∧ cTaken x (cFields x.proc) { callZ with proc := x.proc } (cFields x.proc).length = x then 0 else 14 by simp [cCheck, ht])
    go_enter Tryz.func36, Tryz.ntmps36
    go_wp2_with fail
    refine (there_any _ _).mono ?_
    rintro e w1 ⟨rfl, rfl⟩
    rw [ht]
    have hsz : (w.alloc (.cells x.vals.toArray 36)).heap.size = w.heap.size + 1 := by simp
    generalize w.alloc (.cells x.vals.toArray 36) = w1 at *
    obtain ⟨z, hz⟩ : ∃ z : Call, z = { callZ with proc := x.proc } := ⟨_, rfl⟩
    have hA := Blk.new w1 36 z.vals
    have hX := hb.alloc (.cells z.vals.toArray 36)
    have hB2 := hB.alloc hB.size (.cells z.vals.toArray 36)
    obtain ⟨w2, hw2⟩ : ∃ u, u = w1.alloc (.cells z.vals.toArray 36) := ⟨_, rfl⟩
    rw [← hw2] at hA hX hB2
    have hc2 := hX.cell
    have HW := Lib.hid hw2
    have HZ := Lib.hid hz
    rw [← hz] at HS
    rw [hsz] at hA
    clear hw2 hz hb hB
    go_wp2_with (first | (refine wpList_new_struct (by rfl) (by rfl) 36 (by rfl) _ _ (by rfl) z.vals infoCall (by rfl) (by rfl) (Call.one _) (by rfl) (by rw [HZ.out]; rfl) ?_; rw [← HW.out]) | fail)
    refine (each_any x.proc 78 [.pointer (some ⟨w.heap.size + 1, 0, none⟩), .pointer (some ⟨w.heap.size, 0, none⟩)] w2 (fun k => cMay x ((cFields x.proc).getD k 0).toNat) (Looked w (w.heap.size + 1) w.heap.size x (cFields x.proc) z) hcf ?_ ?_ ?_).mono ?_
    · exact fun W h => ⟨hA.stays h, hX.stays h, below_then hB2 h⟩
    · exact fun k W b l pos pos' hb h hI => ⟨h.A.farIter (h.A.ne_itr hI) _ _, h.X.farIter (h.X.ne_itr hI) _ _, Below.setIter h.B (by have := hB2.size; omega) _ _⟩
    · intro k hk W hS
      have hg : (cFields x.proc).getD k 0 = (cFields x.proc)[k] := by simp [List.getD, List.getElem?_eq_getElem hk]
      simp only [hg]
      exact check1_any w _ _ (by omega) (Nat.le_refl _) (by omega) x z _ k hk (cFields_letter _ hk) W hS
    · rintro e w5 ⟨m, hS, hcase⟩
      clear hA hX hB2 hc2 hc hcf
      have hl : ∀ k (hk : k < (cFields x.proc).length), (cFields x.proc).getD k 0 = (cFields x.proc)[k] := fun k hk => by simp [List.getD, List.getElem?_eq_getElem hk]
      generalize cFields x.proc = l at *
      have rX : rowOf w5 w.heap.size 0 24 = some x.vals.toArray := hS.X.row 0 24 (by simp [Call.len])
      have rA : rowOf w5 (w.heap.size + 1) 0 24 = some (cTaken x l z m).vals.toArray := hS.A.row 0 24 (by simp [Call.len])
      have HB := Lib.hid hS.B
      rcases hcase with ⟨rfl, hall, rfl⟩ | ⟨j, rfl, hj, hok, hbad, rfl⟩
      · have hma : cMayAll x l = true := by
          rw [cMayAll, List.all_eq_true]
          intro c hc
          obtain ⟨k, hk, rfl⟩ := List.getElem_of_mem hc
          have := hall k hk
          simp only [hl k hk] at this
          exact this
        rw [hma] at HS
        generalize cTaken x l z l.length = y at *
        clear hall hl hS
        by_cases he : y = x
        · have hn : decide (y ≠ x) = false := decide_eq_false (by simpa using he)
          have HV := Lib.hid (HS.out.trans (if_pos ⟨rfl, he⟩))
          clear HZ
          go_wp2
          go_ret
          rw [HV.out]
          exact ⟨rfl, HB.out⟩
        · have hn : decide (y ≠ x) = true := decide_eq_true he
          have HV := Lib.hid (HS.out.trans (if_neg (fun h => he h.2)))
          clear HZ
          go_wp2
          go_ret
          rw [HV.out]
          exact ⟨rfl, HB.out⟩
      · have HV := Lib.hid (HS.out.trans (if_neg (fun h => by
          have h1 := h.1
          rw [cMayAll, List.all_eq_true] at h1
          have := h1 l[j] (List.getElem_mem hj)
          simp only [hl j hj] at hbad
          rw [hbad] at this
          cases this)))
        clear hS hl hok hbad rX rA
        go_wp2
        go_ret
        rw [HV.out]
        exact ⟨rfl, HB.out⟩
end Go.Proofs.YtfjflkmhhbhceaaGreatDoor


/-
  Layer 7, walks: the field of a letter is laid (written by wip/tools/genlaid7.py). Conditions: a writer and a call at blocks of their own; the field may be.
-/
namespace Go.Proofs.YtfjflkmhhbhceaaGreatDoor
open Go.RowKit
attribute [local go_sem ↓] Go.wp_at_zero Go.wp_at_succ
attribute [local go_sem] rowAt_ptr rowOf_drew rowOf_drewN rowOf_alloc_past rowOf_new
attribute [local go_sem ↓] ldSet ldOpt ldCall

attribute [local go_sem] Call.at0 Call.lat0 Call.at1 Call.lat1 Call.at2 Call.lat2 Call.at3 Call.lat3 Call.at4 Call.lat4 Call.at5 Call.lat5 Call.at6 Call.lat6 Call.at7 Call.lat7 Call.at8 Call.lat8 Call.at9 Call.lat9 Call.at10 Call.lat10 Call.at11 Call.lat11 Call.at12 Call.lat12 Call.at13 Call.lat13 Call.at14 Call.lat14 Call.at15 Call.lat15 Call.at16 Call.lat16 Call.at17 Call.lat17 Call.at18 Call.lat18 Call.at19 Call.lat19 Call.at20 Call.lat20 Call.at21 Call.lat21 Call.at22 Call.lat22 Call.at23 Call.lat23 Call.sub0_24 Call.lsub0_24 Call.sub9_10 Call.lsub9_10 Call.sub9_2 Call.lsub9_2 Call.sub11_2 Call.lsub11_2 Call.sub13_2 Call.lsub13_2 Call.sub15_2 Call.lsub15_2 Call.sub17_2 Call.lsub17_2 Call.sub19_2 Call.lsub19_2 Call.len Sett.at0 Sett.lat0 Sett.at1 Sett.lat1 Sett.at2 Sett.lat2 Sett.at3 Sett.lat3 Sett.at4 Sett.lat4 Sett.at5 Sett.lat5 Sett.at6 Sett.lat6 Sett.at7 Sett.lat7 Sett.at8 Sett.lat8 Sett.at9 Sett.lat9 Sett.sub0_10 Sett.lsub0_10 Sett.sub0_2 Sett.lsub0_2 Sett.sub2_2 Sett.lsub2_2 Sett.sub4_2 Sett.lsub4_2 Sett.sub6_2 Sett.lsub6_2 Sett.sub8_2 Sett.lsub8_2 Sett.len Opt.at0 Opt.lat0 Opt.at1 Opt.lat1 Opt.sub0_2 Opt.lsub0_2 Opt.len

/-- the bytes of a letter's field -/
def cBytes (x : Call) (c : Nat) : List UInt8 :=
  if c = 102 then opq x.fh else
  if c = 70 then opq x.fh2 else
  if c = 110 then opq x.name else
  if c = 78 then opq x.name2 else
  if c = 116 then opq x.text else
  if c = 100 then opq x.data else
  if c = 111 then num x.offset.toNat 8 else
  if c = 107 then num x.cookie.toNat 8 else
  if c = 118 then num x.verf.toNat 8 else
  if c = 99 then num x.count.toNat 4 else
  if c = 104 then num x.how.toNat 4 else
  if c = 115 then x.set.bytes else optB x.guard.is x.guard.n
theorem claid_f (g b : Nat) (sv : Value) (l : List UInt8) (x : Call) (w : World) (hW : Wr w g sv l) (hB : Blk w b 36 x.vals) (hm : cMay x 102 = true) (hl : l.length ≤ 900000000000) :
    Calls Tryz.prog 126 #[ptr g, .pointer (some ⟨b, 0, none⟩), .int .i32 102] w (Wrote g sv (l ++ cBytes x 102) (.tuple #[]) w) := by
  have hc := hB.cell
  have hm2 : x.fh.length ≤ 64 := by simpa [cMay] using hm
  have HS := Lib.hid (show cBytes x 102 = opq x.fh by simp [cBytes])
  go_enter Tryz.func126, Tryz.ntmps126
  go_wp2_with fail
  refine (wOpaque_any g sv l x.fh _ hW (by omega) (by omega)).mono ?_
  rintro e w1 ⟨rfl, hM⟩
  rw [← HS.out] at hM
  have HM := Lib.hid hM
  clear hM
  go_wp2
  go_end0
  exact ⟨rfl, HM.out⟩
theorem claid_f2 (g b : Nat) (sv : Value) (l : List UInt8) (x : Call) (w : World) (hW : Wr w g sv l) (hB : Blk w b 36 x.vals) (hm : cMay x 70 = true) (hl : l.length ≤ 900000000000) :
    Calls Tryz.prog 126 #[ptr g, .pointer (some ⟨b, 0, none⟩), .int .i32 70] w (Wrote g sv (l ++ cBytes x 70) (.tuple #[]) w) := by
  have hc := hB.cell
  have hm2 : x.fh2.length ≤ 64 := by simpa [cMay] using hm
  have HS := Lib.hid (show cBytes x 70 = opq x.fh2 by simp [cBytes])
  go_enter Tryz.func126, Tryz.ntmps126
  go_wp2_with fail
  refine (wOpaque_any g sv l x.fh2 _ hW (by omega) (by omega)).mono ?_
  rintro e w1 ⟨rfl, hM⟩
  rw [← HS.out] at hM
  have HM := Lib.hid hM
  clear hM
  go_wp2
  go_end0
  exact ⟨rfl, HM.out⟩
theorem claid_n (g b : Nat) (sv : Value) (l : List UInt8) (x : Call) (w : World) (hW : Wr w g sv l) (hB : Blk w b 36 x.vals) (hm : cMay x 110 = true) (hl : l.length ≤ 900000000000) :
    Calls Tryz.prog 126 #[ptr g, .pointer (some ⟨b, 0, none⟩), .int .i32 110] w (Wrote g sv (l ++ cBytes x 110) (.tuple #[]) w) := by
  have hc := hB.cell
  have hm2 : x.name.length ≤ 255 := by simpa [cMay] using hm
  have HS := Lib.hid (show cBytes x 110 = opq x.name by simp [cBytes])
  go_enter Tryz.func126, Tryz.ntmps126
  go_wp2_with fail
  refine (wOpaque_any g sv l x.name _ hW (by omega) (by omega)).mono ?_
  rintro e w1 ⟨rfl, hM⟩
  rw [← HS.out] at hM
  have HM := Lib.hid hM
  clear hM
  go_wp2
  go_end0
  exact ⟨rfl, HM.out⟩
theorem claid_n2 (g b : Nat) (sv : Value) (l : List UInt8) (x : Call) (w : World) (hW : Wr w g sv l) (hB : Blk w b 36 x.vals) (hm : cMay x 78 = true) (hl : l.length ≤ 900000000000) :
    Calls Tryz.prog 126 #[ptr g, .pointer (some ⟨b, 0, none⟩), .int .i32 78] w (Wrote g sv (l ++ cBytes x 78) (.tuple #[]) w) := by
  have hc := hB.cell
  have hm2 : x.name2.length ≤ 255 := by simpa [cMay] using hm
  have HS := Lib.hid (show cBytes x 78 = opq x.name2 by simp [cBytes])
  go_enter Tryz.func126, Tryz.ntmps126
  go_wp2_with fail
  refine (wOpaque_any g sv l x.name2 _ hW (by omega) (by omega)).mono ?_
  rintro e w1 ⟨rfl, hM⟩
  rw [← HS.out] at hM
  have HM := Lib.hid hM
  clear hM
  go_wp2
  go_end0
  exact ⟨rfl, HM.out⟩
theorem claid_t (g b : Nat) (sv : Value) (l : List UInt8) (x : Call) (w : World) (hW : Wr w g sv l) (hB : Blk w b 36 x.vals) (hm : cMay x 116 = true) (hl : l.length ≤ 900000000000) :
    Calls Tryz.prog 126 #[ptr g, .pointer (some ⟨b, 0, none⟩), .int .i32 116] w (Wrote g sv (l ++ cBytes x 116) (.tuple #[]) w) := by
  have hc := hB.cell
  have hm2 : x.text.length ≤ 255 := by simpa [cMay] using hm
  have HS := Lib.hid (show cBytes x 116 = opq x.text by simp [cBytes])
  go_enter Tryz.func126, Tryz.ntmps126
  go_wp2_with fail
  refine (wOpaque_any g sv l x.text _ hW (by omega) (by omega)).mono ?_
  rintro e w1 ⟨rfl, hM⟩
  rw [← HS.out] at hM
  have HM := Lib.hid hM
  clear hM
  go_wp2
  go_end0
  exact ⟨rfl, HM.out⟩
theorem claid_d (g b : Nat) (sv : Value) (l : List UInt8) (x : Call) (w : World) (hW : Wr w g sv l) (hB : Blk w b 36 x.vals) (hm : cMay x 100 = true) (hl : l.length ≤ 900000000000) :
    Calls Tryz.prog 126 #[ptr g, .pointer (some ⟨b, 0, none⟩), .int .i32 100] w (Wrote g sv (l ++ cBytes x 100) (.tuple #[]) w) := by
  have hc := hB.cell
  have hm2 : x.data.length ≤ 256 := by simpa [cMay] using hm
  have HS := Lib.hid (show cBytes x 100 = opq x.data by simp [cBytes])
  go_enter Tryz.func126, Tryz.ntmps126
  go_wp2_with fail
  refine (wOpaque_any g sv l x.data _ hW (by omega) (by omega)).mono ?_
  rintro e w1 ⟨rfl, hM⟩
  rw [← HS.out] at hM
  have HM := Lib.hid hM
  clear hM
  go_wp2
  go_end0
  exact ⟨rfl, HM.out⟩
theorem claid_o (g b : Nat) (sv : Value) (l : List UInt8) (x : Call) (w : World) (hW : Wr w g sv l) (hB : Blk w b 36 x.vals) (hm : cMay x 111 = true) (hi : x.offset ≤ 9223372036854775807) (hl : l.length ≤ 900000000000) :
    Calls Tryz.prog 126 #[ptr g, .pointer (some ⟨b, 0, none⟩), .int .i32 111] w (Wrote g sv (l ++ cBytes x 111) (.tuple #[]) w) := by
  have hc := hB.cell
  have hm2 : 0 ≤ x.offset := by simpa [cMay] using hm
  obtain ⟨n, hn⟩ := Int.eq_ofNat_of_zero_le (show 0 ≤ x.offset by omega)
  have HN := Lib.hid hn
  have HS := Lib.hid (show cBytes x 111 = num n 8 by simp [cBytes, hn])
  have hb : (n : Int) ≤ 9223372036854775807 := by omega
  clear hn hm hm2 hi
  go_enter Tryz.func126, Tryz.ntmps126
  go_wp2_with fail
  rw [HN.out]
  refine (wU64_any g sv l n _ hW (by omega) (by omega)).mono ?_
  rintro e w1 ⟨rfl, hM⟩
  rw [← HS.out] at hM
  have HM := Lib.hid hM
  clear hM
  go_wp2
  go_end0
  exact ⟨rfl, HM.out⟩
theorem claid_k (g b : Nat) (sv : Value) (l : List UInt8) (x : Call) (w : World) (hW : Wr w g sv l) (hB : Blk w b 36 x.vals) (hm : cMay x 107 = true) (hi : x.cookie ≤ 9223372036854775807) (hl : l.length ≤ 900000000000) :
    Calls Tryz.prog 126 #[ptr g, .pointer (some ⟨b, 0, none⟩), .int .i32 107] w (Wrote g sv (l ++ cBytes x 107) (.tuple #[]) w) := by
  have hc := hB.cell
  have hm2 : 0 ≤ x.cookie := by simpa [cMay] using hm
  obtain ⟨n, hn⟩ := Int.eq_ofNat_of_zero_le (show 0 ≤ x.cookie by omega)
  have HN := Lib.hid hn
  have HS := Lib.hid (show cBytes x 107 = num n 8 by simp [cBytes, hn])
  have hb : (n : Int) ≤ 9223372036854775807 := by omega
  clear hn hm hm2 hi
  go_enter Tryz.func126, Tryz.ntmps126
  go_wp2_with fail
  rw [HN.out]
  refine (wU64_any g sv l n _ hW (by omega) (by omega)).mono ?_
  rintro e w1 ⟨rfl, hM⟩
  rw [← HS.out] at hM
  have HM := Lib.hid hM
  clear hM
  go_wp2
  go_end0
  exact ⟨rfl, HM.out⟩
theorem claid_v (g b : Nat) (sv : Value) (l : List UInt8) (x : Call) (w : World) (hW : Wr w g sv l) (hB : Blk w b 36 x.vals) (hm : cMay x 118 = true) (hi : x.verf ≤ 9223372036854775807) (hl : l.length ≤ 900000000000) :
    Calls Tryz.prog 126 #[ptr g, .pointer (some ⟨b, 0, none⟩), .int .i32 118] w (Wrote g sv (l ++ cBytes x 118) (.tuple #[]) w) := by
  have hc := hB.cell
  have hm2 : 0 ≤ x.verf := by simpa [cMay] using hm
  obtain ⟨n, hn⟩ := Int.eq_ofNat_of_zero_le (show 0 ≤ x.verf by omega)
  have HN := Lib.hid hn
  have HS := Lib.hid (show cBytes x 118 = num n 8 by simp [cBytes, hn])
  have hb : (n : Int) ≤ 9223372036854775807 := by omega
  clear hn hm hm2 hi
  go_enter Tryz.func126, Tryz.ntmps126
  go_wp2_with fail
  rw [HN.out]
  refine (wU64_any g sv l n _ hW (by omega) (by omega)).mono ?_
  rintro e w1 ⟨rfl, hM⟩
  rw [← HS.out] at hM
  have HM := Lib.hid hM
  clear hM
  go_wp2
  go_end0
  exact ⟨rfl, HM.out⟩
theorem claid_c (g b : Nat) (sv : Value) (l : List UInt8) (x : Call) (w : World) (hW : Wr w g sv l) (hB : Blk w b 36 x.vals) (hm : cMay x 99 = true) (hl : l.length ≤ 900000000000) :
    Calls Tryz.prog 126 #[ptr g, .pointer (some ⟨b, 0, none⟩), .int .i32 99] w (Wrote g sv (l ++ cBytes x 99) (.tuple #[]) w) := by
  have hc := hB.cell
  have hm2 : 0 ≤ x.count ∧ x.count ≤ 4294967295 := by simpa [cMay] using hm
  obtain ⟨n, hn⟩ := Int.eq_ofNat_of_zero_le (show 0 ≤ x.count by omega)
  have HN := Lib.hid hn
  have HS := Lib.hid (show cBytes x 99 = num n 4 by simp [cBytes, hn])
  have hb : (n : Int) ≤ 4294967295 := by omega
  clear hn hm hm2
  go_enter Tryz.func126, Tryz.ntmps126
  go_wp2_with fail
  rw [HN.out]
  refine (wU32_any g sv l n _ hW (by omega) (by omega)).mono ?_
  rintro e w1 ⟨rfl, hM⟩
  rw [← HS.out] at hM
  have HM := Lib.hid hM
  clear hM
  go_wp2
  go_end0
  exact ⟨rfl, HM.out⟩
theorem claid_h (g b : Nat) (sv : Value) (l : List UInt8) (x : Call) (w : World) (hW : Wr w g sv l) (hB : Blk w b 36 x.vals) (hm : cMay x 104 = true) (hl : l.length ≤ 900000000000) :
    Calls Tryz.prog 126 #[ptr g, .pointer (some ⟨b, 0, none⟩), .int .i32 104] w (Wrote g sv (l ++ cBytes x 104) (.tuple #[]) w) := by
  have hc := hB.cell
  have hm2 : 0 ≤ x.how ∧ x.how ≤ 4294967295 := by simpa [cMay] using hm
  obtain ⟨n, hn⟩ := Int.eq_ofNat_of_zero_le (show 0 ≤ x.how by omega)
  have HN := Lib.hid hn
  have HS := Lib.hid (show cBytes x 104 = num n 4 by simp [cBytes, hn])
  have hb : (n : Int) ≤ 4294967295 := by omega
  clear hn hm hm2
  go_enter Tryz.func126, Tryz.ntmps126
  go_wp2_with fail
  rw [HN.out]
  refine (wU32_any g sv l n _ hW (by omega) (by omega)).mono ?_
  rintro e w1 ⟨rfl, hM⟩
  rw [← HS.out] at hM
  have HM := Lib.hid hM
  clear hM
  go_wp2
  go_end0
  exact ⟨rfl, HM.out⟩
end Go.Proofs.YtfjflkmhhbhceaaGreatDoor


/-
  Layer 1, walks: the law XdrReads. No condition but machine numbers.
-/
namespace Go.Proofs.YtfjflkmhhbhceaaGreatDoor
open Go.RowKit
end Go.Proofs.YtfjflkmhhbhceaaGreatDoor


/-
  Layer 7, walks of the document's own: has, text, num, There, Large. No condition but machine texts.
-/
namespace Go.Proofs.YtfjflkmhhbhceaaGreatDoor
open Go.RowKit
end Go.Proofs.YtfjflkmhhbhceaaGreatDoor
