/-
  Layer 7, walks: what is to be set, and the guard, may be; the field of a letter is copied (written by wip/tools/gencopied.py). Condition: calls at blocks of their own.
-/
import Derived.Test.YthfhdighniiodaaDoorC10
namespace Go.Proofs.YthfhdighniiodaaDoor
open Go.RowKit
attribute [local go_sem ↓] Go.wp_at_zero Go.wp_at_succ
attribute [local go_sem] rowAt_ptr rowOf_drew rowOf_drewN rowOf_alloc_past rowOf_new
attribute [local go_sem ↓] ldSet ldOpt

attribute [local go_sem] Call.at0 Call.lat0 Call.at1 Call.lat1 Call.at2 Call.lat2 Call.at3 Call.lat3 Call.at4 Call.lat4 Call.at5 Call.lat5 Call.at6 Call.lat6 Call.at7 Call.lat7 Call.at8 Call.lat8 Call.at9 Call.lat9 Call.at10 Call.lat10 Call.at11 Call.lat11 Call.at12 Call.lat12 Call.at13 Call.lat13 Call.at14 Call.lat14 Call.at15 Call.lat15 Call.at16 Call.lat16 Call.at17 Call.lat17 Call.at18 Call.lat18 Call.at19 Call.lat19 Call.at20 Call.lat20 Call.at21 Call.lat21 Call.at22 Call.lat22 Call.at23 Call.lat23 Call.sub0_24 Call.lsub0_24 Call.sub9_10 Call.lsub9_10 Call.sub9_2 Call.lsub9_2 Call.sub11_2 Call.lsub11_2 Call.sub13_2 Call.lsub13_2 Call.sub15_2 Call.lsub15_2 Call.sub17_2 Call.lsub17_2 Call.sub19_2 Call.lsub19_2 Call.len Sett.at0 Sett.lat0 Sett.at1 Sett.lat1 Sett.at2 Sett.lat2 Sett.at3 Sett.lat3 Sett.at4 Sett.lat4 Sett.at5 Sett.lat5 Sett.at6 Sett.lat6 Sett.at7 Sett.lat7 Sett.at8 Sett.lat8 Sett.at9 Sett.lat9 Sett.sub0_10 Sett.lsub0_10 Sett.sub0_2 Sett.lsub0_2 Sett.sub2_2 Sett.lsub2_2 Sett.sub4_2 Sett.lsub4_2 Sett.sub6_2 Sett.lsub6_2 Sett.sub8_2 Sett.lsub8_2 Sett.len Opt.at0 Opt.lat0 Opt.at1 Opt.lat1 Opt.sub0_2 Opt.lsub0_2 Opt.len

theorem may_s (b : Nat) (x : Call) (w : World) (hB : Blk w b 57 x.vals) : Calls Tryd.prog 77 #[.pointer (some ⟨b, 0, none⟩), .int .i32 115] w fun e w' => e = .returned (.bool (cMay x 115)) ∧ Below w.heap.size w w' := by
  have hr : rowOf w b 9 10 = some x.set.vals.toArray := hB.row 9 10 (by simp [Call.len])
  have HS := Lib.hid (show cMay x 115 = x.set.ok by simp [cMay])
  go_enter Tryd.func77, Tryd.ntmps77
  go_wp2_with fail
  refine (checkSet_any _ _).mono ?_
  rintro e w1 ⟨rfl, hb⟩
  unfold form
  cases hk : x.set.ok
  all_goals
    have HK := Lib.hid hk
    clear hk
    go_wp2
    go_ret
    exact ⟨ret_bool (HK.out.symm.trans HS.out.symm), hb⟩
theorem may_g (b : Nat) (x : Call) (w : World) (hB : Blk w b 57 x.vals) : Calls Tryd.prog 77 #[.pointer (some ⟨b, 0, none⟩), .int .i32 103] w fun e w' => e = .returned (.bool (cMay x 103)) ∧ Below w.heap.size w w' := by
  have hc := hB.cell
  have HS := Lib.hid (show cMay x 103 = (decide (0 ≤ x.guard.n) && (x.guard.is || x.guard.n == 0)) by simp [cMay])
  go_enter Tryd.func77, Tryd.ntmps77
  go_wp2
  all_goals (go_ret; go_light; exact ⟨ret_bool (by rw [HS.out]; grind), Below.refl _ _⟩)

/-- the field of a letter is copied -/
def cCopy (z x : Call) (c : Nat) : Call :=
  if c = 102 then { z with fh := x.fh } else
  if c = 70 then { z with fh2 := x.fh2 } else
  if c = 110 then { z with name := x.name } else
  if c = 78 then { z with name2 := x.name2 } else
  if c = 116 then { z with text := x.text } else
  if c = 100 then { z with data := x.data } else
  if c = 111 then { z with offset := x.offset } else
  if c = 107 then { z with cookie := x.cookie } else
  if c = 118 then { z with verf := x.verf } else
  if c = 99 then { z with count := x.count } else
  if c = 104 then { z with how := x.how } else
  if c = 115 then { z with set := x.set } else
  if c = 103 then { z with guard := x.guard } else z
theorem copied_f (g b : Nat) (z x : Call) (w : World) (hA : Blk w g 57 z.vals) (hB : Blk w b 57 x.vals) : Calls Tryd.prog 76 #[.pointer (some ⟨g, 0, none⟩), .pointer (some ⟨b, 0, none⟩), .int .i32 102] w fun e w' => e = .returned (.tuple #[]) ∧ Blk w' g 57 (cCopy z x 102).vals ∧ Touch (fun k => k = g) w w' := by
  have ha := hA.cell
  have hf := hA.frozen
  have hc := hB.cell
  have HA := Lib.hid (show Blk (w.setCell ⟨g, 1, none⟩ (.string (bs x.fh))) g 57 (cCopy z x 102).vals from hA.set_ 1 (.string (bs x.fh)))
  have HT := Lib.hid ((Touch.refl (fun k => k = g) w).setCell_ (g := g) (o := 1) (.inl rfl) (.string (bs x.fh)))
  clear hA hB
  go_enter Tryd.func76, Tryd.ntmps76
  go_wp2
  go_end0
  exact ⟨rfl, HA.out, HT.out⟩
theorem copied_f2 (g b : Nat) (z x : Call) (w : World) (hA : Blk w g 57 z.vals) (hB : Blk w b 57 x.vals) : Calls Tryd.prog 76 #[.pointer (some ⟨g, 0, none⟩), .pointer (some ⟨b, 0, none⟩), .int .i32 70] w fun e w' => e = .returned (.tuple #[]) ∧ Blk w' g 57 (cCopy z x 70).vals ∧ Touch (fun k => k = g) w w' := by
  have ha := hA.cell
  have hf := hA.frozen
  have hc := hB.cell
  have HA := Lib.hid (show Blk (w.setCell ⟨g, 3, none⟩ (.string (bs x.fh2))) g 57 (cCopy z x 70).vals from hA.set_ 3 (.string (bs x.fh2)))
  have HT := Lib.hid ((Touch.refl (fun k => k = g) w).setCell_ (g := g) (o := 3) (.inl rfl) (.string (bs x.fh2)))
  clear hA hB
  go_enter Tryd.func76, Tryd.ntmps76
  go_wp2
  go_end0
  exact ⟨rfl, HA.out, HT.out⟩
theorem copied_n (g b : Nat) (z x : Call) (w : World) (hA : Blk w g 57 z.vals) (hB : Blk w b 57 x.vals) : Calls Tryd.prog 76 #[.pointer (some ⟨g, 0, none⟩), .pointer (some ⟨b, 0, none⟩), .int .i32 110] w fun e w' => e = .returned (.tuple #[]) ∧ Blk w' g 57 (cCopy z x 110).vals ∧ Touch (fun k => k = g) w w' := by
  have ha := hA.cell
  have hf := hA.frozen
  have hc := hB.cell
  have HA := Lib.hid (show Blk (w.setCell ⟨g, 2, none⟩ (.string (bs x.name))) g 57 (cCopy z x 110).vals from hA.set_ 2 (.string (bs x.name)))
  have HT := Lib.hid ((Touch.refl (fun k => k = g) w).setCell_ (g := g) (o := 2) (.inl rfl) (.string (bs x.name)))
  clear hA hB
  go_enter Tryd.func76, Tryd.ntmps76
  go_wp2
  go_end0
  exact ⟨rfl, HA.out, HT.out⟩
theorem copied_n2 (g b : Nat) (z x : Call) (w : World) (hA : Blk w g 57 z.vals) (hB : Blk w b 57 x.vals) : Calls Tryd.prog 76 #[.pointer (some ⟨g, 0, none⟩), .pointer (some ⟨b, 0, none⟩), .int .i32 78] w fun e w' => e = .returned (.tuple #[]) ∧ Blk w' g 57 (cCopy z x 78).vals ∧ Touch (fun k => k = g) w w' := by
  have ha := hA.cell
  have hf := hA.frozen
  have hc := hB.cell
  have HA := Lib.hid (show Blk (w.setCell ⟨g, 4, none⟩ (.string (bs x.name2))) g 57 (cCopy z x 78).vals from hA.set_ 4 (.string (bs x.name2)))
  have HT := Lib.hid ((Touch.refl (fun k => k = g) w).setCell_ (g := g) (o := 4) (.inl rfl) (.string (bs x.name2)))
  clear hA hB
  go_enter Tryd.func76, Tryd.ntmps76
  go_wp2
  go_end0
  exact ⟨rfl, HA.out, HT.out⟩
theorem copied_t (g b : Nat) (z x : Call) (w : World) (hA : Blk w g 57 z.vals) (hB : Blk w b 57 x.vals) : Calls Tryd.prog 76 #[.pointer (some ⟨g, 0, none⟩), .pointer (some ⟨b, 0, none⟩), .int .i32 116] w fun e w' => e = .returned (.tuple #[]) ∧ Blk w' g 57 (cCopy z x 116).vals ∧ Touch (fun k => k = g) w w' := by
  have ha := hA.cell
  have hf := hA.frozen
  have hc := hB.cell
  have HA := Lib.hid (show Blk (w.setCell ⟨g, 23, none⟩ (.string (bs x.text))) g 57 (cCopy z x 116).vals from hA.set_ 23 (.string (bs x.text)))
  have HT := Lib.hid ((Touch.refl (fun k => k = g) w).setCell_ (g := g) (o := 23) (.inl rfl) (.string (bs x.text)))
  clear hA hB
  go_enter Tryd.func76, Tryd.ntmps76
  go_wp2
  go_end0
  exact ⟨rfl, HA.out, HT.out⟩
theorem copied_d (g b : Nat) (z x : Call) (w : World) (hA : Blk w g 57 z.vals) (hB : Blk w b 57 x.vals) : Calls Tryd.prog 76 #[.pointer (some ⟨g, 0, none⟩), .pointer (some ⟨b, 0, none⟩), .int .i32 100] w fun e w' => e = .returned (.tuple #[]) ∧ Blk w' g 57 (cCopy z x 100).vals ∧ Touch (fun k => k = g) w w' := by
  have ha := hA.cell
  have hf := hA.frozen
  have hc := hB.cell
  have HA := Lib.hid (show Blk (w.setCell ⟨g, 8, none⟩ (.string (bs x.data))) g 57 (cCopy z x 100).vals from hA.set_ 8 (.string (bs x.data)))
  have HT := Lib.hid ((Touch.refl (fun k => k = g) w).setCell_ (g := g) (o := 8) (.inl rfl) (.string (bs x.data)))
  clear hA hB
  go_enter Tryd.func76, Tryd.ntmps76
  go_wp2
  go_end0
  exact ⟨rfl, HA.out, HT.out⟩
theorem copied_o (g b : Nat) (z x : Call) (w : World) (hA : Blk w g 57 z.vals) (hB : Blk w b 57 x.vals) : Calls Tryd.prog 76 #[.pointer (some ⟨g, 0, none⟩), .pointer (some ⟨b, 0, none⟩), .int .i32 111] w fun e w' => e = .returned (.tuple #[]) ∧ Blk w' g 57 (cCopy z x 111).vals ∧ Touch (fun k => k = g) w w' := by
  have ha := hA.cell
  have hf := hA.frozen
  have hc := hB.cell
  have HA := Lib.hid (show Blk (w.setCell ⟨g, 5, none⟩ (.int .i64 x.offset)) g 57 (cCopy z x 111).vals from hA.set_ 5 (.int .i64 x.offset))
  have HT := Lib.hid ((Touch.refl (fun k => k = g) w).setCell_ (g := g) (o := 5) (.inl rfl) (.int .i64 x.offset))
  clear hA hB
  go_enter Tryd.func76, Tryd.ntmps76
  go_wp2
  go_end0
  exact ⟨rfl, HA.out, HT.out⟩
theorem copied_k (g b : Nat) (z x : Call) (w : World) (hA : Blk w g 57 z.vals) (hB : Blk w b 57 x.vals) : Calls Tryd.prog 76 #[.pointer (some ⟨g, 0, none⟩), .pointer (some ⟨b, 0, none⟩), .int .i32 107] w fun e w' => e = .returned (.tuple #[]) ∧ Blk w' g 57 (cCopy z x 107).vals ∧ Touch (fun k => k = g) w w' := by
  have ha := hA.cell
  have hf := hA.frozen
  have hc := hB.cell
  have HA := Lib.hid (show Blk (w.setCell ⟨g, 21, none⟩ (.int .i64 x.cookie)) g 57 (cCopy z x 107).vals from hA.set_ 21 (.int .i64 x.cookie))
  have HT := Lib.hid ((Touch.refl (fun k => k = g) w).setCell_ (g := g) (o := 21) (.inl rfl) (.int .i64 x.cookie))
  clear hA hB
  go_enter Tryd.func76, Tryd.ntmps76
  go_wp2
  go_end0
  exact ⟨rfl, HA.out, HT.out⟩
theorem copied_v (g b : Nat) (z x : Call) (w : World) (hA : Blk w g 57 z.vals) (hB : Blk w b 57 x.vals) : Calls Tryd.prog 76 #[.pointer (some ⟨g, 0, none⟩), .pointer (some ⟨b, 0, none⟩), .int .i32 118] w fun e w' => e = .returned (.tuple #[]) ∧ Blk w' g 57 (cCopy z x 118).vals ∧ Touch (fun k => k = g) w w' := by
  have ha := hA.cell
  have hf := hA.frozen
  have hc := hB.cell
  have HA := Lib.hid (show Blk (w.setCell ⟨g, 22, none⟩ (.int .i64 x.verf)) g 57 (cCopy z x 118).vals from hA.set_ 22 (.int .i64 x.verf))
  have HT := Lib.hid ((Touch.refl (fun k => k = g) w).setCell_ (g := g) (o := 22) (.inl rfl) (.int .i64 x.verf))
  clear hA hB
  go_enter Tryd.func76, Tryd.ntmps76
  go_wp2
  go_end0
  exact ⟨rfl, HA.out, HT.out⟩
theorem copied_c (g b : Nat) (z x : Call) (w : World) (hA : Blk w g 57 z.vals) (hB : Blk w b 57 x.vals) : Calls Tryd.prog 76 #[.pointer (some ⟨g, 0, none⟩), .pointer (some ⟨b, 0, none⟩), .int .i32 99] w fun e w' => e = .returned (.tuple #[]) ∧ Blk w' g 57 (cCopy z x 99).vals ∧ Touch (fun k => k = g) w w' := by
  have ha := hA.cell
  have hf := hA.frozen
  have hc := hB.cell
  have HA := Lib.hid (show Blk (w.setCell ⟨g, 6, none⟩ (.int .i64 x.count)) g 57 (cCopy z x 99).vals from hA.set_ 6 (.int .i64 x.count))
  have HT := Lib.hid ((Touch.refl (fun k => k = g) w).setCell_ (g := g) (o := 6) (.inl rfl) (.int .i64 x.count))
  clear hA hB
  go_enter Tryd.func76, Tryd.ntmps76
  go_wp2
  go_end0
  exact ⟨rfl, HA.out, HT.out⟩
theorem copied_h (g b : Nat) (z x : Call) (w : World) (hA : Blk w g 57 z.vals) (hB : Blk w b 57 x.vals) : Calls Tryd.prog 76 #[.pointer (some ⟨g, 0, none⟩), .pointer (some ⟨b, 0, none⟩), .int .i32 104] w fun e w' => e = .returned (.tuple #[]) ∧ Blk w' g 57 (cCopy z x 104).vals ∧ Touch (fun k => k = g) w w' := by
  have ha := hA.cell
  have hf := hA.frozen
  have hc := hB.cell
  have HA := Lib.hid (show Blk (w.setCell ⟨g, 7, none⟩ (.int .i64 x.how)) g 57 (cCopy z x 104).vals from hA.set_ 7 (.int .i64 x.how))
  have HT := Lib.hid ((Touch.refl (fun k => k = g) w).setCell_ (g := g) (o := 7) (.inl rfl) (.int .i64 x.how))
  clear hA hB
  go_enter Tryd.func76, Tryd.ntmps76
  go_wp2
  go_end0
  exact ⟨rfl, HA.out, HT.out⟩
theorem copied_s (g b : Nat) (z x : Call) (w : World) (hA : Blk w g 57 z.vals) (hB : Blk w b 57 x.vals) : Calls Tryd.prog 76 #[.pointer (some ⟨g, 0, none⟩), .pointer (some ⟨b, 0, none⟩), .int .i32 115] w fun e w' => e = .returned (.tuple #[]) ∧ Blk w' g 57 (cCopy z x 115).vals ∧ Touch (fun k => k = g) w w' := by
  have hr : rowOf w b 9 10 = some x.set.vals.toArray := hB.row 9 10 (by simp [Call.len])
  have HA := Lib.hid (show Blk (w.setCells g 9 x.set.vals) g 57 (cCopy z x 115).vals from hA.sets x.set.vals _ 9)
  have HT := Lib.hid (Touch.setCells (F := fun k => k = g) (g := g) (.inl rfl) x.set.vals 9 w (Touch.refl _ w))
  clear hB
  go_enter Tryd.func76, Tryd.ntmps76
  go_wp2_with (first | (refine wpList_store_part (by rfl) 55 _ _ (by rfl) g 9 x.set.vals _ hA (by simp [Sett.len, Call.len]) (by rfl) (by rfl) (by kernel_rfl) (Sett.one _) ?_) | fail)
  go_end0
  exact ⟨rfl, HA.out, HT.out⟩
theorem copied_g (g b : Nat) (z x : Call) (w : World) (hA : Blk w g 57 z.vals) (hB : Blk w b 57 x.vals) : Calls Tryd.prog 76 #[.pointer (some ⟨g, 0, none⟩), .pointer (some ⟨b, 0, none⟩), .int .i32 103] w fun e w' => e = .returned (.tuple #[]) ∧ Blk w' g 57 (cCopy z x 103).vals ∧ Touch (fun k => k = g) w w' := by
  have hr : rowOf w b 19 2 = some x.guard.vals.toArray := hB.row 19 2 (by simp [Call.len])
  have HA := Lib.hid (show Blk (w.setCells g 19 x.guard.vals) g 57 (cCopy z x 103).vals from hA.sets x.guard.vals _ 19)
  have HT := Lib.hid (Touch.setCells (F := fun k => k = g) (g := g) (.inl rfl) x.guard.vals 19 w (Touch.refl _ w))
  clear hB
  go_enter Tryd.func76, Tryd.ntmps76
  go_wp2_with (first | (refine wpList_store_part (by rfl) 53 _ _ (by rfl) g 19 x.guard.vals _ hA (by simp [Opt.len, Call.len]) (by rfl) (by rfl) (by kernel_rfl) (Opt.one _) ?_) | fail)
  go_end0
  exact ⟨rfl, HA.out, HT.out⟩
end Go.Proofs.YthfhdighniiodaaDoor
