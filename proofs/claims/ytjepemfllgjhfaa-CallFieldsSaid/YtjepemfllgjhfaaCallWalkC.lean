/-
  Layer 7, walks: may the field of a letter be (written by wip/tools/genmay.py). Condition: a call at a block of its own.
-/
import Derived.Test.YtjepemfllgjhfaaCallWalkB
import Derived.Test.YtjepemfllgjhfaaAttrWalkC
import Derived.Test.YtjepemfllgjhfaaApiWire
namespace Go.Proofs.Ytjepemfllgjhfaa
open Go.RowKit
attribute [local go_sem ↓] Go.wp_at_zero Go.wp_at_succ
attribute [local go_sem] rowAt_ptr rowOf_drew rowOf_drewN rowOf_alloc_past rowOf_new
attribute [local go_sem ↓] ldSet ldOpt

attribute [local go_sem] Call.at0 Call.lat0 Call.at1 Call.lat1 Call.at2 Call.lat2 Call.at3 Call.lat3 Call.at4 Call.lat4 Call.at5 Call.lat5 Call.at6 Call.lat6 Call.at7 Call.lat7 Call.at8 Call.lat8 Call.at9 Call.lat9 Call.at10 Call.lat10 Call.at11 Call.lat11 Call.at12 Call.lat12 Call.at13 Call.lat13 Call.at14 Call.lat14 Call.at15 Call.lat15 Call.at16 Call.lat16 Call.at17 Call.lat17 Call.at18 Call.lat18 Call.at19 Call.lat19 Call.at20 Call.lat20 Call.at21 Call.lat21 Call.at22 Call.lat22 Call.at23 Call.lat23 Call.sub0_24 Call.lsub0_24 Call.sub9_10 Call.lsub9_10 Call.sub9_2 Call.lsub9_2 Call.sub11_2 Call.lsub11_2 Call.sub13_2 Call.lsub13_2 Call.sub15_2 Call.lsub15_2 Call.sub17_2 Call.lsub17_2 Call.sub19_2 Call.lsub19_2 Call.len Sett.at0 Sett.lat0 Sett.at1 Sett.lat1 Sett.at2 Sett.lat2 Sett.at3 Sett.lat3 Sett.at4 Sett.lat4 Sett.at5 Sett.lat5 Sett.at6 Sett.lat6 Sett.at7 Sett.lat7 Sett.at8 Sett.lat8 Sett.at9 Sett.lat9 Sett.sub0_10 Sett.lsub0_10 Sett.sub0_2 Sett.lsub0_2 Sett.sub2_2 Sett.lsub2_2 Sett.sub4_2 Sett.lsub4_2 Sett.sub6_2 Sett.lsub6_2 Sett.sub8_2 Sett.lsub8_2 Sett.len Opt.at0 Opt.lat0 Opt.at1 Opt.lat1 Opt.sub0_2 Opt.lsub0_2 Opt.len

/-- may the field of a letter be -/
def cMay (x : Call) (c : Nat) : Bool :=
  if c = 102 then decide (x.fh.length ≤ 64) else
  if c = 70 then decide (x.fh2.length ≤ 64) else
  if c = 110 then decide (x.name.length ≤ 255) else
  if c = 78 then decide (x.name2.length ≤ 255) else
  if c = 116 then decide (x.text.length ≤ 255) else
  if c = 100 then decide (x.data.length ≤ 256) else
  if c = 111 then decide (0 ≤ x.offset) else
  if c = 107 then decide (0 ≤ x.cookie) else
  if c = 118 then decide (0 ≤ x.verf) else
  if c = 99 then decide (0 ≤ x.count) && decide (x.count ≤ 4294967295) else
  if c = 104 then decide (0 ≤ x.how) && decide (x.how ≤ 4294967295) else
  if c = 115 then x.set.ok else
  decide (0 ≤ x.guard.n) && (x.guard.is || x.guard.n == 0)

theorem ctext_any (l : List UInt8) (most : Int) (w : World) : Calls Try.prog 94 #[.string (bs l), .int .i64 most] w fun e w' => e = .returned (.bool (decide ((l.length : Int) ≤ most))) ∧ w = w' := by
  have hsz := bs_size l
  go_enter Try.func94, Try.ntmps94
  go_wp2
  go_ret
  exact ⟨rfl, rfl⟩
theorem cnumber_any (n most : Int) (w : World) : Calls Try.prog 95 #[.int .i64 n, .int .i64 most] w fun e w' => e = .returned (.bool (decide (0 ≤ n) && decide (n ≤ most))) ∧ w = w' := by
  go_enter Try.func95, Try.ntmps95
  go_wp2
  all_goals (go_ret; go_light; exact ⟨ret_bool (by grind), rfl⟩)

theorem may_f (b : Nat) (x : Call) (w : World) (hB : Blk w b 89 x.vals) : Calls Try.prog 71 #[.pointer (some ⟨b, 0, none⟩), .int .i32 102] w fun e w' => e = .returned (.bool (cMay x 102)) ∧ Below w.heap.size w w' := by
  have hc := hB.cell
  have HS := Lib.hid (show cMay x 102 = decide ((x.fh.length : Int) ≤ 64) by simp [cMay]; omega)
  go_enter Try.func71, Try.ntmps71
  go_wp2_with fail
  refine (ctext_any _ _ _).mono ?_
  rintro e w1 ⟨rfl, rfl⟩
  go_wp2
  go_ret
  exact ⟨ret_bool HS.out.symm, Below.refl _ _⟩
theorem may_F2 (b : Nat) (x : Call) (w : World) (hB : Blk w b 89 x.vals) : Calls Try.prog 71 #[.pointer (some ⟨b, 0, none⟩), .int .i32 70] w fun e w' => e = .returned (.bool (cMay x 70)) ∧ Below w.heap.size w w' := by
  have hc := hB.cell
  have HS := Lib.hid (show cMay x 70 = decide ((x.fh2.length : Int) ≤ 64) by simp [cMay]; omega)
  go_enter Try.func71, Try.ntmps71
  go_wp2_with fail
  refine (ctext_any _ _ _).mono ?_
  rintro e w1 ⟨rfl, rfl⟩
  go_wp2
  go_ret
  exact ⟨ret_bool HS.out.symm, Below.refl _ _⟩
theorem may_n (b : Nat) (x : Call) (w : World) (hB : Blk w b 89 x.vals) : Calls Try.prog 71 #[.pointer (some ⟨b, 0, none⟩), .int .i32 110] w fun e w' => e = .returned (.bool (cMay x 110)) ∧ Below w.heap.size w w' := by
  have hc := hB.cell
  have HS := Lib.hid (show cMay x 110 = decide ((x.name.length : Int) ≤ 255) by simp [cMay]; omega)
  go_enter Try.func71, Try.ntmps71
  go_wp2_with fail
  refine (ctext_any _ _ _).mono ?_
  rintro e w1 ⟨rfl, rfl⟩
  go_wp2
  go_ret
  exact ⟨ret_bool HS.out.symm, Below.refl _ _⟩
theorem may_N2 (b : Nat) (x : Call) (w : World) (hB : Blk w b 89 x.vals) : Calls Try.prog 71 #[.pointer (some ⟨b, 0, none⟩), .int .i32 78] w fun e w' => e = .returned (.bool (cMay x 78)) ∧ Below w.heap.size w w' := by
  have hc := hB.cell
  have HS := Lib.hid (show cMay x 78 = decide ((x.name2.length : Int) ≤ 255) by simp [cMay]; omega)
  go_enter Try.func71, Try.ntmps71
  go_wp2_with fail
  refine (ctext_any _ _ _).mono ?_
  rintro e w1 ⟨rfl, rfl⟩
  go_wp2
  go_ret
  exact ⟨ret_bool HS.out.symm, Below.refl _ _⟩
theorem may_t (b : Nat) (x : Call) (w : World) (hB : Blk w b 89 x.vals) : Calls Try.prog 71 #[.pointer (some ⟨b, 0, none⟩), .int .i32 116] w fun e w' => e = .returned (.bool (cMay x 116)) ∧ Below w.heap.size w w' := by
  have hc := hB.cell
  have HS := Lib.hid (show cMay x 116 = decide ((x.text.length : Int) ≤ 255) by simp [cMay]; omega)
  go_enter Try.func71, Try.ntmps71
  go_wp2_with fail
  refine (ctext_any _ _ _).mono ?_
  rintro e w1 ⟨rfl, rfl⟩
  go_wp2
  go_ret
  exact ⟨ret_bool HS.out.symm, Below.refl _ _⟩
theorem may_d (b : Nat) (x : Call) (w : World) (hB : Blk w b 89 x.vals) : Calls Try.prog 71 #[.pointer (some ⟨b, 0, none⟩), .int .i32 100] w fun e w' => e = .returned (.bool (cMay x 100)) ∧ Below w.heap.size w w' := by
  have hc := hB.cell
  have HS := Lib.hid (show cMay x 100 = decide ((x.data.length : Int) ≤ 256) by simp [cMay]; omega)
  go_enter Try.func71, Try.ntmps71
  go_wp2_with fail
  refine (ctext_any _ _ _).mono ?_
  rintro e w1 ⟨rfl, rfl⟩
  go_wp2
  go_ret
  exact ⟨ret_bool HS.out.symm, Below.refl _ _⟩
theorem may_o (b : Nat) (x : Call) (w : World) (hB : Blk w b 89 x.vals) : Calls Try.prog 71 #[.pointer (some ⟨b, 0, none⟩), .int .i32 111] w fun e w' => e = .returned (.bool (cMay x 111)) ∧ Below w.heap.size w w' := by
  have hc := hB.cell
  have HS := Lib.hid (show cMay x 111 = decide (0 ≤ x.offset) by simp [cMay])
  go_enter Try.func71, Try.ntmps71
  go_wp2
  go_ret
  exact ⟨ret_bool HS.out.symm, Below.refl _ _⟩
theorem may_k (b : Nat) (x : Call) (w : World) (hB : Blk w b 89 x.vals) : Calls Try.prog 71 #[.pointer (some ⟨b, 0, none⟩), .int .i32 107] w fun e w' => e = .returned (.bool (cMay x 107)) ∧ Below w.heap.size w w' := by
  have hc := hB.cell
  have HS := Lib.hid (show cMay x 107 = decide (0 ≤ x.cookie) by simp [cMay])
  go_enter Try.func71, Try.ntmps71
  go_wp2
  go_ret
  exact ⟨ret_bool HS.out.symm, Below.refl _ _⟩
theorem may_v (b : Nat) (x : Call) (w : World) (hB : Blk w b 89 x.vals) : Calls Try.prog 71 #[.pointer (some ⟨b, 0, none⟩), .int .i32 118] w fun e w' => e = .returned (.bool (cMay x 118)) ∧ Below w.heap.size w w' := by
  have hc := hB.cell
  have HS := Lib.hid (show cMay x 118 = decide (0 ≤ x.verf) by simp [cMay])
  go_enter Try.func71, Try.ntmps71
  go_wp2
  go_ret
  exact ⟨ret_bool HS.out.symm, Below.refl _ _⟩
theorem may_c (b : Nat) (x : Call) (w : World) (hB : Blk w b 89 x.vals) : Calls Try.prog 71 #[.pointer (some ⟨b, 0, none⟩), .int .i32 99] w fun e w' => e = .returned (.bool (cMay x 99)) ∧ Below w.heap.size w w' := by
  have hc := hB.cell
  have HS := Lib.hid (show cMay x 99 = (decide (0 ≤ x.count) && decide (x.count ≤ 4294967295)) by simp [cMay])
  go_enter Try.func71, Try.ntmps71
  go_wp2_with fail
  refine (cnumber_any _ _ _).mono ?_
  rintro e w1 ⟨rfl, rfl⟩
  go_wp2
  go_ret
  exact ⟨ret_bool HS.out.symm, Below.refl _ _⟩
theorem may_h (b : Nat) (x : Call) (w : World) (hB : Blk w b 89 x.vals) : Calls Try.prog 71 #[.pointer (some ⟨b, 0, none⟩), .int .i32 104] w fun e w' => e = .returned (.bool (cMay x 104)) ∧ Below w.heap.size w w' := by
  have hc := hB.cell
  have HS := Lib.hid (show cMay x 104 = (decide (0 ≤ x.how) && decide (x.how ≤ 4294967295)) by simp [cMay])
  go_enter Try.func71, Try.ntmps71
  go_wp2_with fail
  refine (cnumber_any _ _ _).mono ?_
  rintro e w1 ⟨rfl, rfl⟩
  go_wp2
  go_ret
  exact ⟨ret_bool HS.out.symm, Below.refl _ _⟩
end Go.Proofs.Ytjepemfllgjhfaa
