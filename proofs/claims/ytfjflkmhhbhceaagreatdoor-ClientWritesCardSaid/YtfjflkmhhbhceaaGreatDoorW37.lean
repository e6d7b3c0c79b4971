/-
  Layer 33, walks: the calls that are to be made (printed by wip/tools/genplan33.py). Condition: what is asked lies within its bounds.
-/
import Derived.Test.YtfjflkmhhbhceaaGreatDoorW34
import Derived.Test.YtfjflkmhhbhceaaGreatDoorW30
namespace Go.Proofs.YtfjflkmhhbhceaaGreatDoor
open Go.RowKit
attribute [local go_sem ↓] Go.wp_at_zero Go.wp_at_succ
attribute [local go_sem] rowAt_ptr rowOf_drew rowOf_drewN rowOf_alloc_past rowOf_new
attribute [local go_sem ↓] st33Part st33Call ld33Part ld33Call ld33Ask exSlPart1 exSlPart3

attribute [local go_sem] thereB_drew thereB_drewN thereB_new thereB_past putsW_drew putsW_new putsW_past rowOf_far rowOf_putsFar cell_putsFar putsW_size ptrAt blkAt offAt allV33 oneV33 cellsOf_agg

attribute [local go_sem low] rowV33_agg

attribute [local go_sem] Call.len CPart.len rowV33_call rowV33_part

set_option maxRecDepth 20000 in
set_option maxHeartbeats 1600000 in
theorem plan33_24 (F : Nat → Prop) (w : World) (g : Nat) (c : ClD) (z : Clnt) (l : List Recd) (hC : ClAt F w g c z l) (hF : ∀ k, F k → k < w.heap.size) (a : Ask) (x : Call) (n : Nat) (hv : a.var = n) (hn : n < 4) (hk : a.kind = 2 ∨ a.kind = 4) :
    Calls Tryz.prog 37 #[.pointer (some ⟨g, 0, none⟩), .agg a.vals.toArray, .agg x.vals.toArray] w (PlanP F g (c.plan a x).1 l (c.plan a x).2 w) := by
  have hgl := hC.blk.lt
  obtain ⟨bA, bX, hB, hs⟩ := chain2_blks w a.vals x.vals 38 36
  obtain ⟨w1, hw1⟩ : ∃ V, V = (w.alloc (.cells a.vals.toArray 38)).alloc (.cells x.vals.toArray 36) := ⟨_, rfl⟩
  rw [← hw1] at bA bX hB hs
  have HW := Lib.hid hw1
  clear hw1
  have HQ := Lib.hid (show c.plan a x = ((c.ahead n).1, (c.ahead n).2 ++ [⟨x, n, 0, -1, 0, 0⟩]) by unfold ClD.plan; rw [if_neg (by omega), if_neg (by omega), if_neg (by omega), hv])
  have c0 : w1.cell? ⟨w.heap.size, 0, none⟩ = some (.int .i64 a.kind) := bA.cell 0
  have c1 : w1.cell? ⟨w.heap.size, 1, none⟩ = some (.int .i64 n) := by rw [bA.cell 1, ← hv]; rfl
  have c2 : w1.cell? ⟨w.heap.size, 2, none⟩ = some (.int .i64 a.dir) := bA.cell 2
  have c3 : w1.cell? ⟨w.heap.size, 3, none⟩ = some (.int .i64 a.to_) := bA.cell 3
  have x0 : w1.cell? ⟨w.heap.size + 1, 0, none⟩ = some (.int .i64 x.proc) := bX.cell 0
  have rX : rowOf w1 (w.heap.size + 1) 0 24 = some x.vals.toArray := bX.row 0 24 (by rw [Call.len]; omega)
  have k1 : (a.kind == 1) = false := by rcases hk with h | h <;> rw [h] <;> rfl
  have k3 : (a.kind == 3) = false := by rcases hk with h | h <;> rw [h] <;> rfl
  have k5 : (a.kind == 5) = false := by rcases hk with h | h <;> rw [h] <;> rfl
  have hl0 := bA.lt
  have hl1 := bX.lt
  have n0 : w.heap.size ≠ g := by omega
  have n1 : w.heap.size + 1 ≠ g := by omega
  have KA := Lib.hid (fun (W : World) (h : Below w1.heap.size w1 W) => ahead33_any F W g c z l ((hC.below hB).below h) n hn)
  have HB := Lib.hid hB
  have HF := Lib.hid hF
  have HC := Lib.hid (hC.below hB)
  have HD := Lib.hid (show Below w1.heap.size w1 w1.drew from (Below.refl _ _).drew)
  have HDa := Lib.hid (fun (o : Obj) => show Below w1.heap.size w1 (w1.drew.alloc o) from (Below.refl _ _).drew.alloc (Nat.le_refl _) o)
  have nB := Lib.hid (show w1.heap.size ≠ g by omega)
  have hbx := Lib.hid (And.intro bA bX)
  generalize a.kind = kk at *
  clear hs hB bA bX hC hv hF hk
  obtain ⟨xp, xf, xn, xg, xm, xo, xc, xh, xd, ⟨⟨b1, i1⟩, ⟨b2, i2⟩, ⟨b3, i3⟩, ⟨b4, i4⟩, ⟨b5, i5⟩⟩, ⟨b6, i6⟩, xk, xv, xt⟩ := x
  replace rX : rowOf w1 (w.heap.size + 1) 0 24 = some #[.int .i64 xp, .string (bs xf), .string (bs xn), .string (bs xg), .string (bs xm), .int .i64 xo, .int .i64 xc, .int .i64 xh, .string (bs xd), .bool b1, .int .i64 i1, .bool b2, .int .i64 i2, .bool b3, .int .i64 i3, .bool b4, .int .i64 i4, .bool b5, .int .i64 i5, .bool b6, .int .i64 i6, .int .i64 xk, .int .i64 xv, .string (bs xt)] := rX
  go_enter Tryz.func37, Tryz.ntmps37
  go_upto_region 1 with fail
  change Code.wp _ _ _ _ ((w.alloc (.cells a.vals.toArray 38)).alloc (.cells (Call.vals _).toArray 36))
  rw [← HW.out]
  go_wp2_with fail
  go_region_held3 (fun W => TStb g w1 W) (first | exact TStb.start | assumption | (exact TStb.alloc (by assumption) _) | (exact TStb.call (by assumption) (by assumption))) (first
    | (go_at_call 81; refine (KA.out _ (by first | exact HD.out | exact HDa.out _)).mono ?_; rintro e w2 ⟨v, rfl, hrow, hA, ht⟩)
    | (refine step_append_by (R := fun v' w' => PlanP F g (c.ahead n).1 l ((c.ahead n).2 ++ [⟨⟨xp, xf, xn, xg, xm, xo, xc, xh, xd, ⟨⟨b1, i1⟩, ⟨b2, i2⟩, ⟨b3, i3⟩, ⟨b4, i4⟩, ⟨b5, i5⟩⟩, ⟨b6, i6⟩, xk, xv, xt⟩, n, 0, -1, 0, 0⟩]) w (.returned v') w' ∧ TStb g w1 w') (by rfl) (.tmp 67) (.tmp 72) #[89, 89] (by rfl) _ _ (by rfl) (by rfl) (app_new (qs := [⟨⟨xp, xf, xn, xg, xm, xo, xc, xh, xd, ⟨⟨b1, i1⟩, ⟨b2, i2⟩, ⟨b3, i3⟩, ⟨b4, i4⟩, ⟨b5, i5⟩⟩, ⟨b6, i6⟩, xk, xv, xt⟩, n, 0, -1, 0, 0⟩]) hA HF.out hrow ht HB.out HD.out (ahead_few _ _) (Nat.le_of_ble_eq_true rfl) rfl) ?_; rintro v' w4 ⟨hPl, hS4⟩)
    | (refine step_append_by (R := fun v' w' => PlanP F g (c.ahead n).1 l ((c.ahead n).2 ++ [⟨⟨xp, xf, xn, xg, xm, xo, xc, xh, xd, ⟨⟨b1, i1⟩, ⟨b2, i2⟩, ⟨b3, i3⟩, ⟨b4, i4⟩, ⟨b5, i5⟩⟩, ⟨b6, i6⟩, xk, xv, xt⟩, n, 0, -1, 0, 0⟩]) w (.returned v') w' ∧ TStb g w1 w') (by rfl) (.tmp 67) (.tmp 72) #[89, 89] (by rfl) _ _ (by rfl) (by rfl) (app_old (qs := [⟨⟨xp, xf, xn, xg, xm, xo, xc, xh, xd, ⟨⟨b1, i1⟩, ⟨b2, i2⟩, ⟨b3, i3⟩, ⟨b4, i4⟩, ⟨b5, i5⟩⟩, ⟨b6, i6⟩, xk, xv, xt⟩, n, 0, -1, 0, 0⟩]) hA HF.out hrow ht HB.out (HDa.out _) (Blk.new w1.drew _ _) nB.out (ahead_few _ _) (Nat.le_of_ble_eq_true rfl) rfl) ?_; rintro v' w4 ⟨hPl, hS4⟩)
    | fail)
  all_goals
    go_wp2
    go_ret
    rw [HQ.out]
    exact hPl
set_option maxRecDepth 20000 in
set_option maxHeartbeats 1600000 in
theorem plan33_1 (F : Nat → Prop) (w : World) (g : Nat) (c : ClD) (z : Clnt) (l : List Recd) (hC : ClAt F w g c z l) (hF : ∀ k, F k → k < w.heap.size) (a : Ask) (x : Call) (n : Nat) (hv : a.var = n) (hn : n < 4) (hk : a.kind = 1) :
    Calls Tryz.prog 37 #[.pointer (some ⟨g, 0, none⟩), .agg a.vals.toArray, .agg x.vals.toArray] w (PlanP F g (c.plan a x).1 l (c.plan a x).2 w) := by
  have hgl := hC.blk.lt
  obtain ⟨bA, bX, hB, hs⟩ := chain2_blks w a.vals x.vals 38 36
  obtain ⟨w1, hw1⟩ : ∃ V, V = (w.alloc (.cells a.vals.toArray 38)).alloc (.cells x.vals.toArray 36) := ⟨_, rfl⟩
  rw [← hw1] at bA bX hB hs
  have HW := Lib.hid hw1
  clear hw1
  have HQ := Lib.hid (show c.plan a x = ((c.ahead n).1, (c.ahead n).2 ++ [⟨{ callZ with proc := 1 }, a.dir, 0, -1, 0, 0⟩, ⟨x, a.dir, 0, n, 0, 0⟩, ⟨{ callZ with proc := 1 }, n, 0, -1, 0, 0⟩]) by unfold ClD.plan; rw [if_pos hk, hv])
  have c0 : w1.cell? ⟨w.heap.size, 0, none⟩ = some (.int .i64 a.kind) := bA.cell 0
  have c1 : w1.cell? ⟨w.heap.size, 1, none⟩ = some (.int .i64 n) := by rw [bA.cell 1, ← hv]; rfl
  have c2 : w1.cell? ⟨w.heap.size, 2, none⟩ = some (.int .i64 a.dir) := bA.cell 2
  have c3 : w1.cell? ⟨w.heap.size, 3, none⟩ = some (.int .i64 a.to_) := bA.cell 3
  have x0 : w1.cell? ⟨w.heap.size + 1, 0, none⟩ = some (.int .i64 x.proc) := bX.cell 0
  have rX : rowOf w1 (w.heap.size + 1) 0 24 = some x.vals.toArray := bX.row 0 24 (by rw [Call.len]; omega)
  rw [hk] at c0
  have hl0 := bA.lt
  have hl1 := bX.lt
  have n0 : w.heap.size ≠ g := by omega
  have n1 : w.heap.size + 1 ≠ g := by omega
  have KA := Lib.hid (fun (W : World) (h : Below w1.heap.size w1 W) => ahead33_any F W g c z l ((hC.below hB).below h) n hn)
  have HB := Lib.hid hB
  have HF := Lib.hid hF
  have HC := Lib.hid (hC.below hB)
  have HD := Lib.hid (show Below w1.heap.size w1 w1.drew from (Below.refl _ _).drew)
  have HDa := Lib.hid (fun (o : Obj) => show Below w1.heap.size w1 (w1.drew.alloc o) from (Below.refl _ _).drew.alloc (Nat.le_refl _) o)
  have nB := Lib.hid (show w1.heap.size ≠ g by omega)
  have hbx := Lib.hid (And.intro bA bX)
  generalize a.kind = kk at *
  clear hs hB bA bX hC hv hF hk
  obtain ⟨xp, xf, xn, xg, xm, xo, xc, xh, xd, ⟨⟨b1, i1⟩, ⟨b2, i2⟩, ⟨b3, i3⟩, ⟨b4, i4⟩, ⟨b5, i5⟩⟩, ⟨b6, i6⟩, xk, xv, xt⟩ := x
  replace rX : rowOf w1 (w.heap.size + 1) 0 24 = some #[.int .i64 xp, .string (bs xf), .string (bs xn), .string (bs xg), .string (bs xm), .int .i64 xo, .int .i64 xc, .int .i64 xh, .string (bs xd), .bool b1, .int .i64 i1, .bool b2, .int .i64 i2, .bool b3, .int .i64 i3, .bool b4, .int .i64 i4, .bool b5, .int .i64 i5, .bool b6, .int .i64 i6, .int .i64 xk, .int .i64 xv, .string (bs xt)] := rX
  go_enter Tryz.func37, Tryz.ntmps37
  go_upto_region 1 with fail
  change Code.wp _ _ _ _ ((w.alloc (.cells a.vals.toArray 38)).alloc (.cells (Call.vals _).toArray 36))
  rw [← HW.out]
  go_wp2_with fail
  go_region_held3 (fun W => TStb g w1 W) (first | exact TStb.start | assumption | (exact TStb.alloc (by assumption) _) | (exact TStb.call (by assumption) (by assumption))) (first
    | (go_at_call 81; refine (KA.out _ (by first | exact HD.out | exact HDa.out _)).mono ?_; rintro e w2 ⟨v, rfl, hrow, hA, ht⟩)
    | (refine step_append_by (R := fun v' w' => PlanP F g (c.ahead n).1 l ((c.ahead n).2 ++ [⟨{ callZ with proc := 1 }, a.dir, 0, -1, 0, 0⟩, ⟨⟨xp, xf, xn, xg, xm, xo, xc, xh, xd, ⟨⟨b1, i1⟩, ⟨b2, i2⟩, ⟨b3, i3⟩, ⟨b4, i4⟩, ⟨b5, i5⟩⟩, ⟨b6, i6⟩, xk, xv, xt⟩, a.dir, 0, n, 0, 0⟩, ⟨{ callZ with proc := 1 }, n, 0, -1, 0, 0⟩]) w (.returned v') w' ∧ TStb g w1 w') (by rfl) (.tmp 14) (.tmp 29) #[89, 89] (by rfl) _ _ (by rfl) (by rfl) (app_new (qs := [⟨{ callZ with proc := 1 }, a.dir, 0, -1, 0, 0⟩, ⟨⟨xp, xf, xn, xg, xm, xo, xc, xh, xd, ⟨⟨b1, i1⟩, ⟨b2, i2⟩, ⟨b3, i3⟩, ⟨b4, i4⟩, ⟨b5, i5⟩⟩, ⟨b6, i6⟩, xk, xv, xt⟩, a.dir, 0, n, 0, 0⟩, ⟨{ callZ with proc := 1 }, n, 0, -1, 0, 0⟩]) hA HF.out hrow ht HB.out HD.out (ahead_few _ _) (Nat.le_of_ble_eq_true rfl) rfl) ?_; rintro v' w4 ⟨hPl, hS4⟩)
    | (refine step_append_by (R := fun v' w' => PlanP F g (c.ahead n).1 l ((c.ahead n).2 ++ [⟨{ callZ with proc := 1 }, a.dir, 0, -1, 0, 0⟩, ⟨⟨xp, xf, xn, xg, xm, xo, xc, xh, xd, ⟨⟨b1, i1⟩, ⟨b2, i2⟩, ⟨b3, i3⟩, ⟨b4, i4⟩, ⟨b5, i5⟩⟩, ⟨b6, i6⟩, xk, xv, xt⟩, a.dir, 0, n, 0, 0⟩, ⟨{ callZ with proc := 1 }, n, 0, -1, 0, 0⟩]) w (.returned v') w' ∧ TStb g w1 w') (by rfl) (.tmp 14) (.tmp 29) #[89, 89] (by rfl) _ _ (by rfl) (by rfl) (app_old (qs := [⟨{ callZ with proc := 1 }, a.dir, 0, -1, 0, 0⟩, ⟨⟨xp, xf, xn, xg, xm, xo, xc, xh, xd, ⟨⟨b1, i1⟩, ⟨b2, i2⟩, ⟨b3, i3⟩, ⟨b4, i4⟩, ⟨b5, i5⟩⟩, ⟨b6, i6⟩, xk, xv, xt⟩, a.dir, 0, n, 0, 0⟩, ⟨{ callZ with proc := 1 }, n, 0, -1, 0, 0⟩]) hA HF.out hrow ht HB.out (HDa.out _) (Blk.new w1.drew _ _) nB.out (ahead_few _ _) (Nat.le_of_ble_eq_true rfl) rfl) ?_; rintro v' w4 ⟨hPl, hS4⟩)
    | fail)
  all_goals
    go_wp2
    go_ret
    rw [HQ.out]
    exact hPl
set_option maxRecDepth 20000 in
set_option maxHeartbeats 1600000 in
theorem plan33_5b (F : Nat → Prop) (w : World) (g : Nat) (c : ClD) (z : Clnt) (l : List Recd) (hC : ClAt F w g c z l) (hF : ∀ k, F k → k < w.heap.size) (a : Ask) (x : Call) (n : Nat) (hv : a.var = n) (hn : n < 4) (hk : a.kind = 5) (hb : bornC x.proc = true) :
    Calls Tryz.prog 37 #[.pointer (some ⟨g, 0, none⟩), .agg a.vals.toArray, .agg x.vals.toArray] w (PlanP F g (c.plan a x).1 l (c.plan a x).2 w) := by
  have hgl := hC.blk.lt
  obtain ⟨bA, bX, hB, hs⟩ := chain2_blks w a.vals x.vals 38 36
  obtain ⟨w1, hw1⟩ : ∃ V, V = (w.alloc (.cells a.vals.toArray 38)).alloc (.cells x.vals.toArray 36) := ⟨_, rfl⟩
  rw [← hw1] at bA bX hB hs
  have HW := Lib.hid hw1
  clear hw1
  have HQ := Lib.hid (show c.plan a x = ((c.ahead n).1, (c.ahead n).2 ++ [⟨x, a.dir, a.to_, n, 0, 0⟩]) by unfold ClD.plan; rw [if_neg (by omega), if_neg (by omega), if_pos hk, hb, hv]; rfl)
  have c0 : w1.cell? ⟨w.heap.size, 0, none⟩ = some (.int .i64 a.kind) := bA.cell 0
  have c1 : w1.cell? ⟨w.heap.size, 1, none⟩ = some (.int .i64 n) := by rw [bA.cell 1, ← hv]; rfl
  have c2 : w1.cell? ⟨w.heap.size, 2, none⟩ = some (.int .i64 a.dir) := bA.cell 2
  have c3 : w1.cell? ⟨w.heap.size, 3, none⟩ = some (.int .i64 a.to_) := bA.cell 3
  have x0 : w1.cell? ⟨w.heap.size + 1, 0, none⟩ = some (.int .i64 x.proc) := bX.cell 0
  have rX : rowOf w1 (w.heap.size + 1) 0 24 = some x.vals.toArray := bX.row 0 24 (by rw [Call.len]; omega)
  rw [hk] at c0
  have hl0 := bA.lt
  have hl1 := bX.lt
  have n0 : w.heap.size ≠ g := by omega
  have n1 : w.heap.size + 1 ≠ g := by omega
  have KA := Lib.hid (fun (W : World) (h : Below w1.heap.size w1 W) => ahead33_any F W g c z l ((hC.below hB).below h) n hn)
  have HB := Lib.hid hB
  have HF := Lib.hid hF
  have HC := Lib.hid (hC.below hB)
  have HD := Lib.hid (show Below w1.heap.size w1 w1.drew from (Below.refl _ _).drew)
  have HDa := Lib.hid (fun (o : Obj) => show Below w1.heap.size w1 (w1.drew.alloc o) from (Below.refl _ _).drew.alloc (Nat.le_refl _) o)
  have nB := Lib.hid (show w1.heap.size ≠ g by omega)
  have hbx := Lib.hid (And.intro bA bX)
  generalize a.kind = kk at *
  clear hs hB bA bX hC hv hF hk
  obtain ⟨xp, xf, xn, xg, xm, xo, xc, xh, xd, ⟨⟨b1, i1⟩, ⟨b2, i2⟩, ⟨b3, i3⟩, ⟨b4, i4⟩, ⟨b5, i5⟩⟩, ⟨b6, i6⟩, xk, xv, xt⟩ := x
  replace rX : rowOf w1 (w.heap.size + 1) 0 24 = some #[.int .i64 xp, .string (bs xf), .string (bs xn), .string (bs xg), .string (bs xm), .int .i64 xo, .int .i64 xc, .int .i64 xh, .string (bs xd), .bool b1, .int .i64 i1, .bool b2, .int .i64 i2, .bool b3, .int .i64 i3, .bool b4, .int .i64 i4, .bool b5, .int .i64 i5, .bool b6, .int .i64 i6, .int .i64 xk, .int .i64 xv, .string (bs xt)] := rX
  go_enter Tryz.func37, Tryz.ntmps37
  go_upto_region 1 with fail
  change Code.wp _ _ _ _ ((w.alloc (.cells a.vals.toArray 38)).alloc (.cells (Call.vals _).toArray 36))
  rw [← HW.out]
  have HBo := Lib.hid (show bornC xp = true from hb)
  clear hb
  go_wp2_with fail
  refine (born33_any _ _).mono ?_
  rintro e wb ⟨rfl, hwb⟩
  rw [hwb, HBo.out]
  clear hwb
  go_wp2_with fail
  go_region_held3 (fun W => TStb g w1 W) (first | exact TStb.start | assumption | (exact TStb.alloc (by assumption) _) | (exact TStb.call (by assumption) (by assumption))) (first
    | (go_at_call 81; refine (KA.out _ (by first | exact HD.out | exact HDa.out _)).mono ?_; rintro e w2 ⟨v, rfl, hrow, hA, ht⟩)
    | (refine step_append_by (R := fun v' w' => PlanP F g (c.ahead n).1 l ((c.ahead n).2 ++ [⟨⟨xp, xf, xn, xg, xm, xo, xc, xh, xd, ⟨⟨b1, i1⟩, ⟨b2, i2⟩, ⟨b3, i3⟩, ⟨b4, i4⟩, ⟨b5, i5⟩⟩, ⟨b6, i6⟩, xk, xv, xt⟩, a.dir, a.to_, n, 0, 0⟩]) w (.returned v') w' ∧ TStb g w1 w') (by rfl) (.tmp 46) (.tmp 55) #[89, 89] (by rfl) _ _ (by rfl) (by rfl) (app_new (qs := [⟨⟨xp, xf, xn, xg, xm, xo, xc, xh, xd, ⟨⟨b1, i1⟩, ⟨b2, i2⟩, ⟨b3, i3⟩, ⟨b4, i4⟩, ⟨b5, i5⟩⟩, ⟨b6, i6⟩, xk, xv, xt⟩, a.dir, a.to_, n, 0, 0⟩]) hA HF.out hrow ht HB.out HD.out (ahead_few _ _) (Nat.le_of_ble_eq_true rfl) rfl) ?_; rintro v' w4 ⟨hPl, hS4⟩)
    | (refine step_append_by (R := fun v' w' => PlanP F g (c.ahead n).1 l ((c.ahead n).2 ++ [⟨⟨xp, xf, xn, xg, xm, xo, xc, xh, xd, ⟨⟨b1, i1⟩, ⟨b2, i2⟩, ⟨b3, i3⟩, ⟨b4, i4⟩, ⟨b5, i5⟩⟩, ⟨b6, i6⟩, xk, xv, xt⟩, a.dir, a.to_, n, 0, 0⟩]) w (.returned v') w' ∧ TStb g w1 w') (by rfl) (.tmp 46) (.tmp 55) #[89, 89] (by rfl) _ _ (by rfl) (by rfl) (app_old (qs := [⟨⟨xp, xf, xn, xg, xm, xo, xc, xh, xd, ⟨⟨b1, i1⟩, ⟨b2, i2⟩, ⟨b3, i3⟩, ⟨b4, i4⟩, ⟨b5, i5⟩⟩, ⟨b6, i6⟩, xk, xv, xt⟩, a.dir, a.to_, n, 0, 0⟩]) hA HF.out hrow ht HB.out (HDa.out _) (Blk.new w1.drew _ _) nB.out (ahead_few _ _) (Nat.le_of_ble_eq_true rfl) rfl) ?_; rintro v' w4 ⟨hPl, hS4⟩)
    | fail)
  all_goals
    go_wp2
    go_ret
    rw [HQ.out]
    exact hPl
set_option maxRecDepth 20000 in
set_option maxHeartbeats 1600000 in
theorem plan33_5n (F : Nat → Prop) (w : World) (g : Nat) (c : ClD) (z : Clnt) (l : List Recd) (hC : ClAt F w g c z l) (hF : ∀ k, F k → k < w.heap.size) (a : Ask) (x : Call) (n : Nat) (hv : a.var = n) (hn : n < 4) (hk : a.kind = 5) (hb : bornC x.proc = false) :
    Calls Tryz.prog 37 #[.pointer (some ⟨g, 0, none⟩), .agg a.vals.toArray, .agg x.vals.toArray] w (PlanP F g (c.plan a x).1 l (c.plan a x).2 w) := by
  have hgl := hC.blk.lt
  obtain ⟨bA, bX, hB, hs⟩ := chain2_blks w a.vals x.vals 38 36
  obtain ⟨w1, hw1⟩ : ∃ V, V = (w.alloc (.cells a.vals.toArray 38)).alloc (.cells x.vals.toArray 36) := ⟨_, rfl⟩
  rw [← hw1] at bA bX hB hs
  have HW := Lib.hid hw1
  clear hw1
  have HQ := Lib.hid (show c.plan a x = (c, [⟨x, a.dir, a.to_, -1, 0, 0⟩]) by unfold ClD.plan; rw [if_neg (by omega), if_neg (by omega), if_pos hk, hb]; rfl)
  have c0 : w1.cell? ⟨w.heap.size, 0, none⟩ = some (.int .i64 a.kind) := bA.cell 0
  have c1 : w1.cell? ⟨w.heap.size, 1, none⟩ = some (.int .i64 n) := by rw [bA.cell 1, ← hv]; rfl
  have c2 : w1.cell? ⟨w.heap.size, 2, none⟩ = some (.int .i64 a.dir) := bA.cell 2
  have c3 : w1.cell? ⟨w.heap.size, 3, none⟩ = some (.int .i64 a.to_) := bA.cell 3
  have x0 : w1.cell? ⟨w.heap.size + 1, 0, none⟩ = some (.int .i64 x.proc) := bX.cell 0
  have rX : rowOf w1 (w.heap.size + 1) 0 24 = some x.vals.toArray := bX.row 0 24 (by rw [Call.len]; omega)
  rw [hk] at c0
  have hl0 := bA.lt
  have hl1 := bX.lt
  have n0 : w.heap.size ≠ g := by omega
  have n1 : w.heap.size + 1 ≠ g := by omega
  have KA := Lib.hid (fun (W : World) (h : Below w1.heap.size w1 W) => ahead33_any F W g c z l ((hC.below hB).below h) n hn)
  have HB := Lib.hid hB
  have HF := Lib.hid hF
  have HC := Lib.hid (hC.below hB)
  have HD := Lib.hid (show Below w1.heap.size w1 w1.drew from (Below.refl _ _).drew)
  have HDa := Lib.hid (fun (o : Obj) => show Below w1.heap.size w1 (w1.drew.alloc o) from (Below.refl _ _).drew.alloc (Nat.le_refl _) o)
  have nB := Lib.hid (show w1.heap.size ≠ g by omega)
  have hbx := Lib.hid (And.intro bA bX)
  generalize a.kind = kk at *
  clear hs hB bA bX hC hv hF hk
  obtain ⟨xp, xf, xn, xg, xm, xo, xc, xh, xd, ⟨⟨b1, i1⟩, ⟨b2, i2⟩, ⟨b3, i3⟩, ⟨b4, i4⟩, ⟨b5, i5⟩⟩, ⟨b6, i6⟩, xk, xv, xt⟩ := x
  replace rX : rowOf w1 (w.heap.size + 1) 0 24 = some #[.int .i64 xp, .string (bs xf), .string (bs xn), .string (bs xg), .string (bs xm), .int .i64 xo, .int .i64 xc, .int .i64 xh, .string (bs xd), .bool b1, .int .i64 i1, .bool b2, .int .i64 i2, .bool b3, .int .i64 i3, .bool b4, .int .i64 i4, .bool b5, .int .i64 i5, .bool b6, .int .i64 i6, .int .i64 xk, .int .i64 xv, .string (bs xt)] := rX
  go_enter Tryz.func37, Tryz.ntmps37
  go_upto_region 1 with fail
  change Code.wp _ _ _ _ ((w.alloc (.cells a.vals.toArray 38)).alloc (.cells (Call.vals _).toArray 36))
  rw [← HW.out]
  have HBo := Lib.hid (show bornC xp = false from hb)
  clear hb
  go_wp2_with fail
  refine (born33_any _ _).mono ?_
  rintro e wb ⟨rfl, hwb⟩
  rw [hwb, HBo.out]
  clear hwb
  go_wp2_with fail
  go_wp2
  go_ret
  rw [HQ.out]
  refine ⟨_, rfl, ?_, ⟨z, HC.out.below ((Below.refl _ _).alloc (Nat.le_refl _) _)⟩, Touch.of_below (HB.out.alloc HB.out.size _) _⟩
  exact RowS.made w1 (b := w1.heap.size) (B := w.heap.size) (sz := 29) (k := 1) 91 (([⟨⟨xp, xf, xn, xg, xm, xo, xc, xh, xd, ⟨⟨b1, i1⟩, ⟨b2, i2⟩, ⟨b3, i3⟩, ⟨b4, i4⟩, ⟨b5, i5⟩⟩, ⟨b6, i6⟩, xk, xv, xt⟩, a.dir, a.to_, -1, 0, 0⟩] : List CPart).map CPart.vals) (parts_len _) rfl HB.out.size (by simp) rfl
set_option maxRecDepth 20000 in
set_option maxHeartbeats 1600000 in
theorem plan33_3 (F : Nat → Prop) (w : World) (g : Nat) (c : ClD) (z : Clnt) (l : List Recd) (hC : ClAt F w g c z l) (hF : ∀ k, F k → k < w.heap.size) (a : Ask) (x : Call) (n : Nat) (hv : a.var = n) (hn : n < 4) (hk : a.kind = 3) (hG : PlaceG (z.place n)) (hx : 0 ≤ x.offset ∧ x.offset ≤ 9223372036854775807) (hd : x.data.length ≤ 256) :
    Calls Tryz.prog 37 #[.pointer (some ⟨g, 0, none⟩), .agg a.vals.toArray, .agg x.vals.toArray] w (PlanP F g (c.plan a x).1 l (c.plan a x).2 w) := by
  have hgl := hC.blk.lt
  obtain ⟨bA, bX, hB, hs⟩ := chain2_blks w a.vals x.vals 38 36
  obtain ⟨w1, hw1⟩ : ∃ V, V = (w.alloc (.cells a.vals.toArray 38)).alloc (.cells x.vals.toArray 36) := ⟨_, rfl⟩
  rw [← hw1] at bA bX hB hs
  have HW := Lib.hid hw1
  clear hw1
  have HQ := Lib.hid (show c.plan a x = ((c.late n x).1, (c.late n x).2) by unfold ClD.plan; rw [if_neg (by omega), if_pos hk, hv])
  have c0 : w1.cell? ⟨w.heap.size, 0, none⟩ = some (.int .i64 a.kind) := bA.cell 0
  have c1 : w1.cell? ⟨w.heap.size, 1, none⟩ = some (.int .i64 n) := by rw [bA.cell 1, ← hv]; rfl
  have c2 : w1.cell? ⟨w.heap.size, 2, none⟩ = some (.int .i64 a.dir) := bA.cell 2
  have c3 : w1.cell? ⟨w.heap.size, 3, none⟩ = some (.int .i64 a.to_) := bA.cell 3
  have x0 : w1.cell? ⟨w.heap.size + 1, 0, none⟩ = some (.int .i64 x.proc) := bX.cell 0
  have rX : rowOf w1 (w.heap.size + 1) 0 24 = some x.vals.toArray := bX.row 0 24 (by rw [Call.len]; omega)
  rw [hk] at c0
  have KL := Lib.hid (late33_any F w1 g c z l (hC.below hB) n hn x hG hx hd)
  have hl0 := bA.lt
  have hl1 := bX.lt
  have n0 : w.heap.size ≠ g := by omega
  have n1 : w.heap.size + 1 ≠ g := by omega
  have KA := Lib.hid (fun (W : World) (h : Below w1.heap.size w1 W) => ahead33_any F W g c z l ((hC.below hB).below h) n hn)
  have HB := Lib.hid hB
  have HF := Lib.hid hF
  have HC := Lib.hid (hC.below hB)
  have HD := Lib.hid (show Below w1.heap.size w1 w1.drew from (Below.refl _ _).drew)
  have HDa := Lib.hid (fun (o : Obj) => show Below w1.heap.size w1 (w1.drew.alloc o) from (Below.refl _ _).drew.alloc (Nat.le_refl _) o)
  have nB := Lib.hid (show w1.heap.size ≠ g by omega)
  have hbx := Lib.hid (And.intro bA bX)
  generalize a.kind = kk at *
  clear hs hB bA bX hC hv hF hk hx hd hG
  go_enter Tryz.func37, Tryz.ntmps37
  go_upto_region 1 with fail
  change Code.wp _ _ _ _ ((w.alloc (.cells a.vals.toArray 38)).alloc (.cells (Call.vals _).toArray 36))
  rw [← HW.out]
  go_wp2_with fail
  refine KL.out.mono ?_
  rintro e w2 ⟨v, rfl, hrow, hA, ht⟩
  have HR := Lib.hid (And.intro (hrow.base HB.out.size) (And.intro hA ((Touch.of_below HB.out _).then_ ht)))
  clear hrow hA ht
  go_wp2
  go_ret
  rw [HQ.out]
  exact ⟨_, rfl, HR.out⟩
theorem plan33_any (F : Nat → Prop) (w : World) (g : Nat) (c : ClD) (z : Clnt) (l : List Recd) (hC : ClAt F w g c z l) (hG : ClGood c) (a : Ask) (hg : CallG a.call) (step now : Int) (hm : mayAsk a step now = true) :
    Calls Tryz.prog 37 #[.pointer (some ⟨g, 0, none⟩), .agg a.vals.toArray, .agg (askedC a).1.vals.toArray] w (PlanP F g (c.plan a (askedC a).1).1 l (c.plan a (askedC a).1).2 w) := by
  have hgo := (askedC_g hg).offset
  simp only [mayAsk, Bool.and_eq_true, decide_eq_true_eq] at hm
  obtain ⟨⟨⟨⟨⟨hk, -⟩, -⟩, hpl⟩, -⟩, hck⟩ := hm
  have hv : 0 ≤ a.var ∧ a.var < 4 ∧ (a.kind = 1 ∨ a.kind = 2 ∨ a.kind = 3 ∨ a.kind = 4 ∨ a.kind = 5) := by
    unfold askedC at hpl hk
    by_cases h1 : a.kind = 1
    · rw [if_pos h1] at hpl
      simp only [List.all_cons, List.all_nil, Bool.and_eq_true, Bool.and_true] at hpl
      have := placeC_of hpl.2
      omega
    rw [if_neg h1] at hpl hk
    by_cases h2 : a.kind = 2
    · rw [if_pos h2] at hpl
      simp only [List.all_cons, List.all_nil, Bool.and_true] at hpl
      have := placeC_of hpl
      omega
    rw [if_neg h2] at hpl hk
    by_cases h3 : a.kind = 3
    · rw [if_pos h3] at hpl
      simp only [List.all_cons, List.all_nil, Bool.and_true] at hpl
      have := placeC_of hpl
      omega
    rw [if_neg h3] at hpl hk
    by_cases h4 : a.kind = 4
    · rw [if_pos h4] at hpl
      simp only [List.all_cons, List.all_nil, Bool.and_true] at hpl
      have := placeC_of hpl
      omega
    rw [if_neg h4] at hpl hk
    by_cases h5 : a.kind = 5
    · rw [if_pos h5] at hpl
      simp only [List.all_cons, List.all_nil, Bool.and_eq_true, Bool.and_true] at hpl
      have := placeC_of hpl.2.2
      omega
    rw [if_neg h5] at hk
    cases hk
  obtain ⟨hv0, hv1, hv2⟩ := hv
  obtain ⟨n, hn⟩ : ∃ n : Nat, a.var = n := ⟨a.var.toNat, by omega⟩
  have hn4 : n < 4 := by omega
  have hF := hC.lt
  rcases hv2 with h | h | h | h | h
  · exact plan33_1 F w g c z l hC hF a _ n hn hn4 h
  · exact plan33_24 F w g c z l hC hF a _ n hn hn4 (.inl h)
  · have hw : 0 ≤ (askedC a).1.offset ∧ (askedC a).1.data.length ≤ 256 := by
      have e : (askedC a).1 = { callZ with proc := 7, offset := a.call.offset, data := a.call.data, how := 2 } := by
        unfold askedC; rw [if_neg (by omega), if_neg (by omega), if_pos h]
      rw [e] at hck ⊢
      exact cMay_write hck
    have hpg := hG.at_ (n : Int)
    rw [hC.is.at_ hn4] at hpg
    exact plan33_3 F w g c z l hC hF a _ n hn hn4 h hpg ⟨hw.1, hgo⟩ hw.2
  · exact plan33_24 F w g c z l hC hF a _ n hn hn4 (.inr h)
  · cases hb : bornC (askedC a).1.proc
    · exact plan33_5n F w g c z l hC hF a _ n hn hn4 h hb
    · exact plan33_5b F w g c z l hC hF a _ n hn hn4 h hb
end Go.Proofs.YtfjflkmhhbhceaaGreatDoor
