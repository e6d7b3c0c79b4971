/-
  Layer 22, walks: what is asked, the simple procedures (written by wip/tools/genlook.py). Conditions: a node's bytes are few.
-/
import Derived.Test.YtgifmpobokaejaaGreatDoorF28
import Derived.Test.YtgifmpobokaejaaGreatDoorF29
namespace Go.Proofs.YtgifmpobokaejaaGreatDoor
open Go.RowKit
attribute [local go_sem ↓] Go.wp_at_zero Go.wp_at_succ
attribute [local go_sem] rowAt_ptr rowOf_drew rowOf_drewN rowOf_alloc_past rowOf_new
attribute [local go_sem ↓] ldAsk22 ldNode22 ldCred6 ldAttrR ldTree22 ldCall

/-- a node's bytes -/
def dataL (n : Nd) : List UInt8 := n.data.data.toList
theorem dataL_is (n : Nd) : n.data = bs (dataL n) := (bs_list n.data).symm
theorem retReply22 {w W : World} {z : Reply} (bR : Blk W (w.heap.size + 1) 48 replyZ.vals) (hB : Below w.heap.size w W) : Blk (W.setCells (w.heap.size + 1) 0 z.vals) (w.heap.size + 1) 48 z.vals ∧ Below w.heap.size w (W.setCells (w.heap.size + 1) 0 z.vals) :=
  ⟨bR.whole (by rfl), Below.setWhole hB (Nat.le_succ _) _⟩

set_option maxRecDepth 20000 in
set_option maxHeartbeats 1600000 in
theorem askNothing_any (t : Tr) (u : Cred) (c : Call) (n : Nd) (w : World) : Calls Tryz.prog 70 #[.agg (askV t u c n).toArray] w fun e w' => e = .returned (.agg (replyZ).vals.toArray) ∧ Below w.heap.size w w' := by
  obtain ⟨bA, bR, hB, hs⟩ := chain2_blks w (askV t u c n) replyZ.vals 76 48
  obtain ⟨w1, hw1⟩ : ∃ V, V = (w.alloc (.cells (askV t u c n).toArray 76)).alloc (.cells replyZ.vals.toArray 48) := ⟨_, rfl⟩
  rw [← hw1] at bA bR hB hs
  have HW1 := Lib.hid hw1
  have hlA := bA.lt
  clear hw1 bA hs
  obtain ⟨z, hz⟩ : ∃ z : Reply, z = replyZ := ⟨_, rfl⟩
  rw [← hz]
  have HZ := Lib.hid hz
  clear hz
  go_enter Tryz.func70, Tryz.ntmps70
  go_upto_region 1 with fail
  change Code.wp _ _ _ _ ((w.alloc (.cells (askV t u c n).toArray 76)).alloc (.cells replyZ.vals.toArray 48))
  rw [← HW1.out]
  have HR := Lib.hid (retReply22 (z := z) bR hB)
  go_wp2_with (first | (refine wpList_store_whole (by rfl) 48 _ _ (by rfl) (w.heap.size + 1) z.vals _ bR (by rfl) (by rfl) (by first | rfl | (rw [HZ.out]; done) | (rw [HZ.out]; rfl)) (by kernel_rfl) (Reply.one _) ?_) | fail)
  exact ret_cells (w.heap.size + 1) 0 z.vals Tryz.results70 Tryz.underlying48 rfl (by kernel_rfl) rfl HR.out.1.range rfl ⟨rfl, HR.out.2⟩
set_option maxRecDepth 20000 in
set_option maxHeartbeats 1600000 in
theorem askAccess_any (t : Tr) (u : Cred) (c : Call) (n : Nd) (w : World) : Calls Tryz.prog 72 #[.agg (askV t u c n).toArray] w fun e w' => e = .returned (.agg (({ replyZ with access := accP n.attr u.uid u.gid c.how } : Reply)).vals.toArray) ∧ Below w.heap.size w w' := by
  obtain ⟨bA, bR, hB, hs⟩ := chain2_blks w (askV t u c n) replyZ.vals 76 48
  obtain ⟨w1, hw1⟩ : ∃ V, V = (w.alloc (.cells (askV t u c n).toArray 76)).alloc (.cells replyZ.vals.toArray 48) := ⟨_, rfl⟩
  rw [← hw1] at bA bR hB hs
  have r0 : rowOf w1 w.heap.size 34 10 = some n.attr.vals.toArray := bA.row 34 10 (by rw [askV_len]; omega)
  have r1 : rowOf w1 w.heap.size 6 4 = some u.vals.toArray := bA.row 6 4 (by rw [askV_len]; omega)
  have c17 : w1.cell? ⟨w.heap.size, 17, none⟩ = some (.int .i64 c.how) := bA.cell 17
  have K := Lib.hid (fun W => access6_any n.attr u c.how W)
  generalize accP n.attr u.uid u.gid c.how = ac at *
  have HW1 := Lib.hid hw1
  have hlA := bA.lt
  clear hw1 bA hs
  obtain ⟨z, hz⟩ : ∃ z : Reply, z = ({ replyZ with access := ac } : Reply) := ⟨_, rfl⟩
  rw [← hz]
  have HZ := Lib.hid hz
  clear hz
  go_enter Tryz.func72, Tryz.ntmps72
  go_upto_region 1 with fail
  change Code.wp _ _ _ _ ((w.alloc (.cells (askV t u c n).toArray 76)).alloc (.cells replyZ.vals.toArray 48))
  rw [← HW1.out]
  go_wp2_with fail
  refine (K.out _).mono ?_
  rintro e w2 ⟨rfl, hb⟩
  replace bR := bR.stays hb
  have hB2 := below_then hB hb
  clear hb
  have HR := Lib.hid (retReply22 (z := z) bR hB2)
  go_wp2_with (first | (refine wpList_store_whole (by rfl) 48 _ _ (by rfl) (w.heap.size + 1) z.vals _ bR (by rfl) (by rfl) (by first | rfl | (rw [HZ.out]; done) | (rw [HZ.out]; rfl)) (by kernel_rfl) (Reply.one _) ?_) | fail)
  exact ret_cells (w.heap.size + 1) 0 z.vals Tryz.results72 Tryz.underlying48 rfl (by kernel_rfl) rfl HR.out.1.range rfl ⟨rfl, HR.out.2⟩
def linkR (n : Nd) : Reply := if n.attr.type = 5 then { replyZ with data := dataL n } else statR 22
set_option maxRecDepth 20000 in
set_option maxHeartbeats 1600000 in
theorem askReadlink_any (t : Tr) (u : Cred) (c : Call) (n : Nd) (w : World) : Calls Tryz.prog 73 #[.agg (askV t u c n).toArray] w fun e w' => e = .returned (.agg (linkR n).vals.toArray) ∧ Below w.heap.size w w' := by
  obtain ⟨bA, bR, hB, hs⟩ := chain2_blks w (askV t u c n) replyZ.vals 76 48
  obtain ⟨w1, hw1⟩ : ∃ V, V = (w.alloc (.cells (askV t u c n).toArray 76)).alloc (.cells replyZ.vals.toArray 48) := ⟨_, rfl⟩
  rw [← hw1] at bA bR hB hs
  have c34 : w1.cell? ⟨w.heap.size, 34, none⟩ = some (.int .i64 n.attr.type) := bA.cell 34
  have c44 : w1.cell? ⟨w.heap.size, 44, none⟩ = some (.string (bs (dataL n))) := by rw [← dataL_is]; exact bA.cell 44
  have HL := Lib.hid (show linkR n = if n.attr.type = 5 then { replyZ with data := dataL n } else statR 22 from rfl)
  generalize linkR n = lr at *
  generalize dataL n = d at *
  generalize n.attr.type = ty at *
  have HW1 := Lib.hid hw1
  have hlA := bA.lt
  clear hw1 bA hs
  by_cases h5 : ty = 5
  · have HQ := Lib.hid (HL.out.trans (if_pos h5))
    subst h5
    obtain ⟨z, hz⟩ : ∃ z : Reply, z = ({ replyZ with data := d } : Reply) := ⟨_, rfl⟩
    rw [HQ.out, ← hz]
    have HZ := Lib.hid hz
    clear hz
    go_enter Tryz.func73, Tryz.ntmps73
    go_upto_region 1 with fail
    change Code.wp _ _ _ _ ((w.alloc (.cells (askV t u c n).toArray 76)).alloc (.cells replyZ.vals.toArray 48))
    rw [← HW1.out]
    have HR := Lib.hid (retReply22 (z := z) bR hB)
    go_wp2_with (first | (refine wpList_store_whole (by rfl) 48 _ _ (by rfl) (w.heap.size + 1) z.vals _ bR (by rfl) (by rfl) (by first | rfl | (rw [HZ.out]; done) | (rw [HZ.out]; rfl)) (by kernel_rfl) (Reply.one _) ?_) | fail)
    exact ret_cells (w.heap.size + 1) 0 z.vals Tryz.results73 Tryz.underlying48 rfl (by kernel_rfl) rfl HR.out.1.range rfl ⟨rfl, HR.out.2⟩
  · have HQ := Lib.hid (HL.out.trans (if_neg h5))
    have h5' : (ty != 5) = true := by simpa using h5
    obtain ⟨z, hz⟩ : ∃ z : Reply, z = statR 22 := ⟨_, rfl⟩
    rw [HQ.out, ← hz]
    have HZ := Lib.hid hz
    clear hz
    go_enter Tryz.func73, Tryz.ntmps73
    go_upto_region 1 with fail
    change Code.wp _ _ _ _ ((w.alloc (.cells (askV t u c n).toArray 76)).alloc (.cells replyZ.vals.toArray 48))
    rw [← HW1.out]
    go_wp2_with fail
    refine (lookStatus_any 22 _).mono ?_
    rintro e wz ⟨rfl, hbz⟩
    replace bR := bR.stays hbz
    have hBz := below_then hB hbz
    clear hbz
    have HR := Lib.hid (retReply22 (z := z) bR hBz)
    go_wp2_with (first | (refine wpList_store_whole (by rfl) 48 _ _ (by rfl) (w.heap.size + 1) z.vals _ bR (by rfl) (by rfl) (by first | rfl | (rw [HZ.out]; done) | (rw [HZ.out]; rfl)) (by kernel_rfl) (Reply.one _) ?_) | fail)
    exact ret_cells (w.heap.size + 1) 0 z.vals Tryz.results73 Tryz.underlying48 rfl (by kernel_rfl) rfl HR.out.1.range rfl ⟨rfl, HR.out.2⟩
def readR (n : Nd) (u : Cred) (c : Call) : Reply := if fileSt n u 4 = 0 then { replyZ with data := (nRead (dataL n) c.offset c.count).1, eof := (nRead (dataL n) c.offset c.count).2 } else statR (fileSt n u 4)
set_option maxRecDepth 20000 in
set_option maxHeartbeats 1600000 in
theorem askRead_any (t : Tr) (u : Cred) (c : Call) (n : Nd) (w : World) (hd : (dataL n).length ≤ 1048576) (hg : c.good) : Calls Tryz.prog 74 #[.agg (askV t u c n).toArray] w fun e w' => e = .returned (.agg (readR n u c).vals.toArray) ∧ Below w.heap.size w w' := by
  obtain ⟨bA, bR, hB, hs⟩ := chain2_blks w (askV t u c n) replyZ.vals 76 48
  obtain ⟨w1, hw1⟩ : ∃ V, V = (w.alloc (.cells (askV t u c n).toArray 76)).alloc (.cells replyZ.vals.toArray 48) := ⟨_, rfl⟩
  rw [← hw1] at bA bR hB hs
  have c44 : w1.cell? ⟨w.heap.size, 44, none⟩ = some (.string (bs (dataL n))) := by rw [← dataL_is]; exact bA.cell 44
  have c15 : w1.cell? ⟨w.heap.size, 15, none⟩ = some (.int .i64 c.offset) := bA.cell 15
  have c16 : w1.cell? ⟨w.heap.size, 16, none⟩ = some (.int .i64 c.count) := bA.cell 16
  have r0 : rowOf w1 w.heap.size 0 49 = some (askV t u c n).toArray := by
    have := bA.row 0 49 (by rw [askV_len]; omega)
    rwa [show ((askV t u c n).drop 0).take 49 = askV t u c n from rfl] at this
  have K := Lib.hid (fun W => askFile_any t u c n 4 W)
  have KR := Lib.hid (fun W => nread_any (dataL n) c.offset c.count W hd (Go.bounds_i64 hg.2.2.2.2.2.1) (Go.bounds_i64 hg.2.2.2.2.2.2.1))
  have HL := Lib.hid (show readR n u c = if fileSt n u 4 = 0 then { replyZ with data := (nRead (dataL n) c.offset c.count).1, eof := (nRead (dataL n) c.offset c.count).2 } else statR (fileSt n u 4) from rfl)
  generalize readR n u c = lr at *
  generalize nRead (dataL n) c.offset c.count = rd at *
  generalize dataL n = d at *
  have HW1 := Lib.hid hw1
  have hlA := bA.lt
  clear hw1 bA hs
  obtain ⟨rd1, rd2⟩ := rd
  simp only at HL KR
  generalize fileSt n u 4 = st at *
  by_cases h0 : st = 0
  · have HQ := Lib.hid (HL.out.trans (if_pos h0))
    subst h0
    obtain ⟨z, hz⟩ : ∃ z : Reply, z = ({ replyZ with data := rd1, eof := rd2 } : Reply) := ⟨_, rfl⟩
    rw [HQ.out, ← hz]
    have HZ := Lib.hid hz
    clear hz
    go_enter Tryz.func74, Tryz.ntmps74
    go_upto_region 1 with fail
    change Code.wp _ _ _ _ ((w.alloc (.cells (askV t u c n).toArray 76)).alloc (.cells replyZ.vals.toArray 48))
    rw [← HW1.out]
    go_wp2_with fail
    refine (K.out _).mono ?_
    rintro e w2 ⟨rfl, hb⟩
    have c44 := (hb.cell (p := ⟨w.heap.size, 44, none⟩) hlA).trans c44
    have c15 := (hb.cell (p := ⟨w.heap.size, 15, none⟩) hlA).trans c15
    have c16 := (hb.cell (p := ⟨w.heap.size, 16, none⟩) hlA).trans c16
    replace bR := bR.stays hb
    have hB2 := below_then hB hb
    clear hb
    go_wp2_with fail
    refine (KR.out _).mono ?_
    rintro e w3 ⟨rfl, rfl⟩
    have HR := Lib.hid (retReply22 (z := z) bR hB2)
    go_wp2_with (first | (refine wpList_store_whole (by rfl) 48 _ _ (by rfl) (w.heap.size + 1) z.vals _ bR (by rfl) (by rfl) (by first | rfl | (rw [HZ.out]; done) | (rw [HZ.out]; rfl)) (by kernel_rfl) (Reply.one _) ?_) | fail)
    exact ret_cells (w.heap.size + 1) 0 z.vals Tryz.results74 Tryz.underlying48 rfl (by kernel_rfl) rfl HR.out.1.range rfl ⟨rfl, HR.out.2⟩
  · have HQ := Lib.hid (HL.out.trans (if_neg h0))
    have h0' : (st != 0) = true := by simpa using h0
    obtain ⟨z, hz⟩ : ∃ z : Reply, z = statR st := ⟨_, rfl⟩
    rw [HQ.out, ← hz]
    have HZ := Lib.hid hz
    clear hz
    go_enter Tryz.func74, Tryz.ntmps74
    go_upto_region 1 with fail
    change Code.wp _ _ _ _ ((w.alloc (.cells (askV t u c n).toArray 76)).alloc (.cells replyZ.vals.toArray 48))
    rw [← HW1.out]
    go_wp2_with fail
    refine (K.out _).mono ?_
    rintro e w2 ⟨rfl, hb⟩
    replace bR := bR.stays hb
    have hB2 := below_then hB hb
    clear hb
    go_wp2_with fail
    refine (lookStatus_any st _).mono ?_
    rintro e wz ⟨rfl, hbz⟩
    replace bR := bR.stays hbz
    have hBz := below_then hB2 hbz
    clear hbz
    have HR := Lib.hid (retReply22 (z := z) bR hBz)
    go_wp2_with (first | (refine wpList_store_whole (by rfl) 48 _ _ (by rfl) (w.heap.size + 1) z.vals _ bR (by rfl) (by rfl) (by first | rfl | (rw [HZ.out]; done) | (rw [HZ.out]; rfl)) (by kernel_rfl) (Reply.one _) ?_) | fail)
    exact ret_cells (w.heap.size + 1) 0 z.vals Tryz.results74 Tryz.underlying48 rfl (by kernel_rfl) rfl HR.out.1.range rfl ⟨rfl, HR.out.2⟩
def commitR (n : Nd) (u : Cred) : Reply := if fileSt n u 2 = 0 then { replyZ with verf := 1 } else statR (fileSt n u 2)
set_option maxRecDepth 20000 in
set_option maxHeartbeats 1600000 in
theorem askCommit_any (t : Tr) (u : Cred) (c : Call) (n : Nd) (w : World) : Calls Tryz.prog 80 #[.agg (askV t u c n).toArray] w fun e w' => e = .returned (.agg (commitR n u).vals.toArray) ∧ Below w.heap.size w w' := by
  obtain ⟨bA, bR, hB, hs⟩ := chain2_blks w (askV t u c n) replyZ.vals 76 48
  obtain ⟨w1, hw1⟩ : ∃ V, V = (w.alloc (.cells (askV t u c n).toArray 76)).alloc (.cells replyZ.vals.toArray 48) := ⟨_, rfl⟩
  rw [← hw1] at bA bR hB hs
  have r0 : rowOf w1 w.heap.size 0 49 = some (askV t u c n).toArray := by
    have := bA.row 0 49 (by rw [askV_len]; omega)
    rwa [show ((askV t u c n).drop 0).take 49 = askV t u c n from rfl] at this
  have K := Lib.hid (fun W => askFile_any t u c n 2 W)
  have HL := Lib.hid (show commitR n u = if fileSt n u 2 = 0 then { replyZ with verf := 1 } else statR (fileSt n u 2) from rfl)
  generalize commitR n u = lr at *
  have HW1 := Lib.hid hw1
  have hlA := bA.lt
  clear hw1 bA hs
  generalize fileSt n u 2 = st at *
  by_cases h0 : st = 0
  · have HQ := Lib.hid (HL.out.trans (if_pos h0))
    subst h0
    obtain ⟨z, hz⟩ : ∃ z : Reply, z = ({ replyZ with verf := 1 } : Reply) := ⟨_, rfl⟩
    rw [HQ.out, ← hz]
    have HZ := Lib.hid hz
    clear hz
    go_enter Tryz.func80, Tryz.ntmps80
    go_upto_region 1 with fail
    change Code.wp _ _ _ _ ((w.alloc (.cells (askV t u c n).toArray 76)).alloc (.cells replyZ.vals.toArray 48))
    rw [← HW1.out]
    go_wp2_with fail
    refine (K.out _).mono ?_
    rintro e w2 ⟨rfl, hb⟩
    replace bR := bR.stays hb
    have hB2 := below_then hB hb
    clear hb
    have HR := Lib.hid (retReply22 (z := z) bR hB2)
    go_wp2_with (first | (refine wpList_store_whole (by rfl) 48 _ _ (by rfl) (w.heap.size + 1) z.vals _ bR (by rfl) (by rfl) (by first | rfl | (rw [HZ.out]; done) | (rw [HZ.out]; rfl)) (by kernel_rfl) (Reply.one _) ?_) | fail)
    exact ret_cells (w.heap.size + 1) 0 z.vals Tryz.results80 Tryz.underlying48 rfl (by kernel_rfl) rfl HR.out.1.range rfl ⟨rfl, HR.out.2⟩
  · have HQ := Lib.hid (HL.out.trans (if_neg h0))
    have h0' : (st != 0) = true := by simpa using h0
    obtain ⟨z, hz⟩ : ∃ z : Reply, z = statR st := ⟨_, rfl⟩
    rw [HQ.out, ← hz]
    have HZ := Lib.hid hz
    clear hz
    go_enter Tryz.func80, Tryz.ntmps80
    go_upto_region 1 with fail
    change Code.wp _ _ _ _ ((w.alloc (.cells (askV t u c n).toArray 76)).alloc (.cells replyZ.vals.toArray 48))
    rw [← HW1.out]
    go_wp2_with fail
    refine (K.out _).mono ?_
    rintro e w2 ⟨rfl, hb⟩
    replace bR := bR.stays hb
    have hB2 := below_then hB hb
    clear hb
    go_wp2_with fail
    refine (lookStatus_any st _).mono ?_
    rintro e wz ⟨rfl, hbz⟩
    replace bR := bR.stays hbz
    have hBz := below_then hB2 hbz
    clear hbz
    have HR := Lib.hid (retReply22 (z := z) bR hBz)
    go_wp2_with (first | (refine wpList_store_whole (by rfl) 48 _ _ (by rfl) (w.heap.size + 1) z.vals _ bR (by rfl) (by rfl) (by first | rfl | (rw [HZ.out]; done) | (rw [HZ.out]; rfl)) (by kernel_rfl) (Reply.one _) ?_) | fail)
    exact ret_cells (w.heap.size + 1) 0 z.vals Tryz.results80 Tryz.underlying48 rfl (by kernel_rfl) rfl HR.out.1.range rfl ⟨rfl, HR.out.2⟩
end Go.Proofs.YtgifmpobokaejaaGreatDoor
