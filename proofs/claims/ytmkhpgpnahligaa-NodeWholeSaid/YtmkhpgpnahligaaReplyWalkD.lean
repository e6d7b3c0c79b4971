/-
  Layer 8, walks: results without lists (written by wip/tools/genbare.py). Condition: results at a block of their own.
-/
import Derived.Test.YtmkhpgpnahligaaApiReply
import Derived.Test.YtmkhpgpnahligaaReplyWalkA
import Derived.Test.YtmkhpgpnahligaaReplyWalkC
import Derived.Test.YtmkhpgpnahligaaAttrReadB
import Derived.StillTailTactics
namespace Go.Proofs.Ytmkhpgpnahligaa
open Go.RowKit
attribute [local go_sem ↓] Go.wp_at_zero Go.wp_at_succ
attribute [local go_sem] rowAt_ptr rowOf_drew rowOf_drewN rowOf_alloc_past rowOf_new
attribute [local go_sem ↓] ldPost ldWcc

attribute [local go_sem] Reply.at0 Reply.lat0 Reply.at1 Reply.lat1 Reply.at2 Reply.lat2 Reply.at3 Reply.lat3 Reply.at4 Reply.lat4 Reply.at5 Reply.lat5 Reply.at6 Reply.lat6 Reply.at7 Reply.lat7 Reply.at8 Reply.lat8 Reply.at9 Reply.lat9 Reply.at10 Reply.lat10 Reply.at11 Reply.lat11 Reply.at12 Reply.lat12 Reply.at13 Reply.lat13 Reply.at14 Reply.lat14 Reply.at15 Reply.lat15 Reply.at16 Reply.lat16 Reply.at17 Reply.lat17 Reply.at18 Reply.lat18 Reply.at19 Reply.lat19 Reply.at20 Reply.lat20 Reply.at21 Reply.lat21 Reply.at22 Reply.lat22 Reply.at23 Reply.lat23 Reply.at24 Reply.lat24 Reply.at25 Reply.lat25 Reply.at26 Reply.lat26 Reply.at27 Reply.lat27 Reply.at28 Reply.lat28 Reply.at29 Reply.lat29 Reply.at30 Reply.lat30 Reply.at31 Reply.lat31 Reply.at32 Reply.lat32 Reply.at33 Reply.lat33 Reply.at34 Reply.lat34 Reply.at35 Reply.lat35 Reply.at36 Reply.lat36 Reply.at37 Reply.lat37 Reply.at38 Reply.lat38 Reply.at39 Reply.lat39 Reply.at40 Reply.lat40 Reply.at41 Reply.lat41 Reply.at42 Reply.lat42 Reply.at43 Reply.lat43 Reply.at44 Reply.lat44 Reply.at45 Reply.lat45 Reply.at46 Reply.lat46 Reply.at47 Reply.lat47 Reply.at48 Reply.lat48 Reply.at49 Reply.lat49 Reply.at50 Reply.lat50 Reply.at51 Reply.lat51 Reply.at52 Reply.lat52 Reply.at53 Reply.lat53 Reply.at54 Reply.lat54 Reply.at55 Reply.lat55 Reply.at56 Reply.lat56 Reply.at57 Reply.lat57 Reply.sub0_58 Reply.lsub0_58 Reply.sub2_11 Reply.lsub2_11 Reply.sub3_10 Reply.lsub3_10 Reply.sub13_11 Reply.lsub13_11 Reply.sub14_10 Reply.lsub14_10 Reply.sub24_13 Reply.lsub24_13 Reply.sub24_2 Reply.lsub24_2 Reply.sub26_11 Reply.lsub26_11 Reply.sub27_10 Reply.lsub27_10 Reply.sub37_13 Reply.lsub37_13 Reply.sub37_2 Reply.lsub37_2 Reply.sub39_11 Reply.lsub39_11 Reply.sub40_10 Reply.lsub40_10 Reply.len Post.at0 Post.lat0 Post.at1 Post.lat1 Post.at2 Post.lat2 Post.at3 Post.lat3 Post.at4 Post.lat4 Post.at5 Post.lat5 Post.at6 Post.lat6 Post.at7 Post.lat7 Post.at8 Post.lat8 Post.at9 Post.lat9 Post.at10 Post.lat10 Post.sub0_11 Post.lsub0_11 Post.sub1_10 Post.lsub1_10 Post.len Wcc.at0 Wcc.lat0 Wcc.at1 Wcc.lat1 Wcc.at2 Wcc.lat2 Wcc.at3 Wcc.lat3 Wcc.at4 Wcc.lat4 Wcc.at5 Wcc.lat5 Wcc.at6 Wcc.lat6 Wcc.at7 Wcc.lat7 Wcc.at8 Wcc.lat8 Wcc.at9 Wcc.lat9 Wcc.at10 Wcc.lat10 Wcc.at11 Wcc.lat11 Wcc.at12 Wcc.lat12 Wcc.sub0_13 Wcc.lsub0_13 Wcc.sub0_2 Wcc.lsub0_2 Wcc.sub2_11 Wcc.lsub2_11 Wcc.sub3_10 Wcc.lsub3_10 Wcc.len

def Reply.bare (r : Reply) : Flds := ⟨r.status, r.fh, r.data, r.obj, r.dir, r.wcc, r.wcc2, r.access, r.count, r.stable, r.verf, r.eof⟩
def fldsZ : Flds := (Flds.mk 0 [] [] ⟨false, ⟨0, 0, 0, 0, 0, 0, 0, 0, 0, 0⟩⟩ ⟨false, ⟨0, 0, 0, 0, 0, 0, 0, 0, 0, 0⟩⟩ ⟨⟨false, 0⟩, ⟨false, ⟨0, 0, 0, 0, 0, 0, 0, 0, 0, 0⟩⟩⟩ ⟨⟨false, 0⟩, ⟨false, ⟨0, 0, 0, 0, 0, 0, 0, 0, 0, 0⟩⟩⟩ 0 0 0 0 false)
theorem infoFlds : (Try.prog.info? 67).map (fun i => (i.zero, i.size)) = some (some (.agg fldsZ.vals.toArray), 56) := by kernel_rfl

set_option maxRecDepth 20000 in
set_option maxHeartbeats 3200000 in
theorem bare8_any (b : Nat) (r : Reply) (w : World) (hB : Blk w b 46 r.vals) : Calls Try.prog 34 #[.pointer (some ⟨b, 0, none⟩)] w fun e w' => e = .returned (.agg r.bare.vals.toArray) ∧ Below w.heap.size w w' := by
  have hcx := hB.cell
  have hlt := hB.lt
  have r2 : rowOf w b 2 11 = some #[.bool r.obj.is, .int .i64 r.obj.attr.type, .int .i64 r.obj.attr.mode, .int .i64 r.obj.attr.nlink, .int .i64 r.obj.attr.uid, .int .i64 r.obj.attr.gid, .int .i64 r.obj.attr.size, .int .i64 r.obj.attr.id, .int .i64 r.obj.attr.gen, .int .i64 r.obj.attr.change, .int .i64 r.obj.attr.time] := hB.row 2 11 (by simp [Reply.len])
  have r13 : rowOf w b 13 11 = some #[.bool r.dir.is, .int .i64 r.dir.attr.type, .int .i64 r.dir.attr.mode, .int .i64 r.dir.attr.nlink, .int .i64 r.dir.attr.uid, .int .i64 r.dir.attr.gid, .int .i64 r.dir.attr.size, .int .i64 r.dir.attr.id, .int .i64 r.dir.attr.gen, .int .i64 r.dir.attr.change, .int .i64 r.dir.attr.time] := hB.row 13 11 (by simp [Reply.len])
  have r24 : rowOf w b 24 13 = some #[.bool r.wcc.before.is, .int .i64 r.wcc.before.n, .bool r.wcc.after.is, .int .i64 r.wcc.after.attr.type, .int .i64 r.wcc.after.attr.mode, .int .i64 r.wcc.after.attr.nlink, .int .i64 r.wcc.after.attr.uid, .int .i64 r.wcc.after.attr.gid, .int .i64 r.wcc.after.attr.size, .int .i64 r.wcc.after.attr.id, .int .i64 r.wcc.after.attr.gen, .int .i64 r.wcc.after.attr.change, .int .i64 r.wcc.after.attr.time] := hB.row 24 13 (by simp [Reply.len])
  have r37 : rowOf w b 37 13 = some #[.bool r.wcc2.before.is, .int .i64 r.wcc2.before.n, .bool r.wcc2.after.is, .int .i64 r.wcc2.after.attr.type, .int .i64 r.wcc2.after.attr.mode, .int .i64 r.wcc2.after.attr.nlink, .int .i64 r.wcc2.after.attr.uid, .int .i64 r.wcc2.after.attr.gid, .int .i64 r.wcc2.after.attr.size, .int .i64 r.wcc2.after.attr.id, .int .i64 r.wcc2.after.attr.gen, .int .i64 r.wcc2.after.attr.change, .int .i64 r.wcc2.after.attr.time] := hB.row 37 13 (by simp [Reply.len])
  have hst : Stb w (w.alloc (.cells fldsZ.vals.toArray 67)) := Stb.of ((Below.refl _ _).alloc (Nat.le_refl _) _)
  have hZ := Blk.new w 67 fldsZ.vals
  obtain ⟨q, hq⟩ : ∃ q, q = w.heap.size := ⟨_, rfl⟩
  obtain ⟨w1, hw1⟩ : ∃ u, u = w.alloc (.cells fldsZ.vals.toArray 67) := ⟨_, rfl⟩
  rw [← hw1] at hst hZ
  have HW1 := Lib.hid hw1
  have HB := Lib.hid (Below.setWhole hst.below.drew (Nat.le_refl _) r.bare.vals)
  have hc1 : ∀ i, w1.cell? ⟨b, i, none⟩ = r.vals[i]? := fun i => (hst.1 _ _ hlt).trans (hcx i)
  have q2 := (hst.2.1 _ 2 11 hlt).trans r2
  have q13 := (hst.2.1 _ 13 11 hlt).trans r13
  have q24 := (hst.2.1 _ 24 13 hlt).trans r24
  have q37 := (hst.2.1 _ 37 13 hlt).trans r37
  clear hw1 hq hst hcx r2 r13 r24 r37
  go_enter Try.func34, Try.ntmps34
  go_wp2_with fail
  change Code.wp _ _ _ _ (w.alloc (.cells fldsZ.vals.toArray 67))
  rw [← HW1.out]
  go_still_tail 49, (by kernel_rfl)
  change wpList _ _ _ _ _ w1.drew
  have hZd := hZ.drew
  go_wp2_with (first | (refine wpList_store_whole (by rfl) 67 _ _ (by rfl) w.heap.size r.bare.vals _ hZd (by rfl) (by rfl) (by rfl) (by kernel_rfl) (Flds.one _) ?_) | fail)
  exact ret_cells w.heap.size 0 r.bare.vals Try.results34 Try.underlying67 rfl (by kernel_rfl) rfl (hZd.whole (by rfl)).range rfl ⟨rfl, HB.out⟩
end Go.Proofs.Ytmkhpgpnahligaa
