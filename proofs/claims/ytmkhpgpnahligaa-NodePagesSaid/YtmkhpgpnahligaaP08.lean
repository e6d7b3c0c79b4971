/-
  Layer 8, walks: results without lists (written by wip/tools/genbare.py). Condition: results at a block of their own.
-/
import Derived.Test.YtmkhpgpnahligaaP03
import Derived.Test.YtmkhpgpnahligaaP04
import Derived.Test.YtmkhpgpnahligaaP05
import Derived.Test.YtmkhpgpnahligaaP07
import Derived.StillTailTactics
import Derived.Deep.WholeRow
namespace Go.Proofs.Ytmkhpgpnahligaa
open Go.RowKit
attribute [local go_sem ↓] Go.wp_at_zero Go.wp_at_succ
attribute [local go_sem] rowAt_ptr rowOf_drew rowOf_drewN rowOf_alloc_past rowOf_new
attribute [local go_sem ↓] ldPost ldWcc

attribute [local go_sem] Reply.at0 Reply.lat0 Reply.at1 Reply.lat1 Reply.at2 Reply.lat2 Reply.at3 Reply.lat3 Reply.at4 Reply.lat4 Reply.at5 Reply.lat5 Reply.at6 Reply.lat6 Reply.at7 Reply.lat7 Reply.at8 Reply.lat8 Reply.at9 Reply.lat9 Reply.at10 Reply.lat10 Reply.at11 Reply.lat11 Reply.at12 Reply.lat12 Reply.at13 Reply.lat13 Reply.at14 Reply.lat14 Reply.at15 Reply.lat15 Reply.at16 Reply.lat16 Reply.at17 Reply.lat17 Reply.at18 Reply.lat18 Reply.at19 Reply.lat19 Reply.at20 Reply.lat20 Reply.at21 Reply.lat21 Reply.at22 Reply.lat22 Reply.at23 Reply.lat23 Reply.at24 Reply.lat24 Reply.at25 Reply.lat25 Reply.at26 Reply.lat26 Reply.at27 Reply.lat27 Reply.at28 Reply.lat28 Reply.at29 Reply.lat29 Reply.at30 Reply.lat30 Reply.at31 Reply.lat31 Reply.at32 Reply.lat32 Reply.at33 Reply.lat33 Reply.at34 Reply.lat34 Reply.at35 Reply.lat35 Reply.at36 Reply.lat36 Reply.at37 Reply.lat37 Reply.at38 Reply.lat38 Reply.at39 Reply.lat39 Reply.at40 Reply.lat40 Reply.at41 Reply.lat41 Reply.at42 Reply.lat42 Reply.at43 Reply.lat43 Reply.at44 Reply.lat44 Reply.at45 Reply.lat45 Reply.at46 Reply.lat46 Reply.at47 Reply.lat47 Reply.at48 Reply.lat48 Reply.at49 Reply.lat49 Reply.at50 Reply.lat50 Reply.at51 Reply.lat51 Reply.at52 Reply.lat52 Reply.at53 Reply.lat53 Reply.at54 Reply.lat54 Reply.at55 Reply.lat55 Reply.at56 Reply.lat56 Reply.at57 Reply.lat57 Reply.sub0_58 Reply.lsub0_58 Reply.sub2_11 Reply.lsub2_11 Reply.sub3_10 Reply.lsub3_10 Reply.sub13_11 Reply.lsub13_11 Reply.sub14_10 Reply.lsub14_10 Reply.sub24_13 Reply.lsub24_13 Reply.sub24_2 Reply.lsub24_2 Reply.sub26_11 Reply.lsub26_11 Reply.sub27_10 Reply.lsub27_10 Reply.sub37_13 Reply.lsub37_13 Reply.sub37_2 Reply.lsub37_2 Reply.sub39_11 Reply.lsub39_11 Reply.sub40_10 Reply.lsub40_10 Reply.len Post.at0 Post.lat0 Post.at1 Post.lat1 Post.at2 Post.lat2 Post.at3 Post.lat3 Post.at4 Post.lat4 Post.at5 Post.lat5 Post.at6 Post.lat6 Post.at7 Post.lat7 Post.at8 Post.lat8 Post.at9 Post.lat9 Post.at10 Post.lat10 Post.sub0_11 Post.lsub0_11 Post.sub1_10 Post.lsub1_10 Post.len Wcc.at0 Wcc.lat0 Wcc.at1 Wcc.lat1 Wcc.at2 Wcc.lat2 Wcc.at3 Wcc.lat3 Wcc.at4 Wcc.lat4 Wcc.at5 Wcc.lat5 Wcc.at6 Wcc.lat6 Wcc.at7 Wcc.lat7 Wcc.at8 Wcc.lat8 Wcc.at9 Wcc.lat9 Wcc.at10 Wcc.lat10 Wcc.at11 Wcc.lat11 Wcc.at12 Wcc.lat12 Wcc.sub0_13 Wcc.lsub0_13 Wcc.sub0_2 Wcc.lsub0_2 Wcc.sub2_11 Wcc.lsub2_11 Wcc.sub3_10 Wcc.lsub3_10 Wcc.len

def Reply.bare (r : Reply) : Flds := ⟨r.status, r.fh, r.data, r.obj, r.dir, r.wcc, r.wcc2, r.access, r.count, r.stable, r.verf, r.eof⟩
def fldsZ : Flds := (Flds.mk 0 [] [] ⟨false, ⟨0, 0, 0, 0, 0, 0, 0, 0, 0, 0⟩⟩ ⟨false, ⟨0, 0, 0, 0, 0, 0, 0, 0, 0, 0⟩⟩ ⟨⟨false, 0⟩, ⟨false, ⟨0, 0, 0, 0, 0, 0, 0, 0, 0, 0⟩⟩⟩ ⟨⟨false, 0⟩, ⟨false, ⟨0, 0, 0, 0, 0, 0, 0, 0, 0, 0⟩⟩⟩ 0 0 0 0 false)
theorem infoFlds : (Try.prog.info? 67).map (fun i => (i.zero, i.size)) = some (some (.agg fldsZ.vals.toArray), 56) := by kernel_rfl

set_option maxRecDepth 20000 in
set_option maxHeartbeats 3200000 in
theorem bare8_any (b : Nat) (r : Reply) (w : World) (hB : Blk w b 46 r.vals) : Calls Try.prog 34 #[.pointer (some ⟨b, 0, none⟩)] w fun e w' => e = .returned (.agg r.bare.vals.toArray) ∧ Below w.heap.size w w' := by
  have hcx := hB.cell
  have hlt := hB.lt
  have r2 : rowOf w b 2 11 = some #[.bool r.obj.is, .int .i64 r.obj.attr.type, .int .i64 r.obj.attr.mode, .int .i64 r.obj.attr.nlink, .int .i64 r.obj.attr.uid, .int .i64 r.obj.attr.gid, .int .i64 r.obj.attr.size, .int .i64 r.obj.attr.id, .int .i64 r.obj.attr.gen, .int .i64 r.obj.attr.change, .int .i64 r.obj.attr.time] := hB.row 2 11 (by simp [Reply.len])
  have r13 : rowOf w b 13 11 = some #[.bool r.dir.is, .int .i64 r.dir.attr.type, .int .i64 r.dir.attr.mode, .int .i64 r.dir.attr.nlink, .int .i64 r.dir.attr.uid, .int .i64 r.dir.attr.gid, .int .i64 r.dir.attr.size, .int .i64 r.dir.attr.id, .int .i64 r.dir.attr.gen, .int .i64 r.dir.attr.change, .int .i64 r.dir.attr.time] := hB.row 13 11 (by simp [Reply.len])
  have r24 : rowOf w b 24 13 = some #[.bool r.wcc.before.is, .int .i64 r.wcc.before.n, .bool r.wcc.after.is, .int .i64 r.wcc.after.attr.type, .int .i64 r.wcc.after.attr.mode, .int .i64 r.wcc.after.attr.nlink, .int .i64 r.wcc.after.attr.uid, .int .i64 r.wcc.after.attr.gid, .int .i64 r.wcc.after.attr.size, .int .i64 r.wcc.after.attr.id, .int .i64 r.wcc.after.attr.gen, .int .i64 r.wcc.after.attr.change, .int .i64 r.wcc.after.attr.time] := hB.row 24 13 (by simp [Reply.len])
  have r37 : rowOf w b 37 13 = some #[.bool r.wcc2.before.is, .int .i64 r.wcc2.before.n, .bool r.wcc2.after.is, .int .i64 r.wcc2.after.attr.type, .int .i64 r.wcc2.after.attr.mode, .int .i64 r.wcc2.after.attr.nlink, .int .i64 r.wcc2.after.attr.uid, .int .i64 r.wcc2.after.attr.gid, .int .i64 r.wcc2.after.attr.size, .int .i64 r.wcc2.after.attr.id, .int .i64 r.wcc2.after.attr.gen, .int .i64 r.wcc2.after.attr.change, .int .i64 r.wcc2.after.attr.time] := hB.row 37 13 (by simp [Reply.len])
  have hst : Stb w (w.alloc (.cells fldsZ.vals.toArray 67)) := Stb.of ((Below.refl _ _).alloc (Nat.le_refl _) _)
  have hZ := Blk.new w 67 fldsZ.vals
  obtain ⟨q, hq⟩ : ∃ q, q = w.heap.size := ⟨_, rfl⟩
  obtain ⟨w1, hw1⟩ : ∃ u, u = w.alloc (.cells fldsZ.vals.toArray 67) := ⟨_, rfl⟩
  rw [← hw1] at hst hZ
  have HW1 := Lib.hid hw1
  have HB := Lib.hid (Below.setWhole hst.below.drew (Nat.le_refl _) r.bare.vals)
  have hc1 : ∀ i, w1.cell? ⟨b, i, none⟩ = r.vals[i]? := fun i => (hst.1 _ _ hlt).trans (hcx i)
  have q2 := (hst.2.1 _ 2 11 hlt).trans r2
  have q13 := (hst.2.1 _ 13 11 hlt).trans r13
  have q24 := (hst.2.1 _ 24 13 hlt).trans r24
  have q37 := (hst.2.1 _ 37 13 hlt).trans r37
  clear hw1 hq hst hcx r2 r13 r24 r37
  go_enter Try.func34, Try.ntmps34
  go_wp2_with fail
  change Code.wp _ _ _ _ (w.alloc (.cells fldsZ.vals.toArray 67))
  rw [← HW1.out]
  go_still_tail 49, (by kernel_rfl)
  change wpList _ _ _ _ _ w1.drew
  have hZd := hZ.drew
  go_wp2_with (first | (refine wpList_store_whole (by rfl) 67 _ _ (by rfl) w.heap.size r.bare.vals _ hZd (by rfl) (by rfl) (by rfl) (by kernel_rfl) (Flds.one _) ?_) | fail)
  exact ret_cells w.heap.size 0 r.bare.vals Try.results34 Try.underlying67 rfl (by kernel_rfl) rfl (hZd.whole (by rfl)).range rfl ⟨rfl, HB.out⟩
end Go.Proofs.Ytmkhpgpnahligaa

/-
  Layer 8, walks: are results the same (with what is told of their lists); what must come of fixed calls; the law ReplyFields. No condition.
-/
namespace Go.Proofs.Ytmkhpgpnahligaa
open Go.RowKit
attribute [local go_sem ↓] Go.wp_at_zero Go.wp_at_succ
attribute [local go_sem] rowAt_ptr rowOf_drew rowOf_drewN rowOf_alloc_past rowOf_new
theorem ldReply {ρ : Operand → Value} {w : World} {dst : Option Tmp} {ty : TypeId} {pos : String} {after : Array Edge} {g : Option (Nat × Bool)} {x : Operand} (h : (rowAt w 58 (ρ x)).isSome = true) :
    (execOp ρ ⟨dst, .load 46 x, ty, pos, after, g⟩).run Try.prog w = .ok (.value (.agg ((rowAt w 58 (ρ x)).getD #[]))) w := ex_load 46 58 Try.underlying46 rfl (by kernel_rfl) h
attribute [local go_sem ↓] ldReply

attribute [local go_sem] Reply.at0 Reply.lat0 Reply.at1 Reply.lat1 Reply.at2 Reply.lat2 Reply.at3 Reply.lat3 Reply.at4 Reply.lat4 Reply.at5 Reply.lat5 Reply.at6 Reply.lat6 Reply.at7 Reply.lat7 Reply.at8 Reply.lat8 Reply.at9 Reply.lat9 Reply.at10 Reply.lat10 Reply.at11 Reply.lat11 Reply.at12 Reply.lat12 Reply.at13 Reply.lat13 Reply.at14 Reply.lat14 Reply.at15 Reply.lat15 Reply.at16 Reply.lat16 Reply.at17 Reply.lat17 Reply.at18 Reply.lat18 Reply.at19 Reply.lat19 Reply.at20 Reply.lat20 Reply.at21 Reply.lat21 Reply.at22 Reply.lat22 Reply.at23 Reply.lat23 Reply.at24 Reply.lat24 Reply.at25 Reply.lat25 Reply.at26 Reply.lat26 Reply.at27 Reply.lat27 Reply.at28 Reply.lat28 Reply.at29 Reply.lat29 Reply.at30 Reply.lat30 Reply.at31 Reply.lat31 Reply.at32 Reply.lat32 Reply.at33 Reply.lat33 Reply.at34 Reply.lat34 Reply.at35 Reply.lat35 Reply.at36 Reply.lat36 Reply.at37 Reply.lat37 Reply.at38 Reply.lat38 Reply.at39 Reply.lat39 Reply.at40 Reply.lat40 Reply.at41 Reply.lat41 Reply.at42 Reply.lat42 Reply.at43 Reply.lat43 Reply.at44 Reply.lat44 Reply.at45 Reply.lat45 Reply.at46 Reply.lat46 Reply.at47 Reply.lat47 Reply.at48 Reply.lat48 Reply.at49 Reply.lat49 Reply.at50 Reply.lat50 Reply.at51 Reply.lat51 Reply.at52 Reply.lat52 Reply.at53 Reply.lat53 Reply.at54 Reply.lat54 Reply.at55 Reply.lat55 Reply.at56 Reply.lat56 Reply.at57 Reply.lat57 Reply.sub0_58 Reply.lsub0_58 Reply.sub2_11 Reply.lsub2_11 Reply.sub3_10 Reply.lsub3_10 Reply.sub13_11 Reply.lsub13_11 Reply.sub14_10 Reply.lsub14_10 Reply.sub24_13 Reply.lsub24_13 Reply.sub24_2 Reply.lsub24_2 Reply.sub26_11 Reply.lsub26_11 Reply.sub27_10 Reply.lsub27_10 Reply.sub37_13 Reply.lsub37_13 Reply.sub37_2 Reply.lsub37_2 Reply.sub39_11 Reply.lsub39_11 Reply.sub40_10 Reply.lsub40_10 Reply.len

def postZ8 : Post := ⟨false, ⟨0, 0, 0, 0, 0, 0, 0, 0, 0, 0⟩⟩
def replyZ : Reply := ⟨0, [], postZ8, postZ8, ⟨⟨false, 0⟩, postZ8⟩, ⟨⟨false, 0⟩, postZ8⟩, 0, 0, false, [], 0, 0, none, 0, 0, none, 0, 0⟩
theorem infoReply : (Try.prog.info? 46).map (fun i => (i.zero, i.size)) = some (some (.agg replyZ.vals.toArray), 58) := by kernel_rfl
theorem guardFlds : Try.prog.eqGuardType Try.prog.depth 67 = false := by kernel_rfl
def lfPost8 : List Leaf := .b :: List.replicate 10 (.i .i64)
def lfWcc8 : List Leaf := .b :: .i .i64 :: lfPost8
def lfFlds : List Leaf := [.i .i64, .s, .s] ++ lfPost8 ++ lfPost8 ++ lfWcc8 ++ lfWcc8 ++ [.i .i64, .i .i64, .i .i64, .i .i64, .b]
theorem leafsFlds : leafs Try.prog 8 67 = some lfFlds := by kernel_rfl
theorem Attr.inj8 {x y : Attr} (h : x.vals = y.vals) : x = y := by
  obtain ⟨_, _, _, _, _, _, _, _, _, _⟩ := x
  obtain ⟨_, _, _, _, _, _, _, _, _, _⟩ := y
  simp only [Attr.vals, List.cons.injEq, Value.int.injEq, true_and, and_true] at h
  obtain ⟨h0, h1, h2, h3, h4, h5, h6, h7, h8, h9⟩ := h
  subst_vars
  rfl
theorem there8_any (p : Int) (w : World) (h : 0 ≤ p ∧ p ≤ 21) : Calls Try.prog 43 #[.int .i64 p] w fun e w' => e = .returned (.bool true) ∧ w = w' := by
  obtain ⟨h1, h2⟩ := h
  go_enter Try.func43, Try.ntmps43
  go_wp2
  all_goals (go_ret; go_light; exact ⟨ret_bool (by grind), rfl⟩)
set_option maxHeartbeats 800000 in
theorem equalE_nil (w : World) : Calls Try.prog 32 #[.slice none 0 0, .slice none 0 0] w fun e w' => e = .returned (.bool true) ∧ w = w' := by
  go_enter Try.func32, Try.ntmps32
  go_wp2
  go_loopw [13] (fun iv wr => iv = .int .i64 0 ∧ wr = w) (fun _ _ => 0)
  case atStart => exact ⟨rfl, rfl⟩
  case round =>
    obtain ⟨rfl, rfl⟩ := hrel
    go_wp2
    go_ret
    exact ⟨rfl, rfl⟩
set_option maxHeartbeats 800000 in
theorem equalI_nil (w : World) : Calls Try.prog 33 #[.slice none 0 0, .slice none 0 0] w fun e w' => e = .returned (.bool true) ∧ w = w' := by
  go_enter Try.func33, Try.ntmps33
  go_wp2
  go_loopw [13] (fun iv wr => iv = .int .i64 0 ∧ wr = w) (fun _ _ => 0)
  case atStart => exact ⟨rfl, rfl⟩
  case round =>
    obtain ⟨rfl, rfl⟩ := hrel
    go_wp2
    go_ret
    exact ⟨rfl, rfl⟩
end Go.Proofs.Ytmkhpgpnahligaa


/-
  Layer 8, walks: are results the same, with what is told of their lists (written by wip/tools/gensame8.py). Conditions: what slices.Equal tells of both lists.
-/
namespace Go.Proofs.Ytmkhpgpnahligaa
open Go.RowKit
attribute [local go_sem ↓] Go.wp_at_zero Go.wp_at_succ
attribute [local go_sem] rowAt_ptr rowOf_drew rowOf_drewN rowOf_alloc_past rowOf_new
attribute [local go_sem ↓] ldReply

attribute [local go_sem] Reply.at0 Reply.lat0 Reply.at1 Reply.lat1 Reply.at2 Reply.lat2 Reply.at3 Reply.lat3 Reply.at4 Reply.lat4 Reply.at5 Reply.lat5 Reply.at6 Reply.lat6 Reply.at7 Reply.lat7 Reply.at8 Reply.lat8 Reply.at9 Reply.lat9 Reply.at10 Reply.lat10 Reply.at11 Reply.lat11 Reply.at12 Reply.lat12 Reply.at13 Reply.lat13 Reply.at14 Reply.lat14 Reply.at15 Reply.lat15 Reply.at16 Reply.lat16 Reply.at17 Reply.lat17 Reply.at18 Reply.lat18 Reply.at19 Reply.lat19 Reply.at20 Reply.lat20 Reply.at21 Reply.lat21 Reply.at22 Reply.lat22 Reply.at23 Reply.lat23 Reply.at24 Reply.lat24 Reply.at25 Reply.lat25 Reply.at26 Reply.lat26 Reply.at27 Reply.lat27 Reply.at28 Reply.lat28 Reply.at29 Reply.lat29 Reply.at30 Reply.lat30 Reply.at31 Reply.lat31 Reply.at32 Reply.lat32 Reply.at33 Reply.lat33 Reply.at34 Reply.lat34 Reply.at35 Reply.lat35 Reply.at36 Reply.lat36 Reply.at37 Reply.lat37 Reply.at38 Reply.lat38 Reply.at39 Reply.lat39 Reply.at40 Reply.lat40 Reply.at41 Reply.lat41 Reply.at42 Reply.lat42 Reply.at43 Reply.lat43 Reply.at44 Reply.lat44 Reply.at45 Reply.lat45 Reply.at46 Reply.lat46 Reply.at47 Reply.lat47 Reply.at48 Reply.lat48 Reply.at49 Reply.lat49 Reply.at50 Reply.lat50 Reply.at51 Reply.lat51 Reply.at52 Reply.lat52 Reply.at53 Reply.lat53 Reply.at54 Reply.lat54 Reply.at55 Reply.lat55 Reply.at56 Reply.lat56 Reply.at57 Reply.lat57 Reply.sub0_58 Reply.lsub0_58 Reply.sub2_11 Reply.lsub2_11 Reply.sub3_10 Reply.lsub3_10 Reply.sub13_11 Reply.lsub13_11 Reply.sub14_10 Reply.lsub14_10 Reply.sub24_13 Reply.lsub24_13 Reply.sub24_2 Reply.lsub24_2 Reply.sub26_11 Reply.lsub26_11 Reply.sub27_10 Reply.lsub27_10 Reply.sub37_13 Reply.lsub37_13 Reply.sub37_2 Reply.lsub37_2 Reply.sub39_11 Reply.lsub39_11 Reply.sub40_10 Reply.lsub40_10 Reply.len

theorem Flds.inj {x y : Flds} (h : x.vals = y.vals) : x = y := by
  obtain ⟨_, _, _, ⟨_, ⟨_, _, _, _, _, _, _, _, _, _⟩⟩, ⟨_, ⟨_, _, _, _, _, _, _, _, _, _⟩⟩, ⟨⟨_, _⟩, ⟨_, ⟨_, _, _, _, _, _, _, _, _, _⟩⟩⟩, ⟨⟨_, _⟩, ⟨_, ⟨_, _, _, _, _, _, _, _, _, _⟩⟩⟩, _, _, _, _, _⟩ := x
  obtain ⟨_, _, _, ⟨_, ⟨_, _, _, _, _, _, _, _, _, _⟩⟩, ⟨_, ⟨_, _, _, _, _, _, _, _, _, _⟩⟩, ⟨⟨_, _⟩, ⟨_, ⟨_, _, _, _, _, _, _, _, _, _⟩⟩⟩, ⟨⟨_, _⟩, ⟨_, ⟨_, _, _, _, _, _, _, _, _, _⟩⟩⟩, _, _, _, _, _⟩ := y
  simp only [Flds.vals, Post.vals, Wcc.vals, Opt.vals, Attr.vals, List.cons_append, List.nil_append, List.cons.injEq, Value.int.injEq, Value.bool.injEq, Value.string.injEq, true_and, and_true] at h
  obtain ⟨h0, h1, h2, h3, h4, h5, h6, h7, h8, h9, h10, h11, h12, h13, h14, h15, h16, h17, h18, h19, h20, h21, h22, h23, h24, h25, h26, h27, h28, h29, h30, h31, h32, h33, h34, h35, h36, h37, h38, h39, h40, h41, h42, h43, h44, h45, h46, h47, h48, h49, h50, h51, h52, h53, h54, h55⟩ := h
  have h1 := bs_inj h1
  have h2 := bs_inj h2
  subst_vars
  rfl
theorem eqlFlds (x y : Flds) (w : World) : (binOp .eql 67 (.agg x.vals.toArray) (.agg y.vals.toArray)).run Try.prog w = .ok (.bool (decide (x = y))) w := by
  by_cases h : x = y
  · rw [eql_same leafsFlds (by kernel_rfl) w _ _ (by rfl) (by rw [h]), decide_eq_true h]
  · rw [eql_other leafsFlds (by kernel_rfl) w _ _ (by rfl) (by rfl) (fun e => h (Flds.inj e)), decide_eq_false h]
attribute [local go_sem ↓] eqlFlds

attribute [local go_sem] guardFlds

theorem setCells_past8 (u : World) (o : Obj) (n : Nat) (_hn : n < u.heap.size) : ∀ (vs : List Value) (i : Nat) (u : World), n < u.heap.size → (u.alloc o).setCells n i vs = (u.setCells n i vs).alloc o
  | [], _, _, _ => rfl
  | v :: vs, i, u, h => by
    rw [World.setCells, World.setCells, World.setCell_alloc_past _ _ _ _ h]
    exact setCells_past8 u o n h vs (i + 1) _ (by simpa using h)
theorem setCells_drew8 (n : Nat) : ∀ (vs : List Value) (i : Nat) (u : World), u.drew.setCells n i vs = (u.setCells n i vs).drew
  | [], _, _ => rfl
  | v :: vs, i, u => by
    rw [World.setCells, World.setCells]
    exact setCells_drew8 n vs (i + 1) (u.setCell ⟨n, i, none⟩ v)
theorem storeGen8 (r : Reply) (X : World) (n : Nat) (hB : Blk X n 46 replyZ.vals) : (storeCells ⟨n, 0, none⟩ r.vals 0).run Try.prog X = .ok () (X.setCells n 0 r.vals) := by
  have ht := hB.there 0 58 (by rw [Reply.len]; omega)
  exact run_storeCells_cells (P := Try.prog) n 0 r.vals 0 X (fun j hj => by simpa only [Nat.zero_add, Nat.add_zero] using (ht j (by rw [Reply.len] at hj; exact hj)).1) (fun j hj => by simpa only [Nat.zero_add, Nat.add_zero] using (ht j (by rw [Reply.len] at hj; exact hj)).2) (Reply.one _)
theorem set1_8 (r : Reply) (u : World) (o : Obj) : ((u.alloc (.cells replyZ.vals.toArray 46)).alloc o).setCells u.heap.size 0 r.vals = (u.alloc (.cells r.vals.toArray 46)).alloc o := by
  have h1 := setCells_new u 46 r.vals [] replyZ.vals rfl
  have h2 := setCells_past8 (u.alloc (.cells replyZ.vals.toArray 46)) o u.heap.size (by simp) r.vals 0 (u.alloc (.cells replyZ.vals.toArray 46)) (by simp)
  rw [h2]
  exact congrArg (fun x => x.alloc o) h1
theorem set2_8 (r : Reply) (u : World) (o : Obj) : ((u.alloc o).alloc (.cells replyZ.vals.toArray 46)).setCells (u.heap.size + 1) 0 r.vals = (u.alloc o).alloc (.cells r.vals.toArray 46) := by
  have h1 := setCells_new (u.alloc o) 46 r.vals [] replyZ.vals rfl
  have hs : (u.alloc o).heap.size = u.heap.size + 1 := by simp
  rw [hs] at h1
  exact h1
theorem store1_8 (r : Reply) (u : World) (o : Obj) : (storeCells ⟨u.heap.size, 0, none⟩ r.vals 0).run Try.prog ((u.alloc (.cells #[.int .i64 0, .string ⟨#[]⟩, .bool false, .int .i64 0, .int .i64 0, .int .i64 0, .int .i64 0, .int .i64 0, .int .i64 0, .int .i64 0, .int .i64 0, .int .i64 0, .int .i64 0, .bool false, .int .i64 0, .int .i64 0, .int .i64 0, .int .i64 0, .int .i64 0, .int .i64 0, .int .i64 0, .int .i64 0, .int .i64 0, .int .i64 0, .bool false, .int .i64 0, .bool false, .int .i64 0, .int .i64 0, .int .i64 0, .int .i64 0, .int .i64 0, .int .i64 0, .int .i64 0, .int .i64 0, .int .i64 0, .int .i64 0, .bool false, .int .i64 0, .bool false, .int .i64 0, .int .i64 0, .int .i64 0, .int .i64 0, .int .i64 0, .int .i64 0, .int .i64 0, .int .i64 0, .int .i64 0, .int .i64 0, .int .i64 0, .int .i64 0, .bool false, .string ⟨#[]⟩, .int .i64 0, .int .i64 0, .slice none 0 0, .slice none 0 0] 46)).alloc o).drew = .ok () ((u.alloc (.cells r.vals.toArray 46)).alloc o).drew := by
  rw [← set1_8 r u o, ← setCells_drew8]
  exact storeGen8 r _ _ (Blk.drew ((Blk.new u _ replyZ.vals).alloc o))
theorem store2_8 (r : Reply) (u : World) (o : Obj) : (storeCells ⟨u.heap.size + 1, 0, none⟩ r.vals 0).run Try.prog ((u.alloc o).alloc (.cells #[.int .i64 0, .string ⟨#[]⟩, .bool false, .int .i64 0, .int .i64 0, .int .i64 0, .int .i64 0, .int .i64 0, .int .i64 0, .int .i64 0, .int .i64 0, .int .i64 0, .int .i64 0, .bool false, .int .i64 0, .int .i64 0, .int .i64 0, .int .i64 0, .int .i64 0, .int .i64 0, .int .i64 0, .int .i64 0, .int .i64 0, .int .i64 0, .bool false, .int .i64 0, .bool false, .int .i64 0, .int .i64 0, .int .i64 0, .int .i64 0, .int .i64 0, .int .i64 0, .int .i64 0, .int .i64 0, .int .i64 0, .int .i64 0, .bool false, .int .i64 0, .bool false, .int .i64 0, .int .i64 0, .int .i64 0, .int .i64 0, .int .i64 0, .int .i64 0, .int .i64 0, .int .i64 0, .int .i64 0, .int .i64 0, .int .i64 0, .int .i64 0, .bool false, .string ⟨#[]⟩, .int .i64 0, .int .i64 0, .slice none 0 0, .slice none 0 0] 46)).drew = .ok () ((u.alloc o).alloc (.cells r.vals.toArray 46)).drew := by
  rw [← set2_8 r u o, ← setCells_drew8]
  have hs : (u.alloc o).heap.size = u.heap.size + 1 := by simp
  exact storeGen8 r _ _ (Blk.drew (hs ▸ Blk.new (u.alloc o) _ replyZ.vals))
attribute [local go_sem ↓] store1_8 store2_8

set_option maxRecDepth 20000 in
set_option maxHeartbeats 1600000 in
theorem same8_any (a b : Reply) (xe xu : Bool) (w : World) (hE : ∀ W, Below w.heap.size w W → Calls Try.prog 32 #[.slice a.ea a.en a.ec, .slice b.ea b.en b.ec] W fun e w' => e = .returned (.bool xe) ∧ Below W.heap.size W w')
    (hU : ∀ W, Below w.heap.size w W → Calls Try.prog 33 #[.slice a.ua a.un a.uc, .slice b.ua b.un b.uc] W fun e w' => e = .returned (.bool xu) ∧ Below W.heap.size W w') :
    Calls Try.prog 20 #[.agg a.vals.toArray, .agg b.vals.toArray] w fun e w' => e = .returned (.bool (xe && (xu && decide (a.bare = b.bare)))) ∧ Below w.heap.size w w' := by
  obtain ⟨hA, hC, hB, -⟩ := chain2_blks w a.vals b.vals 46 46
  obtain ⟨w1, hw1⟩ : ∃ u, u = (w.alloc (.cells a.vals.toArray 46)).alloc (.cells b.vals.toArray 46) := ⟨_, rfl⟩
  rw [← hw1] at hA hC hB
  have HW1 := Lib.hid hw1
  have rA : rowOf w1 w.heap.size 0 58 = some a.vals.toArray := hA.row 0 58 (by simp [Reply.len])
  have rC : rowOf w1 (w.heap.size + 1) 0 58 = some b.vals.toArray := hC.row 0 58 (by simp [Reply.len])
  have hltA := hA.lt
  have hltC := hC.lt
  clear hw1
  go_enter Try.func20, Try.ntmps20
  go_upto_region 1 with fail
  change Code.wp _ _ _ _ ((w.alloc (.cells a.vals.toArray 46)).alloc (.cells b.vals.toArray 46))
  rw [← HW1.out]
  clear HW1
  go_cut [5, 6] from 7 (fun v5 v6 wx => ∃ b5 b6 : Nat, v5 = .pointer (some ⟨b5, 0, none⟩) ∧ v6 = .pointer (some ⟨b6, 0, none⟩) ∧ Blk wx b5 46 a.vals ∧ Blk wx b6 46 b.vals ∧ Stb w1 wx)
  case first =>
    go_region_held3 (fun W => Stb w1 W) (first | exact Stb.start | assumption | (exact Stb.alloc (Stb.alloc Stb.start _) _) | (exact Stb.alloc Stb.start _)) (first | fail)
    all_goals
      go_wp2
      go_meet
      case rel =>
        first
        | (obtain ⟨k1, k2, k3, -⟩ := chain2_blks w1 a.vals b.vals 46 46; exact ⟨_, _, rfl, rfl, k1.drew, k2.drew, Stb.of k3.drew⟩)
        | (obtain ⟨k1, k2, k3, -⟩ := chain2_blks w1 b.vals a.vals 46 46; exact ⟨_, _, rfl, rfl, k2.drew, k1.drew, Stb.of k3.drew⟩)
  obtain ⟨b5, b6, rfl, rfl, h5, h6, hst⟩ := hcut
  have hcA : ∀ i, wc.cell? ⟨w.heap.size, i, none⟩ = a.vals[i]? := fun i => (hst.1 _ _ hltA).trans (hA.cell i)
  have hcC : ∀ i, wc.cell? ⟨w.heap.size + 1, i, none⟩ = b.vals[i]? := fun i => (hst.1 _ _ hltC).trans (hC.cell i)
  have hBc := below_then hB hst.below
  clear rA rC
  have HST := Lib.hid hst
  clear hst
  have HA := Lib.hid (hE wc hBc)
  clear hE
  go_wp2_with fail
  refine HA.out.mono ?_
  rintro e w2 ⟨rfl, hx⟩
  have hst2 := HST.out.call hx
  have hB2 := below_then hBc hx
  have h5 := h5.stays hx
  have h6 := h6.stays hx
  clear hcA hcC hBc hx HA HST
  cases xe with
  | false =>
    clear hU hst2
    go_wp2
    go_ret
    exact ⟨rfl, hB2⟩
  | true =>
    have hcA : ∀ i, w2.cell? ⟨w.heap.size, i, none⟩ = a.vals[i]? := fun i => (hst2.1 _ _ hltA).trans (hA.cell i)
    have hcC : ∀ i, w2.cell? ⟨w.heap.size + 1, i, none⟩ = b.vals[i]? := fun i => (hst2.1 _ _ hltC).trans (hC.cell i)
    have HU := Lib.hid (hU w2 hB2)
    clear hU hst2
    go_wp2_with fail
    refine HU.out.mono ?_
    rintro e w3 ⟨rfl, hx⟩
    have hB3 := below_then hB2 hx
    have h5 := h5.stays hx
    have h6 := h6.stays hx
    clear hcA hcC hB2 hx HU
    cases xu with
    | false =>
      go_wp2
      go_ret
      exact ⟨rfl, hB3⟩
    | true =>
      go_wp2_with fail
      refine (bare8_any b5 a _ h5).mono ?_
      rintro e w4 ⟨rfl, hx⟩
      have hB4 := below_then hB3 hx
      have h6 := h6.stays hx
      clear hB3 hx h5
      go_wp2_with fail
      refine (bare8_any b6 b _ h6).mono ?_
      rintro e w5 ⟨rfl, hx⟩
      have hB5 := below_then hB4 hx
      clear hB4 hx h6
      go_wp2
      go_ret
      exact ⟨rfl, hB5⟩
end Go.Proofs.Ytmkhpgpnahligaa
