/-
  Layer 5, walks: whether attributes, or none, and what was ahead and behind, may be. No condition.
-/
import Derived.Test.YtapcjojlkeaadaaGreatDoorP08
import Derived.Test.YtapcjojlkeaadaaGreatDoorP09
import Derived.Test.YtapcjojlkeaadaaGreatDoorP06
import Derived.Test.YtapcjojlkeaadaaGreatDoorP07
import Derived.StillTailTactics
namespace Go.Proofs.YtapcjojlkeaadaaGreatDoor
open Go.RowKit
attribute [local go_sem ↓] Go.wp_at_zero Go.wp_at_succ
attribute [local go_sem] rowAt_ptr rowOf_drew rowOf_drewN rowOf_alloc_past rowOf_new
theorem ldPost {ρ : Operand → Value} {w : World} {dst : Option Tmp} {ty : TypeId} {pos : String} {after : Array Edge} {g : Option (Nat × Bool)} {x : Operand} (h : (rowAt w 11 (ρ x)).isSome = true) :
    (execOp ρ ⟨dst, .load 27 x, ty, pos, after, g⟩).run Tryz.prog w = .ok (.value (.agg ((rowAt w 11 (ρ x)).getD #[]))) w := ex_load 27 11 Tryz.underlying27 rfl (by kernel_rfl) h
theorem ldWcc {ρ : Operand → Value} {w : World} {dst : Option Tmp} {ty : TypeId} {pos : String} {after : Array Edge} {g : Option (Nat × Bool)} {x : Operand} (h : (rowAt w 13 (ρ x)).isSome = true) :
    (execOp ρ ⟨dst, .load 31 x, ty, pos, after, g⟩).run Tryz.prog w = .ok (.value (.agg ((rowAt w 13 (ρ x)).getD #[]))) w := ex_load 31 13 Tryz.underlying31 rfl (by kernel_rfl) h
attribute [local go_sem ↓] ldAttrR ldOpt ldPost ldWcc

attribute [local go_sem] Attr.at0 Attr.lat0 Attr.at1 Attr.lat1 Attr.at2 Attr.lat2 Attr.at3 Attr.lat3 Attr.at4 Attr.lat4 Attr.at5 Attr.lat5 Attr.at6 Attr.lat6 Attr.at7 Attr.lat7 Attr.at8 Attr.lat8 Attr.at9 Attr.lat9 Attr.sub0_10 Attr.lsub0_10 Attr.len Opt.at0 Opt.lat0 Opt.at1 Opt.lat1 Opt.sub0_2 Opt.lsub0_2 Opt.len Sett.at0 Sett.lat0 Sett.at1 Sett.lat1 Sett.at2 Sett.lat2 Sett.at3 Sett.lat3 Sett.at4 Sett.lat4 Sett.at5 Sett.lat5 Sett.at6 Sett.lat6 Sett.at7 Sett.lat7 Sett.at8 Sett.lat8 Sett.at9 Sett.lat9 Sett.sub0_10 Sett.lsub0_10 Sett.sub0_2 Sett.lsub0_2 Sett.sub2_2 Sett.lsub2_2 Sett.sub4_2 Sett.lsub4_2 Sett.sub6_2 Sett.lsub6_2 Sett.sub8_2 Sett.lsub8_2 Sett.len Post.at0 Post.lat0 Post.at1 Post.lat1 Post.at2 Post.lat2 Post.at3 Post.lat3 Post.at4 Post.lat4 Post.at5 Post.lat5 Post.at6 Post.lat6 Post.at7 Post.lat7 Post.at8 Post.lat8 Post.at9 Post.lat9 Post.at10 Post.lat10 Post.sub0_11 Post.lsub0_11 Post.sub1_10 Post.lsub1_10 Post.len Wcc.at0 Wcc.lat0 Wcc.at1 Wcc.lat1 Wcc.at2 Wcc.lat2 Wcc.at3 Wcc.lat3 Wcc.at4 Wcc.lat4 Wcc.at5 Wcc.lat5 Wcc.at6 Wcc.lat6 Wcc.at7 Wcc.lat7 Wcc.at8 Wcc.lat8 Wcc.at9 Wcc.lat9 Wcc.at10 Wcc.lat10 Wcc.at11 Wcc.lat11 Wcc.at12 Wcc.lat12 Wcc.sub0_13 Wcc.lsub0_13 Wcc.sub0_2 Wcc.lsub0_2 Wcc.sub2_11 Wcc.lsub2_11 Wcc.sub3_10 Wcc.lsub3_10 Wcc.len

def limits (a : Attr) : List (Int × Int) := [(a.type, 7), (a.mode, 4095), (a.nlink, 4294967295), (a.uid, 4294967295), (a.gid, 4294967295), (a.id, 4294967295), (a.size, 9223372036854775807), (a.gen, 9223372036854775807), (a.change, 9223372036854775807), (a.time, 9223372036854775807)]
theorem limits_ok (a : Attr) (hg : a.good) (h1 : 1 ≤ a.type) : (limits a).all inLim = a.ok := by
  obtain ⟨-, -, -, -, -, g5, -, g7, g8, g9⟩ := hg
  have g5 := (Go.bounds_i64 g5).2
  have g7 := (Go.bounds_i64 g7).2
  have g8 := (Go.bounds_i64 g8).2
  have g9 := (Go.bounds_i64 g9).2
  simp [limits, inLim, okN, Attr.ok]
  grind
theorem free5_any (n : Int) (w : World) : Calls Tryz.prog 115 #[.int .i64 n] w fun e w' => e = .returned (.agg #[.int .i64 n, .int .i64 9223372036854775807]) ∧ Below w.heap.size w w' := by
  go_enter Tryz.func115, Tryz.ntmps115
  go_wp2
  exact ret_cells w.heap.size 0 (limV (n, 9223372036854775807)) Tryz.results115 Tryz.underlying151 rfl (by kernel_rfl) rfl (range_new _ _ _) rfl ⟨rfl, (Below.refl _ _).alloc (Nat.le_refl _) _⟩

set_option maxRecDepth 20000 in
set_option maxHeartbeats 1000000 in
theorem check5_any (a : Attr) (w : World) (hg : a.good) : Calls Tryz.prog 103 #[.agg a.vals.toArray] w fun e w' => e = .returned (.int .i64 (form a.ok)) ∧ Below w.heap.size w w' := by
  have hB0 : Below w.heap.size w (w.alloc (.cells a.vals.toArray 25)) := (Below.refl _ _).alloc (Nat.le_refl _) _
  have hz : w.heap.size < (w.alloc (.cells a.vals.toArray 25)).heap.size := by simp
  by_cases h1 : a.type < 1
  · have HS := Lib.hid (show a.ok = false by simp [Attr.ok]; omega)
    have hd : decide (a.type < 1) = true := by simpa using h1
    go_enter Tryz.func103, Tryz.ntmps103
    go_wp2
    go_quiet (fail)
    go_wp2
    go_ret
    exact ⟨ret_int (by rw [HS.out]; rfl), hB0.trans (bdN (Below.refl _ _) _)⟩
  · have hd : decide (a.type < 1) = false := by simpa using h1
    have HL := Lib.hid (limits_ok a hg (by omega))
    have c0 := (Blk.new w 25 a.vals).cell
    go_enter Tryz.func103, Tryz.ntmps103
    go_wp2
    generalize w.alloc (.cells a.vals.toArray 25) = w1 at *
    go_region_held3 (fun W => Stb w1 W) (first | exact Stb.start | assumption | (exact Stb.alloc (by assumption) _) | (exact Stb.call (by assumption) (by assumption))) (first
      | (go_at_call 115; refine (free5_any _ _).mono ?_; rintro e w2 ⟨rfl, hb⟩)
      | (go_at_call 114; refine (within_any (some ⟨_, 0, none⟩) 10 (limits a) _ (show (10 : Nat) ≤ 1000000 by omega) (by exact At.fresh _ _ _ _ ((limits a).map limV) (by simp [limits, limV]) rfl)).mono ?_; rintro e w3 ⟨rfl, hb⟩))
    have hs := (by assumption : Stb w1 w3)
    have HB := Lib.hid (below_then hB0 hs.below)
    rw [HL.out]
    clear hs
    cases ho : a.ok
    all_goals
      have HO := Lib.hid ho
      clear ho
      go_wp2
      go_ret
      exact ⟨ret_int (by rw [HO.out]; rfl), HB.out⟩
end Go.Proofs.YtapcjojlkeaadaaGreatDoor

/-
  Layer 8, walks: results without lists (written by wip/tools/genbare.py). Condition: results at a block of their own.
-/
namespace Go.Proofs.YtapcjojlkeaadaaGreatDoor
open Go.RowKit
attribute [local go_sem ↓] Go.wp_at_zero Go.wp_at_succ
attribute [local go_sem] rowAt_ptr rowOf_drew rowOf_drewN rowOf_alloc_past rowOf_new
attribute [local go_sem ↓] ldPost ldWcc

attribute [local go_sem] Reply.at0 Reply.lat0 Reply.at1 Reply.lat1 Reply.at2 Reply.lat2 Reply.at3 Reply.lat3 Reply.at4 Reply.lat4 Reply.at5 Reply.lat5 Reply.at6 Reply.lat6 Reply.at7 Reply.lat7 Reply.at8 Reply.lat8 Reply.at9 Reply.lat9 Reply.at10 Reply.lat10 Reply.at11 Reply.lat11 Reply.at12 Reply.lat12 Reply.at13 Reply.lat13 Reply.at14 Reply.lat14 Reply.at15 Reply.lat15 Reply.at16 Reply.lat16 Reply.at17 Reply.lat17 Reply.at18 Reply.lat18 Reply.at19 Reply.lat19 Reply.at20 Reply.lat20 Reply.at21 Reply.lat21 Reply.at22 Reply.lat22 Reply.at23 Reply.lat23 Reply.at24 Reply.lat24 Reply.at25 Reply.lat25 Reply.at26 Reply.lat26 Reply.at27 Reply.lat27 Reply.at28 Reply.lat28 Reply.at29 Reply.lat29 Reply.at30 Reply.lat30 Reply.at31 Reply.lat31 Reply.at32 Reply.lat32 Reply.at33 Reply.lat33 Reply.at34 Reply.lat34 Reply.at35 Reply.lat35 Reply.at36 Reply.lat36 Reply.at37 Reply.lat37 Reply.at38 Reply.lat38 Reply.at39 Reply.lat39 Reply.at40 Reply.lat40 Reply.at41 Reply.lat41 Reply.at42 Reply.lat42 Reply.at43 Reply.lat43 Reply.at44 Reply.lat44 Reply.at45 Reply.lat45 Reply.at46 Reply.lat46 Reply.at47 Reply.lat47 Reply.at48 Reply.lat48 Reply.at49 Reply.lat49 Reply.at50 Reply.lat50 Reply.at51 Reply.lat51 Reply.at52 Reply.lat52 Reply.at53 Reply.lat53 Reply.at54 Reply.lat54 Reply.at55 Reply.lat55 Reply.at56 Reply.lat56 Reply.at57 Reply.lat57 Reply.sub0_58 Reply.lsub0_58 Reply.sub2_11 Reply.lsub2_11 Reply.sub3_10 Reply.lsub3_10 Reply.sub13_11 Reply.lsub13_11 Reply.sub14_10 Reply.lsub14_10 Reply.sub24_13 Reply.lsub24_13 Reply.sub24_2 Reply.lsub24_2 Reply.sub26_11 Reply.lsub26_11 Reply.sub27_10 Reply.lsub27_10 Reply.sub37_13 Reply.lsub37_13 Reply.sub37_2 Reply.lsub37_2 Reply.sub39_11 Reply.lsub39_11 Reply.sub40_10 Reply.lsub40_10 Reply.len Post.at0 Post.lat0 Post.at1 Post.lat1 Post.at2 Post.lat2 Post.at3 Post.lat3 Post.at4 Post.lat4 Post.at5 Post.lat5 Post.at6 Post.lat6 Post.at7 Post.lat7 Post.at8 Post.lat8 Post.at9 Post.lat9 Post.at10 Post.lat10 Post.sub0_11 Post.lsub0_11 Post.sub1_10 Post.lsub1_10 Post.len Wcc.at0 Wcc.lat0 Wcc.at1 Wcc.lat1 Wcc.at2 Wcc.lat2 Wcc.at3 Wcc.lat3 Wcc.at4 Wcc.lat4 Wcc.at5 Wcc.lat5 Wcc.at6 Wcc.lat6 Wcc.at7 Wcc.lat7 Wcc.at8 Wcc.lat8 Wcc.at9 Wcc.lat9 Wcc.at10 Wcc.lat10 Wcc.at11 Wcc.lat11 Wcc.at12 Wcc.lat12 Wcc.sub0_13 Wcc.lsub0_13 Wcc.sub0_2 Wcc.lsub0_2 Wcc.sub2_11 Wcc.lsub2_11 Wcc.sub3_10 Wcc.lsub3_10 Wcc.len

def Reply.bare (r : Reply) : Flds := ⟨r.status, r.fh, r.data, r.obj, r.dir, r.wcc, r.wcc2, r.access, r.count, r.stable, r.verf, r.eof⟩
def fldsZ : Flds := (Flds.mk 0 [] [] ⟨false, ⟨0, 0, 0, 0, 0, 0, 0, 0, 0, 0⟩⟩ ⟨false, ⟨0, 0, 0, 0, 0, 0, 0, 0, 0, 0⟩⟩ ⟨⟨false, 0⟩, ⟨false, ⟨0, 0, 0, 0, 0, 0, 0, 0, 0, 0⟩⟩⟩ ⟨⟨false, 0⟩, ⟨false, ⟨0, 0, 0, 0, 0, 0, 0, 0, 0, 0⟩⟩⟩ 0 0 0 0 false)
theorem infoFlds : (Tryz.prog.info? 128).map (fun i => (i.zero, i.size)) = some (some (.agg fldsZ.vals.toArray), 56) := by kernel_rfl

set_option maxRecDepth 20000 in
set_option maxHeartbeats 3200000 in
theorem bare8_any (b : Nat) (r : Reply) (w : World) (hB : Blk w b 35 r.vals) : Calls Tryz.prog 86 #[.pointer (some ⟨b, 0, none⟩)] w fun e w' => e = .returned (.agg r.bare.vals.toArray) ∧ Below w.heap.size w w' := by
  have hcx := hB.cell
  have hlt := hB.lt
  have r2 : rowOf w b 2 11 = some #[.bool r.obj.is, .int .i64 r.obj.attr.type, .int .i64 r.obj.attr.mode, .int .i64 r.obj.attr.nlink, .int .i64 r.obj.attr.uid, .int .i64 r.obj.attr.gid, .int .i64 r.obj.attr.size, .int .i64 r.obj.attr.id, .int .i64 r.obj.attr.gen, .int .i64 r.obj.attr.change, .int .i64 r.obj.attr.time] := hB.row 2 11 (by simp [Reply.len])
  have r13 : rowOf w b 13 11 = some #[.bool r.dir.is, .int .i64 r.dir.attr.type, .int .i64 r.dir.attr.mode, .int .i64 r.dir.attr.nlink, .int .i64 r.dir.attr.uid, .int .i64 r.dir.attr.gid, .int .i64 r.dir.attr.size, .int .i64 r.dir.attr.id, .int .i64 r.dir.attr.gen, .int .i64 r.dir.attr.change, .int .i64 r.dir.attr.time] := hB.row 13 11 (by simp [Reply.len])
  have r24 : rowOf w b 24 13 = some #[.bool r.wcc.before.is, .int .i64 r.wcc.before.n, .bool r.wcc.after.is, .int .i64 r.wcc.after.attr.type, .int .i64 r.wcc.after.attr.mode, .int .i64 r.wcc.after.attr.nlink, .int .i64 r.wcc.after.attr.uid, .int .i64 r.wcc.after.attr.gid, .int .i64 r.wcc.after.attr.size, .int .i64 r.wcc.after.attr.id, .int .i64 r.wcc.after.attr.gen, .int .i64 r.wcc.after.attr.change, .int .i64 r.wcc.after.attr.time] := hB.row 24 13 (by simp [Reply.len])
  have r37 : rowOf w b 37 13 = some #[.bool r.wcc2.before.is, .int .i64 r.wcc2.before.n, .bool r.wcc2.after.is, .int .i64 r.wcc2.after.attr.type, .int .i64 r.wcc2.after.attr.mode, .int .i64 r.wcc2.after.attr.nlink, .int .i64 r.wcc2.after.attr.uid, .int .i64 r.wcc2.after.attr.gid, .int .i64 r.wcc2.after.attr.size, .int .i64 r.wcc2.after.attr.id, .int .i64 r.wcc2.after.attr.gen, .int .i64 r.wcc2.after.attr.change, .int .i64 r.wcc2.after.attr.time] := hB.row 37 13 (by simp [Reply.len])
  have hst : Stb w (w.alloc (.cells fldsZ.vals.toArray 128)) := Stb.of ((Below.refl _ _).alloc (Nat.le_refl _) _)
  have hZ := Blk.new w 128 fldsZ.vals
  obtain ⟨q, hq⟩ : ∃ q, q = w.heap.size := ⟨_, rfl⟩
  obtain ⟨w1, hw1⟩ : ∃ u, u = w.alloc (.cells fldsZ.vals.toArray 128) := ⟨_, rfl⟩
  rw [← hw1] at hst hZ
  have HW1 := Lib.hid hw1
  have HB := Lib.hid (Below.setWhole hst.below.drew (Nat.le_refl _) r.bare.vals)
  have hc1 : ∀ i, w1.cell? ⟨b, i, none⟩ = r.vals[i]? := fun i => (hst.1 _ _ hlt).trans (hcx i)
  have q2 := (hst.2.1 _ 2 11 hlt).trans r2
  have q13 := (hst.2.1 _ 13 11 hlt).trans r13
  have q24 := (hst.2.1 _ 24 13 hlt).trans r24
  have q37 := (hst.2.1 _ 37 13 hlt).trans r37
  clear hw1 hq hst hcx r2 r13 r24 r37
  go_enter Tryz.func86, Tryz.ntmps86
  go_wp2_with fail
  change Code.wp _ _ _ _ (w.alloc (.cells fldsZ.vals.toArray 128))
  rw [← HW1.out]
  go_still_tail 49, (by kernel_rfl)
  change wpList _ _ _ _ _ w1.drew
  have hZd := hZ.drew
  go_wp2_with (first | (refine wpList_store_whole (by rfl) 128 _ _ (by rfl) w.heap.size r.bare.vals _ hZd (by rfl) (by rfl) (by rfl) (by kernel_rfl) (Flds.one _) ?_) | fail)
  exact ret_cells w.heap.size 0 r.bare.vals Tryz.results86 Tryz.underlying128 rfl (by kernel_rfl) rfl (hZd.whole (by rfl)).range rfl ⟨rfl, HB.out⟩
end Go.Proofs.YtapcjojlkeaadaaGreatDoor


/-
  Layer 8, walks: are results the same (with what is told of their lists); what must come of fixed calls; the law ReplyFields. No condition.
-/
namespace Go.Proofs.YtapcjojlkeaadaaGreatDoor
open Go.RowKit
attribute [local go_sem ↓] Go.wp_at_zero Go.wp_at_succ
attribute [local go_sem] rowAt_ptr rowOf_drew rowOf_drewN rowOf_alloc_past rowOf_new
theorem ldReply {ρ : Operand → Value} {w : World} {dst : Option Tmp} {ty : TypeId} {pos : String} {after : Array Edge} {g : Option (Nat × Bool)} {x : Operand} (h : (rowAt w 58 (ρ x)).isSome = true) :
    (execOp ρ ⟨dst, .load 35 x, ty, pos, after, g⟩).run Tryz.prog w = .ok (.value (.agg ((rowAt w 58 (ρ x)).getD #[]))) w := ex_load 35 58 Tryz.underlying35 rfl (by kernel_rfl) h
attribute [local go_sem ↓] ldReply

attribute [local go_sem] Reply.at0 Reply.lat0 Reply.at1 Reply.lat1 Reply.at2 Reply.lat2 Reply.at3 Reply.lat3 Reply.at4 Reply.lat4 Reply.at5 Reply.lat5 Reply.at6 Reply.lat6 Reply.at7 Reply.lat7 Reply.at8 Reply.lat8 Reply.at9 Reply.lat9 Reply.at10 Reply.lat10 Reply.at11 Reply.lat11 Reply.at12 Reply.lat12 Reply.at13 Reply.lat13 Reply.at14 Reply.lat14 Reply.at15 Reply.lat15 Reply.at16 Reply.lat16 Reply.at17 Reply.lat17 Reply.at18 Reply.lat18 Reply.at19 Reply.lat19 Reply.at20 Reply.lat20 Reply.at21 Reply.lat21 Reply.at22 Reply.lat22 Reply.at23 Reply.lat23 Reply.at24 Reply.lat24 Reply.at25 Reply.lat25 Reply.at26 Reply.lat26 Reply.at27 Reply.lat27 Reply.at28 Reply.lat28 Reply.at29 Reply.lat29 Reply.at30 Reply.lat30 Reply.at31 Reply.lat31 Reply.at32 Reply.lat32 Reply.at33 Reply.lat33 Reply.at34 Reply.lat34 Reply.at35 Reply.lat35 Reply.at36 Reply.lat36 Reply.at37 Reply.lat37 Reply.at38 Reply.lat38 Reply.at39 Reply.lat39 Reply.at40 Reply.lat40 Reply.at41 Reply.lat41 Reply.at42 Reply.lat42 Reply.at43 Reply.lat43 Reply.at44 Reply.lat44 Reply.at45 Reply.lat45 Reply.at46 Reply.lat46 Reply.at47 Reply.lat47 Reply.at48 Reply.lat48 Reply.at49 Reply.lat49 Reply.at50 Reply.lat50 Reply.at51 Reply.lat51 Reply.at52 Reply.lat52 Reply.at53 Reply.lat53 Reply.at54 Reply.lat54 Reply.at55 Reply.lat55 Reply.at56 Reply.lat56 Reply.at57 Reply.lat57 Reply.sub0_58 Reply.lsub0_58 Reply.sub2_11 Reply.lsub2_11 Reply.sub3_10 Reply.lsub3_10 Reply.sub13_11 Reply.lsub13_11 Reply.sub14_10 Reply.lsub14_10 Reply.sub24_13 Reply.lsub24_13 Reply.sub24_2 Reply.lsub24_2 Reply.sub26_11 Reply.lsub26_11 Reply.sub27_10 Reply.lsub27_10 Reply.sub37_13 Reply.lsub37_13 Reply.sub37_2 Reply.lsub37_2 Reply.sub39_11 Reply.lsub39_11 Reply.sub40_10 Reply.lsub40_10 Reply.len

def postZ8 : Post := ⟨false, ⟨0, 0, 0, 0, 0, 0, 0, 0, 0, 0⟩⟩
def replyZ : Reply := ⟨0, [], postZ8, postZ8, ⟨⟨false, 0⟩, postZ8⟩, ⟨⟨false, 0⟩, postZ8⟩, 0, 0, false, [], 0, 0, none, 0, 0, none, 0, 0⟩
theorem infoReply : (Tryz.prog.info? 35).map (fun i => (i.zero, i.size)) = some (some (.agg replyZ.vals.toArray), 58) := by kernel_rfl
theorem guardFlds : Tryz.prog.eqGuardType Tryz.prog.depth 128 = false := by kernel_rfl
def lfPost8 : List Leaf := .b :: List.replicate 10 (.i .i64)
def lfWcc8 : List Leaf := .b :: .i .i64 :: lfPost8
def lfFlds : List Leaf := [.i .i64, .s, .s] ++ lfPost8 ++ lfPost8 ++ lfWcc8 ++ lfWcc8 ++ [.i .i64, .i .i64, .i .i64, .i .i64, .b]
theorem leafsFlds : leafs Tryz.prog 8 128 = some lfFlds := by kernel_rfl
theorem Attr.inj8 {x y : Attr} (h : x.vals = y.vals) : x = y := by
  obtain ⟨_, _, _, _, _, _, _, _, _, _⟩ := x
  obtain ⟨_, _, _, _, _, _, _, _, _, _⟩ := y
  simp only [Attr.vals, List.cons.injEq, Value.int.injEq, true_and, and_true] at h
  obtain ⟨h0, h1, h2, h3, h4, h5, h6, h7, h8, h9⟩ := h
  subst_vars
  rfl
theorem there8_any (p : Int) (w : World) (h : 0 ≤ p ∧ p ≤ 21) : Calls Tryz.prog 12 #[.int .i64 p] w fun e w' => e = .returned (.bool true) ∧ w = w' := by
  obtain ⟨h1, h2⟩ := h
  go_enter Tryz.func12, Tryz.ntmps12
  go_wp2
  all_goals (go_ret; go_light; exact ⟨ret_bool (by grind), rfl⟩)
set_option maxHeartbeats 800000 in
theorem equalE_nil (w : World) : Calls Tryz.prog 84 #[.slice none 0 0, .slice none 0 0] w fun e w' => e = .returned (.bool true) ∧ w = w' := by
  go_enter Tryz.func84, Tryz.ntmps84
  go_wp2
  go_loopw [13] (fun iv wr => iv = .int .i64 0 ∧ wr = w) (fun _ _ => 0)
  case atStart => exact ⟨rfl, rfl⟩
  case round =>
    obtain ⟨rfl, rfl⟩ := hrel
    go_wp2
    go_ret
    exact ⟨rfl, rfl⟩
set_option maxHeartbeats 800000 in
theorem equalI_nil (w : World) : Calls Tryz.prog 85 #[.slice none 0 0, .slice none 0 0] w fun e w' => e = .returned (.bool true) ∧ w = w' := by
  go_enter Tryz.func85, Tryz.ntmps85
  go_wp2
  go_loopw [13] (fun iv wr => iv = .int .i64 0 ∧ wr = w) (fun _ _ => 0)
  case atStart => exact ⟨rfl, rfl⟩
  case round =>
    obtain ⟨rfl, rfl⟩ := hrel
    go_wp2
    go_ret
    exact ⟨rfl, rfl⟩
end Go.Proofs.YtapcjojlkeaadaaGreatDoor
