/-
  Layer 5, walks: the law AttrNil. No condition.
-/
import Derived.Test.YtbpfniocaibfcaaAttrNilB
import Derived.Test.YtbpfniocaibfcaaAttrReadH
namespace Go.Proofs.Ytbpfniocaibfcaa
open Go.RowKit
attribute [local go_sem ↓] Go.wp_at_zero Go.wp_at_succ
attribute [local go_sem] rowAt_ptr rowOf_drew rowOf_drewN rowOf_alloc_past rowOf_new
attribute [local go_sem ↓] ldAttrR ldOpt ldSet ldPost ldWcc

attribute [local go_sem] Attr.at0 Attr.lat0 Attr.at1 Attr.lat1 Attr.at2 Attr.lat2 Attr.at3 Attr.lat3 Attr.at4 Attr.lat4 Attr.at5 Attr.lat5 Attr.at6 Attr.lat6 Attr.at7 Attr.lat7 Attr.at8 Attr.lat8 Attr.at9 Attr.lat9 Attr.sub0_10 Attr.lsub0_10 Attr.len Opt.at0 Opt.lat0 Opt.at1 Opt.lat1 Opt.sub0_2 Opt.lsub0_2 Opt.len Sett.at0 Sett.lat0 Sett.at1 Sett.lat1 Sett.at2 Sett.lat2 Sett.at3 Sett.lat3 Sett.at4 Sett.lat4 Sett.at5 Sett.lat5 Sett.at6 Sett.lat6 Sett.at7 Sett.lat7 Sett.at8 Sett.lat8 Sett.at9 Sett.lat9 Sett.sub0_10 Sett.lsub0_10 Sett.sub0_2 Sett.lsub0_2 Sett.sub2_2 Sett.lsub2_2 Sett.sub4_2 Sett.lsub4_2 Sett.sub6_2 Sett.lsub6_2 Sett.sub8_2 Sett.lsub8_2 Sett.len Post.at0 Post.lat0 Post.at1 Post.lat1 Post.at2 Post.lat2 Post.at3 Post.lat3 Post.at4 Post.lat4 Post.at5 Post.lat5 Post.at6 Post.lat6 Post.at7 Post.lat7 Post.at8 Post.lat8 Post.at9 Post.lat9 Post.at10 Post.lat10 Post.sub0_11 Post.lsub0_11 Post.sub1_10 Post.lsub1_10 Post.len Wcc.at0 Wcc.lat0 Wcc.at1 Wcc.lat1 Wcc.at2 Wcc.lat2 Wcc.at3 Wcc.lat3 Wcc.at4 Wcc.lat4 Wcc.at5 Wcc.lat5 Wcc.at6 Wcc.lat6 Wcc.at7 Wcc.lat7 Wcc.at8 Wcc.lat8 Wcc.at9 Wcc.lat9 Wcc.at10 Wcc.lat10 Wcc.at11 Wcc.lat11 Wcc.at12 Wcc.lat12 Wcc.sub0_13 Wcc.lsub0_13 Wcc.sub0_2 Wcc.lsub0_2 Wcc.sub2_11 Wcc.lsub2_11 Wcc.sub3_10 Wcc.lsub3_10 Wcc.len optV

theorem eqZAttr (w : World) : (binOp .eql 40 (.agg attrZ.vals.toArray) (.agg #[.int .i64 0, .int .i64 0, .int .i64 0, .int .i64 0, .int .i64 0, .int .i64 0, .int .i64 0, .int .i64 0, .int .i64 0, .int .i64 0])).run Try.prog w = .ok (.bool true) w := eqAttrS attrZ w
theorem eqZPost (w : World) : (binOp .eql 57 (.agg postZ.vals.toArray) (.agg #[.bool false, .int .i64 0, .int .i64 0, .int .i64 0, .int .i64 0, .int .i64 0, .int .i64 0, .int .i64 0, .int .i64 0, .int .i64 0, .int .i64 0])).run Try.prog w = .ok (.bool true) w := eqPostS postZ w
theorem eqZWcc (w : World) : (binOp .eql 61 (.agg wccZ.vals.toArray) (.agg #[.bool false, .int .i64 0, .bool false, .int .i64 0, .int .i64 0, .int .i64 0, .int .i64 0, .int .i64 0, .int .i64 0, .int .i64 0, .int .i64 0, .int .i64 0, .int .i64 0])).run Try.prog w = .ok (.bool true) w := eqWccS wccZ w
theorem eqZSett (w : World) : (binOp .eql 44 (.agg settZ.vals.toArray) (.agg #[.bool false, .int .i64 0, .bool false, .int .i64 0, .bool false, .int .i64 0, .bool false, .int .i64 0, .bool false, .int .i64 0])).run Try.prog w = .ok (.bool true) w := eqSettS settZ w
attribute [local go_sem ↓] eqZAttr eqZPost eqZWcc eqZSett

attribute [local go_sem] guardAttrR guardPost guardWcc guardSett

set_option maxRecDepth 100000 in
set_option maxHeartbeats 6400000 in
theorem attrNil_any (p : Post) (c : Wcc) (s : Sett) (w : World) : Calls Try.prog 8 #[.agg p.vals.toArray, .agg c.vals.toArray, .agg s.vals.toArray] w fun e w' => e = .returned (.bool true) ∧ Below w.heap.size w w' := by
  obtain ⟨bp, bc, bs, hB0, -⟩ := chain3_blks w p.vals c.vals s.vals 57 61 44
  go_enter Try.func8, Try.ntmps8
  go_wp2_with fail
  change Calls _ _ _ (((w.alloc (.cells p.vals.toArray 57)).alloc (.cells c.vals.toArray 61)).alloc (.cells s.vals.toArray 44)) _
  generalize ((w.alloc (.cells p.vals.toArray 57)).alloc (.cells c.vals.toArray 61)).alloc (.cells s.vals.toArray 44) = u at *
  refine (getAttr_nil _).mono ?_
  rintro e q0 ⟨rfl, hb⟩
  unfold gotV
  have hB1 := (below_then hB0 hb).alloc (below_then hB0 hb).size (.cells attrZ.vals.toArray 40)
  have bp := (bp.stays hb).alloc (.cells attrZ.vals.toArray 40)
  have bc := (bc.stays hb).alloc (.cells attrZ.vals.toArray 40)
  have bs := (bs.stays hb).alloc (.cells attrZ.vals.toArray 40)
  have b0 := Blk.new q0 40 attrZ.vals
  obtain ⟨u0, hu⟩ : ∃ u, u = q0.alloc (.cells attrZ.vals.toArray 40) := ⟨_, rfl⟩
  rw [← hu] at hB1 bp bc bs b0
  have HU0 := Lib.hid hu
  clear hu hb hB0
  go_wp2_with (first | (refine wpList_new_struct (by rfl) (by rfl) 40 (by rfl) _ _ (by rfl) attrZ.vals infoAttrR (by rfl) (by rfl) (Attr.one _) (by rfl) (by rfl) ?_; rw [← HU0.out]) | fail)
  refine (getPost_nil _).mono ?_
  rintro e q1 ⟨rfl, hb⟩
  unfold gotV
  have hB2 := (below_then hB1 hb).alloc (below_then hB1 hb).size (.cells postZ.vals.toArray 57)
  have bp := (bp.stays hb).alloc (.cells postZ.vals.toArray 57)
  have bc := (bc.stays hb).alloc (.cells postZ.vals.toArray 57)
  have bs := (bs.stays hb).alloc (.cells postZ.vals.toArray 57)
  have b0 := (b0.stays hb).alloc (.cells postZ.vals.toArray 57)
  have b1 := Blk.new q1 57 postZ.vals
  obtain ⟨u1, hu⟩ : ∃ u, u = q1.alloc (.cells postZ.vals.toArray 57) := ⟨_, rfl⟩
  rw [← hu] at hB2 bp bc bs b0 b1
  have HU1 := Lib.hid hu
  clear hu hb hB1
  go_wp2_with (first | (refine wpList_new_struct (by rfl) (by rfl) 57 (by rfl) _ _ (by rfl) postZ.vals infoPostR (by rfl) (by rfl) (Post.one _) (by rfl) (by rfl) ?_; rw [← HU1.out]) | fail)
  refine (getWcc_nil _).mono ?_
  rintro e q2 ⟨rfl, hb⟩
  unfold gotV
  have hB3 := (below_then hB2 hb).alloc (below_then hB2 hb).size (.cells wccZ.vals.toArray 61)
  have bp := (bp.stays hb).alloc (.cells wccZ.vals.toArray 61)
  have bc := (bc.stays hb).alloc (.cells wccZ.vals.toArray 61)
  have bs := (bs.stays hb).alloc (.cells wccZ.vals.toArray 61)
  have b0 := (b0.stays hb).alloc (.cells wccZ.vals.toArray 61)
  have b1 := (b1.stays hb).alloc (.cells wccZ.vals.toArray 61)
  have b2 := Blk.new q2 61 wccZ.vals
  obtain ⟨u2, hu⟩ : ∃ u, u = q2.alloc (.cells wccZ.vals.toArray 61) := ⟨_, rfl⟩
  rw [← hu] at hB3 bp bc bs b0 b1 b2
  have HU2 := Lib.hid hu
  clear hu hb hB2
  go_wp2_with (first | (refine wpList_new_struct (by rfl) (by rfl) 61 (by rfl) _ _ (by rfl) wccZ.vals infoWccR (by rfl) (by rfl) (Wcc.one _) (by rfl) (by rfl) ?_; rw [← HU2.out]) | fail)
  refine (getSett_nil _).mono ?_
  rintro e q3 ⟨rfl, hb⟩
  unfold gotV
  have hB4 := (below_then hB3 hb).alloc (below_then hB3 hb).size (.cells settZ.vals.toArray 44)
  have bp := (bp.stays hb).alloc (.cells settZ.vals.toArray 44)
  have bc := (bc.stays hb).alloc (.cells settZ.vals.toArray 44)
  have bs := (bs.stays hb).alloc (.cells settZ.vals.toArray 44)
  have b0 := (b0.stays hb).alloc (.cells settZ.vals.toArray 44)
  have b1 := (b1.stays hb).alloc (.cells settZ.vals.toArray 44)
  have b2 := (b2.stays hb).alloc (.cells settZ.vals.toArray 44)
  have b3 := Blk.new q3 44 settZ.vals
  obtain ⟨u3, hu⟩ : ∃ u, u = q3.alloc (.cells settZ.vals.toArray 44) := ⟨_, rfl⟩
  rw [← hu] at hB4 bp bc bs b0 b1 b2 b3
  have HU3 := Lib.hid hu
  clear hu hb hB3
  have r0 := b0.row 0 10 (by simp [Attr.len])
  rw [List.drop_zero, List.take_of_length_le (by simp [Attr.len])] at r0
  clear b0
  have r1 := b1.row 0 11 (by simp [Post.len])
  rw [List.drop_zero, List.take_of_length_le (by simp [Post.len])] at r1
  clear b1
  have r2 := b2.row 0 13 (by simp [Wcc.len])
  rw [List.drop_zero, List.take_of_length_le (by simp [Wcc.len])] at r2
  clear b2
  have r3 := b3.row 0 10 (by simp [Sett.len])
  rw [List.drop_zero, List.take_of_length_le (by simp [Sett.len])] at r3
  clear b3
  have rp1 : rowOf u3 w.heap.size 1 10 = some p.attr.vals.toArray := bp.row 1 10 (by simp [Post.len])
  have rp := bp.row 0 11 (by simp [Post.len])
  rw [List.drop_zero, List.take_of_length_le (by simp [Post.len])] at rp
  have rc := bc.row 0 13 (by simp [Wcc.len])
  rw [List.drop_zero, List.take_of_length_le (by simp [Wcc.len])] at rc
  have rs := bs.row 0 10 (by simp [Sett.len])
  rw [List.drop_zero, List.take_of_length_le (by simp [Sett.len])] at rs
  clear rs rc rp
  go_wp2_with (first | (refine wpList_new_struct (by rfl) (by rfl) 44 (by rfl) _ _ (by rfl) settZ.vals infoSettR (by rfl) (by rfl) (Sett.one _) (by rfl) (by rfl) ?_; rw [← HU3.out]) | fail)
  refine (putAttr_nil p.attr _).mono ?_
  rintro e w4 ⟨rfl, hb⟩
  have hB5 := below_then hB4 hb
  have bp := bp.stays hb
  have bc := bc.stays hb
  have bs := bs.stays hb
  have rp := bp.row 0 11 (by simp [Post.len])
  rw [List.drop_zero, List.take_of_length_le (by simp [Post.len])] at rp
  clear rp1 bp hb hB4
  go_wp2_with fail
  refine (putPost_nil p _).mono ?_
  rintro e w5 ⟨rfl, hb⟩
  have hB6 := below_then hB5 hb
  have bc := bc.stays hb
  have bs := bs.stays hb
  have rc := bc.row 0 13 (by simp [Wcc.len])
  rw [List.drop_zero, List.take_of_length_le (by simp [Wcc.len])] at rc
  clear rp bc hb hB5
  go_wp2_with fail
  refine (putWcc_nil c _).mono ?_
  rintro e w6 ⟨rfl, hb⟩
  have hB7 := below_then hB6 hb
  have rs := (bs.stays hb).row 0 10 (by simp [Sett.len])
  rw [List.drop_zero, List.take_of_length_le (by simp [Sett.len])] at rs
  clear rc bs hb hB6
  go_wp2_with fail
  refine (putSet_nil s _).mono ?_
  rintro e w7 ⟨rfl, hb⟩
  have hB8 := below_then hB7 hb
  go_wp2_with fail
  refine (known5_any _).mono ?_
  rintro e w8 ⟨rfl, hb⟩
  go_wp2
  go_ret
  exact ⟨rfl, below_then hB8 hb⟩
end Go.Proofs.Ytbpfniocaibfcaa
