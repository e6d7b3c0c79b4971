/-
  Layer 5, walks: the law AttrGets. No condition but machine texts.
-/
import Derived.Test.YtbpfniocaibfcaaAttrReadG
import Derived.Test.YtbpfniocaibfcaaAttrWalkG
namespace Go.Proofs.Ytbpfniocaibfcaa
open Go.RowKit
attribute [local go_sem ↓] Go.wp_at_zero Go.wp_at_succ
attribute [local go_sem] rowAt_ptr rowOf_drew rowOf_drewN rowOf_alloc_past rowOf_new
attribute [local go_sem ↓] ldAttrR ldOpt ldSet ldPost ldWcc

attribute [local go_sem] Attr.at0 Attr.lat0 Attr.at1 Attr.lat1 Attr.at2 Attr.lat2 Attr.at3 Attr.lat3 Attr.at4 Attr.lat4 Attr.at5 Attr.lat5 Attr.at6 Attr.lat6 Attr.at7 Attr.lat7 Attr.at8 Attr.lat8 Attr.at9 Attr.lat9 Attr.sub0_10 Attr.lsub0_10 Attr.len Opt.at0 Opt.lat0 Opt.at1 Opt.lat1 Opt.sub0_2 Opt.lsub0_2 Opt.len Sett.at0 Sett.lat0 Sett.at1 Sett.lat1 Sett.at2 Sett.lat2 Sett.at3 Sett.lat3 Sett.at4 Sett.lat4 Sett.at5 Sett.lat5 Sett.at6 Sett.lat6 Sett.at7 Sett.lat7 Sett.at8 Sett.lat8 Sett.at9 Sett.lat9 Sett.sub0_10 Sett.lsub0_10 Sett.sub0_2 Sett.lsub0_2 Sett.sub2_2 Sett.lsub2_2 Sett.sub4_2 Sett.lsub4_2 Sett.sub6_2 Sett.lsub6_2 Sett.sub8_2 Sett.lsub8_2 Sett.len Post.at0 Post.lat0 Post.at1 Post.lat1 Post.at2 Post.lat2 Post.at3 Post.lat3 Post.at4 Post.lat4 Post.at5 Post.lat5 Post.at6 Post.lat6 Post.at7 Post.lat7 Post.at8 Post.lat8 Post.at9 Post.lat9 Post.at10 Post.lat10 Post.sub0_11 Post.lsub0_11 Post.sub1_10 Post.lsub1_10 Post.len Wcc.at0 Wcc.lat0 Wcc.at1 Wcc.lat1 Wcc.at2 Wcc.lat2 Wcc.at3 Wcc.lat3 Wcc.at4 Wcc.lat4 Wcc.at5 Wcc.lat5 Wcc.at6 Wcc.lat6 Wcc.at7 Wcc.lat7 Wcc.at8 Wcc.lat8 Wcc.at9 Wcc.lat9 Wcc.at10 Wcc.lat10 Wcc.at11 Wcc.lat11 Wcc.at12 Wcc.lat12 Wcc.sub0_13 Wcc.lsub0_13 Wcc.sub0_2 Wcc.lsub0_2 Wcc.sub2_11 Wcc.lsub2_11 Wcc.sub3_10 Wcc.lsub3_10 Wcc.len optV

theorem infoWccR : (Try.prog.info? 61).map (fun i => (i.zero, i.size)) = some (some (.agg wccZ.vals.toArray), 13) := by kernel_rfl
theorem infoSettR : (Try.prog.info? 44).map (fun i => (i.zero, i.size)) = some (some (.agg settZ.vals.toArray), 10) := by kernel_rfl
theorem guardPost : Try.prog.eqGuardType Try.prog.depth 57 = false := by kernel_rfl
theorem guardWcc : Try.prog.eqGuardType Try.prog.depth 61 = false := by kernel_rfl
theorem guardSett : Try.prog.eqGuardType Try.prog.depth 44 = false := by kernel_rfl
def lfPost : List Leaf := .b :: List.replicate 10 (.i .i64)
def lfWcc : List Leaf := [.b, .i .i64] ++ lfPost
def lfSett : List Leaf := [.b, .i .i64, .b, .i .i64, .b, .i .i64, .b, .i .i64, .b, .i .i64]
theorem leafsPost : leafs Try.prog 8 57 = some lfPost := by kernel_rfl
theorem leafsWcc : leafs Try.prog 8 61 = some lfWcc := by kernel_rfl
theorem leafsSett : leafs Try.prog 8 44 = some lfSett := by kernel_rfl
theorem eqAttrS (a : Attr) (w : World) : (binOp .eql 40 (.agg a.vals.toArray) (.agg a.vals.toArray)).run Try.prog w = .ok (.bool true) w := eql_same leafsAttrR (by kernel_rfl) w _ _ (fitsAttrR a) rfl
theorem eqPostS (a : Post) (w : World) : (binOp .eql 57 (.agg a.vals.toArray) (.agg a.vals.toArray)).run Try.prog w = .ok (.bool true) w := eql_same leafsPost (by kernel_rfl) w _ a.vals (by rfl) rfl
theorem eqWccS (a : Wcc) (w : World) : (binOp .eql 61 (.agg a.vals.toArray) (.agg a.vals.toArray)).run Try.prog w = .ok (.bool true) w := eql_same leafsWcc (by kernel_rfl) w _ a.vals (by rfl) rfl
theorem eqSettS (a : Sett) (w : World) : (binOp .eql 44 (.agg a.vals.toArray) (.agg a.vals.toArray)).run Try.prog w = .ok (.bool true) w := eql_same leafsSett (by kernel_rfl) w _ a.vals (by rfl) rfl
attribute [local go_sem ↓] eqAttrS eqPostS eqWccS eqSettS

attribute [local go_sem] guardAttrR guardPost guardWcc guardSett

theorem Rd.fresh (w : World) (l : List UInt8) : Rd (w.alloc (.cells #[.string (bs l), .int .i64 0] 98)) w.heap.size ⟨l, 0⟩ := ⟨Blk.new w _ [.string (bs l), .int .i64 0], fun h => absurd rfl h⟩
theorem RdF.fresh (w : World) (l : List UInt8) (hl : l.length ≤ 9223372036854775807) : RdF (w.alloc (.cells #[.string (bs l), .int .i64 0, .int .i64 0] 69)) w.heap.size ⟨l, 0⟩ := ⟨l, 0, Blk.new w _ [.string (bs l), .int .i64 0, .int .i64 0], by omega, hl, fun _ => rfl, fun h => absurd rfl h⟩
theorem xRead_any (l : List UInt8) (w : World) : Calls Try.prog 27 #[.string (bs l)] w fun e w' => ∃ g, e = .returned (.pointer (some ⟨g, 0, none⟩)) ∧ Rd w' g ⟨l, 0⟩ ∧ Below w.heap.size w w' ∧ w.heap.size ≤ g := by
  have h := Rd.fresh w l
  go_enter Try.func27, Try.ntmps27
  go_wp2
  go_ret
  exact ⟨_, rfl, h, (Below.refl _ _).alloc (Nat.le_refl _) _, Nat.le_refl _⟩

set_option maxRecDepth 100000 in
set_option maxHeartbeats 6400000 in
theorem attrGets_any (l : List UInt8) (w : World) (hl : l.length ≤ maxLen) : Calls Try.prog 7 #[.string (bs l)] w fun e w' => e = .returned (.bool true) ∧ Below w.heap.size w w' := by
  unfold maxLen at hl
  have hl : l.length ≤ 9223372036854775807 := by omega
  have hsz := bs_size l
  by_cases hlen : 400 < l.length
  · go_enter Try.func7, Try.ntmps7
    go_wp2_with fail
    refine (known5_any _).mono ?_
    rintro e w1 ⟨rfl, hb⟩
    go_wp2
    go_ret
    exact ⟨rfl, hb⟩
  · have hB0 := Below.refl w.heap.size w
    obtain ⟨y0, hy0⟩ : ∃ y, y = gotR Attr.ok attrZ (rAttr ⟨l, 0⟩) := ⟨_, rfl⟩
    obtain ⟨y0a, y0b⟩ := y0
    have HY0 := Lib.hid hy0
    clear hy0
    obtain ⟨y1, hy1⟩ : ∃ y, y = gotR Post.ok postZ (rPost ⟨l, 0⟩) := ⟨_, rfl⟩
    obtain ⟨y1a, y1b⟩ := y1
    have HY1 := Lib.hid hy1
    clear hy1
    obtain ⟨y2, hy2⟩ : ∃ y, y = gotR Wcc.ok wccZ (rWcc ⟨l, 0⟩) := ⟨_, rfl⟩
    obtain ⟨y2a, y2b⟩ := y2
    have HY2 := Lib.hid hy2
    clear hy2
    obtain ⟨y3, hy3⟩ : ∃ y, y = gotR Sett.ok settZ (rSett ⟨l, 0⟩) := ⟨_, rfl⟩
    obtain ⟨y3a, y3b⟩ := y3
    have HY3 := Lib.hid hy3
    clear hy3
    go_enter Try.func7, Try.ntmps7
    go_wp2_with fail
    refine (xRead_any l _).mono ?_
    rintro e p0 ⟨g0, rfl, hR, hb, hg⟩
    go_wp2_with fail
    refine (getAttr_any g0 ⟨l, 0⟩ _ hR hl).mono ?_
    rintro e q0 ⟨he, hQ⟩
    rw [← HY0.out] at he
    subst he
    unfold gotV
    have hbq : Below w.heap.size w q0 := hb.trans (hQ.below hg hb.size)
    have hB1 := (below_then hB0 hbq).alloc (below_then hB0 hbq).size (.cells y0a.vals.toArray 40)
    have b0 := Blk.new q0 40 y0a.vals
    obtain ⟨u0, hu⟩ : ∃ u, u = q0.alloc (.cells y0a.vals.toArray 40) := ⟨_, rfl⟩
    rw [← hu] at hB1 b0
    have HU0 := Lib.hid hu
    clear hu hR hb hg hQ hbq hB0
    go_wp2_with (first | (refine wpList_new_struct (by rfl) (by rfl) 40 (by rfl) _ _ (by rfl) y0a.vals infoAttrR (by rfl) (by rfl) (Attr.one _) (by rfl) (by rfl) ?_; rw [← HU0.out]) | fail)
    refine (xRead_any l _).mono ?_
    rintro e p1 ⟨g1, rfl, hR, hb, hg⟩
    go_wp2_with fail
    refine (getPost_any g1 ⟨l, 0⟩ _ hR hl).mono ?_
    rintro e q1 ⟨he, hQ⟩
    rw [← HY1.out] at he
    subst he
    unfold gotV
    have hbq : Below u0.heap.size u0 q1 := hb.trans (hQ.below hg hb.size)
    have hB2 := (below_then hB1 hbq).alloc (below_then hB1 hbq).size (.cells y1a.vals.toArray 57)
    have b0 := (b0.stays hbq).alloc (.cells y1a.vals.toArray 57)
    have b1 := Blk.new q1 57 y1a.vals
    obtain ⟨u1, hu⟩ : ∃ u, u = q1.alloc (.cells y1a.vals.toArray 57) := ⟨_, rfl⟩
    rw [← hu] at hB2 b0 b1
    have HU1 := Lib.hid hu
    clear hu hR hb hg hQ hbq hB1
    go_wp2_with (first | (refine wpList_new_struct (by rfl) (by rfl) 57 (by rfl) _ _ (by rfl) y1a.vals infoPostR (by rfl) (by rfl) (Post.one _) (by rfl) (by rfl) ?_; rw [← HU1.out]) | fail)
    refine (xRead_any l _).mono ?_
    rintro e p2 ⟨g2, rfl, hR, hb, hg⟩
    go_wp2_with fail
    refine (getWcc_any g2 ⟨l, 0⟩ _ hR hl).mono ?_
    rintro e q2 ⟨he, hQ⟩
    rw [← HY2.out] at he
    subst he
    unfold gotV
    have hbq : Below u1.heap.size u1 q2 := hb.trans (hQ.below hg hb.size)
    have hB3 := (below_then hB2 hbq).alloc (below_then hB2 hbq).size (.cells y2a.vals.toArray 61)
    have b0 := (b0.stays hbq).alloc (.cells y2a.vals.toArray 61)
    have b1 := (b1.stays hbq).alloc (.cells y2a.vals.toArray 61)
    have b2 := Blk.new q2 61 y2a.vals
    obtain ⟨u2, hu⟩ : ∃ u, u = q2.alloc (.cells y2a.vals.toArray 61) := ⟨_, rfl⟩
    rw [← hu] at hB3 b0 b1 b2
    have HU2 := Lib.hid hu
    clear hu hR hb hg hQ hbq hB2
    go_wp2_with (first | (refine wpList_new_struct (by rfl) (by rfl) 61 (by rfl) _ _ (by rfl) y2a.vals infoWccR (by rfl) (by rfl) (Wcc.one _) (by rfl) (by rfl) ?_; rw [← HU2.out]) | fail)
    refine (xRead_any l _).mono ?_
    rintro e p3 ⟨g3, rfl, hR, hb, hg⟩
    go_wp2_with fail
    refine (getSett_any g3 ⟨l, 0⟩ _ hR hl).mono ?_
    rintro e q3 ⟨he, hQ⟩
    rw [← HY3.out] at he
    subst he
    unfold gotV
    have hbq : Below u2.heap.size u2 q3 := hb.trans (hQ.below hg hb.size)
    have hB4 := (below_then hB3 hbq).alloc (below_then hB3 hbq).size (.cells y3a.vals.toArray 44)
    have b0 := (b0.stays hbq).alloc (.cells y3a.vals.toArray 44)
    have b1 := (b1.stays hbq).alloc (.cells y3a.vals.toArray 44)
    have b2 := (b2.stays hbq).alloc (.cells y3a.vals.toArray 44)
    have b3 := Blk.new q3 44 y3a.vals
    obtain ⟨u3, hu⟩ : ∃ u, u = q3.alloc (.cells y3a.vals.toArray 44) := ⟨_, rfl⟩
    rw [← hu] at hB4 b0 b1 b2 b3
    have HU3 := Lib.hid hu
    clear hu hR hb hg hQ hbq hB3
    go_wp2_with (first | (refine wpList_new_struct (by rfl) (by rfl) 44 (by rfl) _ _ (by rfl) y3a.vals infoSettR (by rfl) (by rfl) (Sett.one _) (by rfl) (by rfl) ?_; rw [← HU3.out]) | fail)
    have hR := RdF.fresh u3 l hl
    have hb : Below u3.heap.size u3 (u3.alloc (.cells #[.string (bs l), .int .i64 0, .int .i64 0] 69)) := (Below.refl _ _).alloc (Nat.le_refl _) _
    have hg := Nat.le_refl u3.heap.size
    generalize u3.alloc (.cells #[.string (bs l), .int .i64 0, .int .i64 0] 69) = p4 at *
    refine (refGetAttr_any u3.heap.size ⟨l, 0⟩ _ hR).mono ?_
    rintro e q4 ⟨he, hQ⟩
    rw [← HY0.out] at he
    subst he
    unfold gotV
    have hbq : Below u3.heap.size u3 q4 := hb.trans (hQ.below hg hb.size)
    have hB5 := (below_then hB4 hbq).alloc (below_then hB4 hbq).size (.cells y0a.vals.toArray 40)
    have b0 := (b0.stays hbq).alloc (.cells y0a.vals.toArray 40)
    have b1 := (b1.stays hbq).alloc (.cells y0a.vals.toArray 40)
    have b2 := (b2.stays hbq).alloc (.cells y0a.vals.toArray 40)
    have b3 := (b3.stays hbq).alloc (.cells y0a.vals.toArray 40)
    have b4 := Blk.new q4 40 y0a.vals
    obtain ⟨u4, hu⟩ : ∃ u, u = q4.alloc (.cells y0a.vals.toArray 40) := ⟨_, rfl⟩
    rw [← hu] at hB5 b0 b1 b2 b3 b4
    have HU4 := Lib.hid hu
    clear hu hR hb hg hQ hbq hB4
    go_wp2_with (first | (refine wpList_new_struct (by rfl) (by rfl) 40 (by rfl) _ _ (by rfl) y0a.vals infoAttrR (by rfl) (by rfl) (Attr.one _) (by rfl) (by rfl) ?_; rw [← HU4.out]) | fail)
    have hR := RdF.fresh u4 l hl
    have hb : Below u4.heap.size u4 (u4.alloc (.cells #[.string (bs l), .int .i64 0, .int .i64 0] 69)) := (Below.refl _ _).alloc (Nat.le_refl _) _
    have hg := Nat.le_refl u4.heap.size
    generalize u4.alloc (.cells #[.string (bs l), .int .i64 0, .int .i64 0] 69) = p5 at *
    refine (refGetPost_any u4.heap.size ⟨l, 0⟩ _ hR).mono ?_
    rintro e q5 ⟨he, hQ⟩
    rw [← HY1.out] at he
    subst he
    unfold gotV
    have hbq : Below u4.heap.size u4 q5 := hb.trans (hQ.below hg hb.size)
    have hB6 := (below_then hB5 hbq).alloc (below_then hB5 hbq).size (.cells y1a.vals.toArray 57)
    have b0 := (b0.stays hbq).alloc (.cells y1a.vals.toArray 57)
    have b1 := (b1.stays hbq).alloc (.cells y1a.vals.toArray 57)
    have b2 := (b2.stays hbq).alloc (.cells y1a.vals.toArray 57)
    have b3 := (b3.stays hbq).alloc (.cells y1a.vals.toArray 57)
    have b4 := (b4.stays hbq).alloc (.cells y1a.vals.toArray 57)
    have b5 := Blk.new q5 57 y1a.vals
    obtain ⟨u5, hu⟩ : ∃ u, u = q5.alloc (.cells y1a.vals.toArray 57) := ⟨_, rfl⟩
    rw [← hu] at hB6 b0 b1 b2 b3 b4 b5
    have HU5 := Lib.hid hu
    clear hu hR hb hg hQ hbq hB5
    go_wp2_with (first | (refine wpList_new_struct (by rfl) (by rfl) 57 (by rfl) _ _ (by rfl) y1a.vals infoPostR (by rfl) (by rfl) (Post.one _) (by rfl) (by rfl) ?_; rw [← HU5.out]) | fail)
    have hR := RdF.fresh u5 l hl
    have hb : Below u5.heap.size u5 (u5.alloc (.cells #[.string (bs l), .int .i64 0, .int .i64 0] 69)) := (Below.refl _ _).alloc (Nat.le_refl _) _
    have hg := Nat.le_refl u5.heap.size
    generalize u5.alloc (.cells #[.string (bs l), .int .i64 0, .int .i64 0] 69) = p6 at *
    refine (refGetWcc_any u5.heap.size ⟨l, 0⟩ _ hR).mono ?_
    rintro e q6 ⟨he, hQ⟩
    rw [← HY2.out] at he
    subst he
    unfold gotV
    have hbq : Below u5.heap.size u5 q6 := hb.trans (hQ.below hg hb.size)
    have hB7 := (below_then hB6 hbq).alloc (below_then hB6 hbq).size (.cells y2a.vals.toArray 61)
    have b0 := (b0.stays hbq).alloc (.cells y2a.vals.toArray 61)
    have b1 := (b1.stays hbq).alloc (.cells y2a.vals.toArray 61)
    have b2 := (b2.stays hbq).alloc (.cells y2a.vals.toArray 61)
    have b3 := (b3.stays hbq).alloc (.cells y2a.vals.toArray 61)
    have b4 := (b4.stays hbq).alloc (.cells y2a.vals.toArray 61)
    have b5 := (b5.stays hbq).alloc (.cells y2a.vals.toArray 61)
    have b6 := Blk.new q6 61 y2a.vals
    obtain ⟨u6, hu⟩ : ∃ u, u = q6.alloc (.cells y2a.vals.toArray 61) := ⟨_, rfl⟩
    rw [← hu] at hB7 b0 b1 b2 b3 b4 b5 b6
    have HU6 := Lib.hid hu
    clear hu hR hb hg hQ hbq hB6
    go_wp2_with (first | (refine wpList_new_struct (by rfl) (by rfl) 61 (by rfl) _ _ (by rfl) y2a.vals infoWccR (by rfl) (by rfl) (Wcc.one _) (by rfl) (by rfl) ?_; rw [← HU6.out]) | fail)
    have hR := RdF.fresh u6 l hl
    have hb : Below u6.heap.size u6 (u6.alloc (.cells #[.string (bs l), .int .i64 0, .int .i64 0] 69)) := (Below.refl _ _).alloc (Nat.le_refl _) _
    have hg := Nat.le_refl u6.heap.size
    generalize u6.alloc (.cells #[.string (bs l), .int .i64 0, .int .i64 0] 69) = p7 at *
    refine (refGetSett_any u6.heap.size ⟨l, 0⟩ _ hR).mono ?_
    rintro e q7 ⟨he, hQ⟩
    rw [← HY3.out] at he
    subst he
    unfold gotV
    have hbq : Below u6.heap.size u6 q7 := hb.trans (hQ.below hg hb.size)
    have hB8 := (below_then hB7 hbq).alloc (below_then hB7 hbq).size (.cells y3a.vals.toArray 44)
    have b0 := (b0.stays hbq).alloc (.cells y3a.vals.toArray 44)
    have b1 := (b1.stays hbq).alloc (.cells y3a.vals.toArray 44)
    have b2 := (b2.stays hbq).alloc (.cells y3a.vals.toArray 44)
    have b3 := (b3.stays hbq).alloc (.cells y3a.vals.toArray 44)
    have b4 := (b4.stays hbq).alloc (.cells y3a.vals.toArray 44)
    have b5 := (b5.stays hbq).alloc (.cells y3a.vals.toArray 44)
    have b6 := (b6.stays hbq).alloc (.cells y3a.vals.toArray 44)
    have b7 := Blk.new q7 44 y3a.vals
    obtain ⟨u7, hu⟩ : ∃ u, u = q7.alloc (.cells y3a.vals.toArray 44) := ⟨_, rfl⟩
    rw [← hu] at hB8 b0 b1 b2 b3 b4 b5 b6 b7
    have HU7 := Lib.hid hu
    clear hu hR hb hg hQ hbq hB7
    have r0 := b0.row 0 10 (by simp [Attr.len])
    rw [List.drop_zero, List.take_of_length_le (by simp [Attr.len])] at r0
    have r1 := b1.row 0 11 (by simp [Post.len])
    rw [List.drop_zero, List.take_of_length_le (by simp [Post.len])] at r1
    have r2 := b2.row 0 13 (by simp [Wcc.len])
    rw [List.drop_zero, List.take_of_length_le (by simp [Wcc.len])] at r2
    have r3 := b3.row 0 10 (by simp [Sett.len])
    rw [List.drop_zero, List.take_of_length_le (by simp [Sett.len])] at r3
    have r4 := b4.row 0 10 (by simp [Attr.len])
    rw [List.drop_zero, List.take_of_length_le (by simp [Attr.len])] at r4
    have r5 := b5.row 0 11 (by simp [Post.len])
    rw [List.drop_zero, List.take_of_length_le (by simp [Post.len])] at r5
    have r6 := b6.row 0 13 (by simp [Wcc.len])
    rw [List.drop_zero, List.take_of_length_le (by simp [Wcc.len])] at r6
    have r7 := b7.row 0 10 (by simp [Sett.len])
    rw [List.drop_zero, List.take_of_length_le (by simp [Sett.len])] at r7
    clear b0 b1 b2 b3 b4 b5 b6 b7
    go_wp2_with (first | (refine wpList_new_struct (by rfl) (by rfl) 44 (by rfl) _ _ (by rfl) y3a.vals infoSettR (by rfl) (by rfl) (Sett.one _) (by rfl) (by rfl) ?_; rw [← HU7.out]) | fail)
    refine (known5_any _).mono ?_
    rintro e w9 ⟨rfl, hb⟩
    go_wp2
    go_ret
    exact ⟨rfl, below_then hB8 hb⟩
end Go.Proofs.Ytbpfniocaibfcaa
