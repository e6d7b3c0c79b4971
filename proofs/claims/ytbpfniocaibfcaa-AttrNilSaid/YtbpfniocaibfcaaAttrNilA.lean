/-
  Layers 1 and 5, walks: of no reader nothing is read, and nothing is got. No condition.
-/
import Derived.Test.YtbpfniocaibfcaaAttrReadG
namespace Go.Proofs.Ytbpfniocaibfcaa
open Go.RowKit
attribute [local go_sem ↓] Go.wp_at_zero Go.wp_at_succ
attribute [local go_sem] rowAt_ptr rowOf_drew rowOf_drewN rowOf_alloc_past rowOf_new
attribute [local go_sem ↓] ldAttrR ldOpt ldSet ldPost ldWcc

attribute [local go_sem] Attr.at0 Attr.lat0 Attr.at1 Attr.lat1 Attr.at2 Attr.lat2 Attr.at3 Attr.lat3 Attr.at4 Attr.lat4 Attr.at5 Attr.lat5 Attr.at6 Attr.lat6 Attr.at7 Attr.lat7 Attr.at8 Attr.lat8 Attr.at9 Attr.lat9 Attr.sub0_10 Attr.lsub0_10 Attr.len Opt.at0 Opt.lat0 Opt.at1 Opt.lat1 Opt.sub0_2 Opt.lsub0_2 Opt.len Sett.at0 Sett.lat0 Sett.at1 Sett.lat1 Sett.at2 Sett.lat2 Sett.at3 Sett.lat3 Sett.at4 Sett.lat4 Sett.at5 Sett.lat5 Sett.at6 Sett.lat6 Sett.at7 Sett.lat7 Sett.at8 Sett.lat8 Sett.at9 Sett.lat9 Sett.sub0_10 Sett.lsub0_10 Sett.sub0_2 Sett.lsub0_2 Sett.sub2_2 Sett.lsub2_2 Sett.sub4_2 Sett.lsub4_2 Sett.sub6_2 Sett.lsub6_2 Sett.sub8_2 Sett.lsub8_2 Sett.len Post.at0 Post.lat0 Post.at1 Post.lat1 Post.at2 Post.lat2 Post.at3 Post.lat3 Post.at4 Post.lat4 Post.at5 Post.lat5 Post.at6 Post.lat6 Post.at7 Post.lat7 Post.at8 Post.lat8 Post.at9 Post.lat9 Post.at10 Post.lat10 Post.sub0_11 Post.lsub0_11 Post.sub1_10 Post.lsub1_10 Post.len Wcc.at0 Wcc.lat0 Wcc.at1 Wcc.lat1 Wcc.at2 Wcc.lat2 Wcc.at3 Wcc.lat3 Wcc.at4 Wcc.lat4 Wcc.at5 Wcc.lat5 Wcc.at6 Wcc.lat6 Wcc.at7 Wcc.lat7 Wcc.at8 Wcc.lat8 Wcc.at9 Wcc.lat9 Wcc.at10 Wcc.lat10 Wcc.at11 Wcc.lat11 Wcc.at12 Wcc.lat12 Wcc.sub0_13 Wcc.lsub0_13 Wcc.sub0_2 Wcc.lsub0_2 Wcc.sub2_11 Wcc.lsub2_11 Wcc.sub3_10 Wcc.lsub3_10 Wcc.len optV

theorem take_nil (n : Int) (f : Value) (w : World) : Calls Try.prog 82 #[.pointer none, .int .i64 n, f] w fun e w' => e = .returned (.tuple #[]) ∧ w = w' := by
  go_enter Try.func82, Try.ntmps82
  go_wp2_with fail
  refine (rErr_nil _).mono ?_
  rintro e w1 ⟨rfl, rfl⟩
  go_wp2
  exact bodyPost_ret (results_none Try.results82 _ _ _) rfl ⟨rfl, rfl⟩
theorem rNumber_nil (k : Int) (w : World) : Calls Try.prog 80 #[.pointer none, .int .i64 k] w fun e w' => e = .returned (.int .u64 0) ∧ Below w.heap.size w w' := by
  have hc := (Blk.new w 117 [.int .u64 0]).cell
  go_enter Try.func80, Try.ntmps80
  go_wp2_with fail
  refine (take_nil _ _ _).mono ?_
  rintro e w1 ⟨rfl, rfl⟩
  go_wp2
  go_ret
  exact ⟨rfl, (Below.refl _ _).alloc (Nat.le_refl _) _⟩
theorem rU32_nil (w : World) : Calls Try.prog 73 #[.pointer none] w fun e w' => e = .returned (.int .i64 0) ∧ Below w.heap.size w w' := by
  go_enter Try.func73, Try.ntmps73
  go_wp2_with fail
  refine (rNumber_nil 4 _).mono ?_
  rintro e w1 ⟨rfl, hb⟩
  go_wp2
  go_ret
  exact ⟨rfl, hb⟩
theorem rU64_nil (w : World) : Calls Try.prog 74 #[.pointer none] w fun e w' => e = .returned (.int .i64 0) ∧ Below w.heap.size w w' := by
  go_enter Try.func74, Try.ntmps74
  go_wp2_with fail
  refine (rNumber_nil 8 _).mono ?_
  rintro e w1 ⟨rfl, hb⟩
  go_wp2
  go_ret
  exact ⟨rfl, hb⟩
theorem rBool_nil (w : World) : Calls Try.prog 77 #[.pointer none] w fun e w' => e = .returned (.bool false) ∧ Below w.heap.size w w' := by
  go_enter Try.func77, Try.ntmps77
  go_wp2_with fail
  refine (rU32_nil _).mono ?_
  rintro e w1 ⟨rfl, hb⟩
  go_wp2
  go_ret
  exact ⟨rfl, hb⟩
set_option maxHeartbeats 800000 in
theorem rOpt_nil (w : World) : Calls Try.prog 59 #[.pointer none] w fun e w' => e = .returned (.agg (optV (false, 0)).toArray) ∧ Below w.heap.size w w' := by
  have hb0 := Blk.new w 42 (optV (false, 0))
  have hB : Below w.heap.size w (w.alloc (.cells (optV (false, 0)).toArray 42)) := (Below.refl _ _).alloc (Nat.le_refl _) _
  go_enter Try.func59, Try.ntmps59
  go_wp2_with fail
  change Calls _ _ _ (w.alloc (.cells (optV (false, 0)).toArray 42)) _
  generalize w.alloc (.cells (optV (false, 0)).toArray 42) = w0 at *
  refine (rBool_nil _).mono ?_
  rintro e w1 ⟨rfl, hb⟩
  have hb1 := hb0.stays hb
  have hB1 := below_then hB hb
  clear hb hb0 hB
  go_wp2_with (first | (refine wpList_store_whole (by rfl) 42 _ _ (by rfl) w.heap.size (optV (false, 0)) _ hb1 (by rfl) (by rfl) (by rfl) (by kernel_rfl) (optV_one _) ?_) | fail)
  exact ret_cells w.heap.size 0 (optV (false, 0)) Try.results59 Try.underlying42 rfl (by kernel_rfl) rfl (hb1.whole (by rfl)).range rfl ⟨rfl, Below.setWhole hB1 (Nat.le_refl _) _⟩

theorem attrZ_set {k : Nat} (hk : k < 10) : attrZ.vals.set k (.int .i64 0) = attrZ.vals := by
  match k, hk with
  | 0, _ | 1, _ | 2, _ | 3, _ | 4, _ | 5, _ | 6, _ | 7, _ | 8, _ | 9, _ => rfl
/-- noughts are laid into the attributes' box -/
structure NilA (w wx : World) : Prop where
  A : Blk wx (w.heap.size + 1) 40 attrZ.vals
  Z : Blk wx w.heap.size 40 attrZ.vals
  B : Below w.heap.size w wx
theorem NilA.alloc {w wx : World} (h : NilA w wx) (o : Obj) : NilA w (wx.alloc o) := ⟨h.A.alloc o, h.Z.alloc o, h.B.alloc h.B.size o⟩
theorem NilA.step {w wx wy : World} (h : NilA w wx) (hb : Below wx.heap.size wx wy) {k : Nat} (hk : k < 10) : NilA w (wy.setCell ⟨w.heap.size + 1, k, none⟩ (.int .i64 0)) := by
  refine ⟨?_, (h.Z.stays hb).far (p := ⟨w.heap.size + 1, k, none⟩) (by simp) _, (below_then h.B hb).setCell (p := ⟨w.heap.size + 1, k, none⟩) (by simp) _⟩
  have := (h.A.stays hb).set_ k (.int .i64 0)
  rw [attrZ_set hk] at this
  exact this
theorem NilA.cell {w wx wy : World} (h : NilA w wx) (hb : Below wx.heap.size wx wy) : (∀ i, wy.cell? ⟨w.heap.size + 1, i, none⟩ = attrZ.vals[i]?) ∧ ∀ i, wy.frozen? ⟨w.heap.size + 1, i, none⟩ = false := ⟨(h.A.stays hb).cell, (h.A.stays hb).frozen⟩
theorem attrZ_cell {k : Nat} (hk : k < 10) : attrZ.vals[k]? = some (.int .i64 0) := by
  match k, hk with
  | 0, _ | 1, _ | 2, _ | 3, _ | 4, _ | 5, _ | 6, _ | 7, _ | 8, _ | 9, _ => rfl

set_option maxRecDepth 20000 in
set_option maxHeartbeats 3200000 in
theorem attrRead_nil (w : World) : Calls Try.prog 53 #[.pointer none] w fun e w' => e = .returned (.agg attrZ.vals.toArray) ∧ Below w.heap.size w w' := by
  obtain ⟨b0, b1, hB, hsz⟩ := chain2_blks w attrZ.vals attrZ.vals 40 40
  have hS : NilA w ((w.alloc (.cells attrZ.vals.toArray 40)).alloc (.cells attrZ.vals.toArray 40)) := ⟨b1, b0, hB⟩
  have hP := Blk.new ((w.alloc (.cells attrZ.vals.toArray 40)).alloc (.cells attrZ.vals.toArray 40)) 85 (fieldPtrs (w.heap.size + 1) [0, 1, 2, 3, 4])
  rw [hsz] at hP
  clear hsz b0 b1 hB
  go_enter Try.func53, Try.ntmps53
  go_wp2
  change Code.wp _ _ _ _ (((w.alloc (.cells attrZ.vals.toArray 40)).alloc (.cells attrZ.vals.toArray 40)).alloc (.cells (fieldPtrs (w.heap.size + 1) [0, 1, 2, 3, 4]).toArray 85))
  have hS := hS.alloc (.cells (fieldPtrs (w.heap.size + 1) [0, 1, 2, 3, 4]).toArray 85)
  generalize ((w.alloc (.cells attrZ.vals.toArray 40)).alloc (.cells attrZ.vals.toArray 40)).alloc (.cells (fieldPtrs (w.heap.size + 1) [0, 1, 2, 3, 4]).toArray 85) = W0 at *
  go_loopw [15] (fun i wr => ∃ k : Nat, k ≤ 5 ∧ i = .int .i64 k ∧ NilA w wr ∧ Blk wr (w.heap.size + 1 + 1) 85 (fieldPtrs (w.heap.size + 1) [0, 1, 2, 3, 4])) (fun i _ => 5 - (intOf i).toNat)
  case atStart => exact ⟨0, by omega, rfl, hS, hP⟩
  case round =>
    clear hS hP
    obtain ⟨k, hk, rfl, hS, hP⟩ := hrel
    by_cases hlt : k < 5
    · have hp := fieldPtr_at hP (k := k) (by simpa using hlt)
      have hkk : ([0, 1, 2, 3, 4] : List Nat)[k]'(by simpa using hlt) = k := by
        match k, hlt with
        | 0, _ | 1, _ | 2, _ | 3, _ | 4, _ => rfl
      rw [hkk] at hp
      clear hkk
      go_wp2_with fail
      refine (rU32_nil _).mono ?_
      rintro e w4 ⟨rfl, hb⟩
      obtain ⟨hc, hf⟩ := hS.cell hb
      have hz := attrZ_cell (k := k) (by omega)
      have HS := Lib.hid (hS.step hb (k := k) (by omega))
      have HP := Lib.hid ((hP.stays hb).far (p := ⟨w.heap.size + 1, k, none⟩) (by simp) (.int .i64 0))
      clear hS hP hb hp
      go_wp2
      go_roundw
      case rel => exact ⟨k + 1, by omega, by go_num, HS.out, HP.out⟩
      case measure => simp [intOf]; omega
    · obtain rfl : k = 5 := by omega
      clear hP
      go_wp2_with fail
      refine (rU64_nil _).mono ?_
      rintro e w4 ⟨rfl, hb⟩
      obtain ⟨hc, hf⟩ := hS.cell hb
      have hz := attrZ_cell (k := 5) (by omega)
      have hS5 := hS.step hb (k := 5) (by omega)
      clear hS hb
      obtain ⟨w5, hw5⟩ : ∃ x, x = w4.setCell ⟨w.heap.size + 1, 5, none⟩ (.int .i64 0) := ⟨_, rfl⟩
      rw [← hw5] at hS5
      go_wp2_with fail
      rw [← hw5]
      clear hw5 hc hf hz
      refine (rU32_nil _).mono ?_
      rintro e w6 ⟨rfl, hb⟩
      obtain ⟨hc, hf⟩ := hS5.cell hb
      have hz := attrZ_cell (k := 6) (by omega)
      have hS6 := hS5.step hb (k := 6) (by omega)
      clear hS5 hb
      have hsz : (w6.setCell ⟨w.heap.size + 1, 6, none⟩ (.int .i64 0)).heap.size = w6.heap.size := by simp [World.setCell]
      have hP := Blk.new (w6.setCell ⟨w.heap.size + 1, 6, none⟩ (.int .i64 0)) 85 (fieldPtrs (w.heap.size + 1) [7, 8, 9])
      have hlt6 := hS6.A.lt
      rw [hsz] at hP hlt6
      have hS := hS6.alloc (.cells (fieldPtrs (w.heap.size + 1) [7, 8, 9]).toArray 85)
      clear hS6 hsz
      go_wp2
      change Code.wp _ _ _ _ ((w6.setCell ⟨w.heap.size + 1, 6, none⟩ (.int .i64 0)).alloc (.cells (fieldPtrs (w.heap.size + 1) [7, 8, 9]).toArray 85))
      clear hc hf hz
      generalize (w6.setCell ⟨w.heap.size + 1, 6, none⟩ (.int .i64 0)).alloc (.cells (fieldPtrs (w.heap.size + 1) [7, 8, 9]).toArray 85) = W7 at *
      go_loopw [35] (fun i wr => ∃ k : Nat, k ≤ 3 ∧ i = .int .i64 k ∧ NilA w wr ∧ Blk wr w6.heap.size 85 (fieldPtrs (w.heap.size + 1) [7, 8, 9])) (fun i _ => 3 - (intOf i).toNat)
      case atStart => exact ⟨0, by omega, rfl, hS, hP⟩
      case round =>
        clear hS hP
        obtain ⟨k, hk, rfl, hS, hP⟩ := hrel
        by_cases hlt : k < 3
        · have hp := fieldPtr_at hP (k := k) (by simpa using hlt)
          have hkk : ([7, 8, 9] : List Nat)[k]'(by simpa using hlt) = 7 + k := by
            match k, hlt with
            | 0, _ | 1, _ | 2, _ => rfl
          rw [hkk] at hp
          clear hkk
          go_wp2_with fail
          refine (rU64_nil _).mono ?_
          rintro e w8 ⟨rfl, hb⟩
          obtain ⟨hc, hf⟩ := hS.cell hb
          have hz := attrZ_cell (k := 7 + k) (by omega)
          have HS := Lib.hid (hS.step hb (k := 7 + k) (by omega))
          have HP := Lib.hid ((hP.stays hb).far (p := ⟨w.heap.size + 1, 7 + k, none⟩) (by simp; omega) (.int .i64 0))
          clear hS hP hb hp
          go_wp2
          go_roundw
          case rel => exact ⟨k + 1, by omega, by go_num, HS.out, HP.out⟩
          case measure => simp [intOf]; omega
        · obtain rfl : k = 3 := by omega
          have rA : rowOf wr (w.heap.size + 1) 0 10 = some attrZ.vals.toArray := hS.A.row 0 10 (by simp [Attr.len])
          have hZ := hS.Z
          have HB := Lib.hid hS.B
          clear hS hP
          go_wp2_with (first | (refine wpList_store_whole (by rfl) 40 _ _ (by rfl) w.heap.size attrZ.vals _ hZ (by rfl) (by rfl) (by rfl) (by kernel_rfl) (Attr.one _) ?_) | fail)
          exact ret_cells w.heap.size 0 attrZ.vals Try.results53 Try.underlying40 rfl (by kernel_rfl) rfl (hZ.whole (by rfl)).range rfl ⟨rfl, Below.setWhole HB.out (Nat.le_refl _) _⟩

set_option maxHeartbeats 1600000 in
theorem posted_nil (w : World) : Calls Try.prog 57 #[.pointer none] w fun e w' => e = .returned (.agg postZ.vals.toArray) ∧ Below w.heap.size w w' := by
  have hb0 := Blk.new w 57 postZ.vals
  have hB : Below w.heap.size w (w.alloc (.cells postZ.vals.toArray 57)) := (Below.refl _ _).alloc (Nat.le_refl _) _
  go_enter Try.func57, Try.ntmps57
  go_wp2_with fail
  change Calls _ _ _ (w.alloc (.cells postZ.vals.toArray 57)) _
  generalize w.alloc (.cells postZ.vals.toArray 57) = w0 at *
  refine (rBool_nil _).mono ?_
  rintro e w1 ⟨rfl, hb⟩
  have hb1 := (hb0.stays hb).alloc (.cells postZ.vals.toArray 57)
  have hB1 := (below_then hB hb).alloc (below_then hB hb).size (.cells postZ.vals.toArray 57)
  clear hb hb0 hB
  go_wp2_with (first | (refine wpList_store_whole (by rfl) 57 _ _ (by rfl) w.heap.size postZ.vals _ hb1 (by rfl) (by rfl) (by rfl) (by kernel_rfl) (Post.one _) ?_) | fail)
  exact ret_cells w.heap.size 0 postZ.vals Try.results57 Try.underlying57 rfl (by kernel_rfl) rfl (hb1.whole (by rfl)).range rfl ⟨rfl, Below.setWhole hB1 (Nat.le_refl _) _⟩

theorem gotAttr_nil (v : Attr) (f : Value) (w : World) :
    Calls Try.prog 52 #[.pointer none, .agg v.vals.toArray, f] w fun e w' => e = .returned (gotV attrZ.vals 1) ∧ Below w.heap.size w w' := by
  obtain ⟨-, br, bz, hB, -⟩ := chain3_blks w v.vals attrZ.vals attrZ.vals 40 40 40
  have rz : rowOf (((w.alloc (.cells v.vals.toArray 40)).alloc (.cells attrZ.vals.toArray 40)).alloc (.cells attrZ.vals.toArray 40)) (w.heap.size + 1 + 1) 0 10 = some attrZ.vals.toArray := bz.row 0 10 (by simp [Attr.len])
  clear bz
  go_enter Try.func52, Try.ntmps52
  go_wp2_with fail
  change Calls _ _ _ (((w.alloc (.cells v.vals.toArray 40)).alloc (.cells attrZ.vals.toArray 40)).alloc (.cells attrZ.vals.toArray 40)) _
  generalize ((w.alloc (.cells v.vals.toArray 40)).alloc (.cells attrZ.vals.toArray 40)).alloc (.cells attrZ.vals.toArray 40) = W at *
  refine (rErr_nil _).mono ?_
  rintro e w1 ⟨rfl, rfl⟩
  go_wp2_with (first | (refine wpList_store_whole (by rfl) 40 _ _ (by rfl) (w.heap.size + 1) attrZ.vals _ br (by rfl) (by rfl) (by rfl) (by kernel_rfl) (Attr.one _) ?_) | fail)
  exact ret_cells2 (w.heap.size + 1) 0 attrZ.vals (.int .i64 1) Try.results52 Try.underlying40 rfl (by kernel_rfl) rfl rfl (br.whole (by rfl)).range rfl ⟨rfl, Below.setWhole hB (by omega) _⟩

theorem gotPost_nil (v : Post) (f : Value) (w : World) :
    Calls Try.prog 56 #[.pointer none, .agg v.vals.toArray, f] w fun e w' => e = .returned (gotV postZ.vals 1) ∧ Below w.heap.size w w' := by
  obtain ⟨-, br, bz, hB, -⟩ := chain3_blks w v.vals postZ.vals postZ.vals 57 57 57
  have rz : rowOf (((w.alloc (.cells v.vals.toArray 57)).alloc (.cells postZ.vals.toArray 57)).alloc (.cells postZ.vals.toArray 57)) (w.heap.size + 1 + 1) 0 11 = some postZ.vals.toArray := bz.row 0 11 (by simp [Post.len])
  clear bz
  go_enter Try.func56, Try.ntmps56
  go_wp2_with fail
  change Calls _ _ _ (((w.alloc (.cells v.vals.toArray 57)).alloc (.cells postZ.vals.toArray 57)).alloc (.cells postZ.vals.toArray 57)) _
  generalize ((w.alloc (.cells v.vals.toArray 57)).alloc (.cells postZ.vals.toArray 57)).alloc (.cells postZ.vals.toArray 57) = W at *
  refine (rErr_nil _).mono ?_
  rintro e w1 ⟨rfl, rfl⟩
  go_wp2_with (first | (refine wpList_store_whole (by rfl) 57 _ _ (by rfl) (w.heap.size + 1) postZ.vals _ br (by rfl) (by rfl) (by rfl) (by kernel_rfl) (Post.one _) ?_) | fail)
  exact ret_cells2 (w.heap.size + 1) 0 postZ.vals (.int .i64 1) Try.results56 Try.underlying57 rfl (by kernel_rfl) rfl rfl (br.whole (by rfl)).range rfl ⟨rfl, Below.setWhole hB (by omega) _⟩

theorem gotWcc_nil (v : Wcc) (f : Value) (w : World) :
    Calls Try.prog 60 #[.pointer none, .agg v.vals.toArray, f] w fun e w' => e = .returned (gotV wccZ.vals 1) ∧ Below w.heap.size w w' := by
  obtain ⟨-, br, bz, hB, -⟩ := chain3_blks w v.vals wccZ.vals wccZ.vals 61 61 61
  have rz : rowOf (((w.alloc (.cells v.vals.toArray 61)).alloc (.cells wccZ.vals.toArray 61)).alloc (.cells wccZ.vals.toArray 61)) (w.heap.size + 1 + 1) 0 13 = some wccZ.vals.toArray := bz.row 0 13 (by simp [Wcc.len])
  clear bz
  go_enter Try.func60, Try.ntmps60
  go_wp2_with fail
  change Calls _ _ _ (((w.alloc (.cells v.vals.toArray 61)).alloc (.cells wccZ.vals.toArray 61)).alloc (.cells wccZ.vals.toArray 61)) _
  generalize ((w.alloc (.cells v.vals.toArray 61)).alloc (.cells wccZ.vals.toArray 61)).alloc (.cells wccZ.vals.toArray 61) = W at *
  refine (rErr_nil _).mono ?_
  rintro e w1 ⟨rfl, rfl⟩
  go_wp2_with (first | (refine wpList_store_whole (by rfl) 61 _ _ (by rfl) (w.heap.size + 1) wccZ.vals _ br (by rfl) (by rfl) (by rfl) (by kernel_rfl) (Wcc.one _) ?_) | fail)
  exact ret_cells2 (w.heap.size + 1) 0 wccZ.vals (.int .i64 1) Try.results60 Try.underlying61 rfl (by kernel_rfl) rfl rfl (br.whole (by rfl)).range rfl ⟨rfl, Below.setWhole hB (by omega) _⟩

theorem gotSett_nil (v : Sett) (f : Value) (w : World) :
    Calls Try.prog 62 #[.pointer none, .agg v.vals.toArray, f] w fun e w' => e = .returned (gotV settZ.vals 1) ∧ Below w.heap.size w w' := by
  obtain ⟨-, br, bz, hB, -⟩ := chain3_blks w v.vals settZ.vals settZ.vals 44 44 44
  have rz : rowOf (((w.alloc (.cells v.vals.toArray 44)).alloc (.cells settZ.vals.toArray 44)).alloc (.cells settZ.vals.toArray 44)) (w.heap.size + 1 + 1) 0 10 = some settZ.vals.toArray := bz.row 0 10 (by simp [Sett.len])
  clear bz
  go_enter Try.func62, Try.ntmps62
  go_wp2_with fail
  change Calls _ _ _ (((w.alloc (.cells v.vals.toArray 44)).alloc (.cells settZ.vals.toArray 44)).alloc (.cells settZ.vals.toArray 44)) _
  generalize ((w.alloc (.cells v.vals.toArray 44)).alloc (.cells settZ.vals.toArray 44)).alloc (.cells settZ.vals.toArray 44) = W at *
  refine (rErr_nil _).mono ?_
  rintro e w1 ⟨rfl, rfl⟩
  go_wp2_with (first | (refine wpList_store_whole (by rfl) 44 _ _ (by rfl) (w.heap.size + 1) settZ.vals _ br (by rfl) (by rfl) (by rfl) (by kernel_rfl) (Sett.one _) ?_) | fail)
  exact ret_cells2 (w.heap.size + 1) 0 settZ.vals (.int .i64 1) Try.results62 Try.underlying44 rfl (by kernel_rfl) rfl rfl (br.whole (by rfl)).range rfl ⟨rfl, Below.setWhole hB (by omega) _⟩

theorem getAttr_nil (w : World) : Calls Try.prog 26 #[.pointer none] w fun e w' => e = .returned (gotV attrZ.vals 1) ∧ Below w.heap.size w w' := by
  have hb0 := Blk.new w 40 attrZ.vals
  have hB : Below w.heap.size w (w.alloc (.cells attrZ.vals.toArray 40)) := (Below.refl _ _).alloc (Nat.le_refl _) _
  go_enter Try.func26, Try.ntmps26
  go_wp2_with fail
  change Calls _ _ _ (w.alloc (.cells attrZ.vals.toArray 40)) _
  generalize w.alloc (.cells attrZ.vals.toArray 40) = w0 at *
  refine (attrRead_nil _).mono ?_
  rintro e w1 ⟨rfl, hb⟩
  have hb1 := hb0.stays hb
  have hB1 := below_then hB hb
  clear hb hb0 hB
  go_wp2_with fail
  refine (gotAttr_nil attrZ _ _).mono ?_
  rintro e w2 ⟨rfl, hb⟩
  have hb2 := hb1.stays hb
  have hB2 := below_then hB1 hb
  clear hb hb1 hB1
  unfold gotV
  go_wp2_with (first | (refine wpList_store_whole (by rfl) 40 _ _ (by rfl) w.heap.size attrZ.vals _ hb2 (by rfl) (by rfl) (by rfl) (by kernel_rfl) (Attr.one _) ?_) | fail)
  exact ret_cells2 w.heap.size 0 attrZ.vals (.int .i64 1) Try.results26 Try.underlying40 rfl (by kernel_rfl) rfl rfl (hb2.whole (by rfl)).range rfl ⟨rfl, Below.setWhole hB2 (Nat.le_refl _) _⟩

theorem getPost_nil (w : World) : Calls Try.prog 28 #[.pointer none] w fun e w' => e = .returned (gotV postZ.vals 1) ∧ Below w.heap.size w w' := by
  have hb0 := Blk.new w 57 postZ.vals
  have hB : Below w.heap.size w (w.alloc (.cells postZ.vals.toArray 57)) := (Below.refl _ _).alloc (Nat.le_refl _) _
  go_enter Try.func28, Try.ntmps28
  go_wp2_with fail
  change Calls _ _ _ (w.alloc (.cells postZ.vals.toArray 57)) _
  generalize w.alloc (.cells postZ.vals.toArray 57) = w0 at *
  refine (posted_nil _).mono ?_
  rintro e w1 ⟨rfl, hb⟩
  have hb1 := hb0.stays hb
  have hB1 := below_then hB hb
  clear hb hb0 hB
  go_wp2_with fail
  refine (gotPost_nil postZ _ _).mono ?_
  rintro e w2 ⟨rfl, hb⟩
  have hb2 := hb1.stays hb
  have hB2 := below_then hB1 hb
  clear hb hb1 hB1
  unfold gotV
  go_wp2_with (first | (refine wpList_store_whole (by rfl) 57 _ _ (by rfl) w.heap.size postZ.vals _ hb2 (by rfl) (by rfl) (by rfl) (by kernel_rfl) (Post.one _) ?_) | fail)
  exact ret_cells2 w.heap.size 0 postZ.vals (.int .i64 1) Try.results28 Try.underlying57 rfl (by kernel_rfl) rfl rfl (hb2.whole (by rfl)).range rfl ⟨rfl, Below.setWhole hB2 (Nat.le_refl _) _⟩

end Go.Proofs.Ytbpfniocaibfcaa
