/-
  Layer 33, walks: what a client's questions come to (printed by wip/tools/genasked33.py). No condition.
-/
import Derived.Test.YtfjflkmhhbhceaaGreatDoorK41
import Derived.Test.YtfjflkmhhbhceaaGreatDoorK43
import Derived.Test.YtfjflkmhhbhceaaGreatDoorK19
namespace Go.Proofs.YtfjflkmhhbhceaaGreatDoor
open Go.RowKit
attribute [local go_sem ↓] Go.wp_at_zero Go.wp_at_succ
attribute [local go_sem] rowAt_ptr rowOf_drew rowOf_drewN rowOf_alloc_past rowOf_new
attribute [local go_sem ↓] st33Call ld33Call ld33Ask

attribute [local go_sem] thereB_drew thereB_drewN thereB_new thereB_past putsW_drew putsW_new putsW_past rowOf_far rowOf_putsFar cell_putsFar putsW_size ptrAt blkAt offAt allV33 oneV33

attribute [local go_sem low] rowV33_agg

attribute [local go_sem] putsW_call Call.len rowV33_call

attribute [local go_sem] Ask.at0 Ask.lat0 Ask.at1 Ask.lat1 Ask.at2 Ask.lat2 Ask.at3 Ask.lat3 Ask.at4 Ask.lat4 Ask.at5 Ask.lat5 Ask.at6 Ask.lat6 Ask.at7 Ask.lat7 Ask.at8 Ask.lat8 Ask.at9 Ask.lat9 Ask.at10 Ask.lat10 Ask.at11 Ask.lat11 Ask.at12 Ask.lat12 Ask.at13 Ask.lat13 Ask.at14 Ask.lat14 Ask.at15 Ask.lat15 Ask.at16 Ask.lat16 Ask.at17 Ask.lat17 Ask.at18 Ask.lat18 Ask.at19 Ask.lat19 Ask.at20 Ask.lat20 Ask.at21 Ask.lat21 Ask.at22 Ask.lat22 Ask.at23 Ask.lat23 Ask.at24 Ask.lat24 Ask.at25 Ask.lat25 Ask.at26 Ask.lat26 Ask.at27 Ask.lat27 Ask.at28 Ask.lat28 Ask.at29 Ask.lat29 Ask.sub0_30 Ask.lsub0_30 Ask.sub6_24 Ask.lsub6_24 Ask.sub15_10 Ask.lsub15_10 Ask.sub15_2 Ask.lsub15_2 Ask.sub17_2 Ask.lsub17_2 Ask.sub19_2 Ask.lsub19_2 Ask.sub21_2 Ask.lsub21_2 Ask.sub23_2 Ask.lsub23_2 Ask.sub25_2 Ask.lsub25_2 Ask.len Call.at0 Call.lat0 Call.at1 Call.lat1 Call.at2 Call.lat2 Call.at3 Call.lat3 Call.at4 Call.lat4 Call.at5 Call.lat5 Call.at6 Call.lat6 Call.at7 Call.lat7 Call.at8 Call.lat8 Call.at9 Call.lat9 Call.at10 Call.lat10 Call.at11 Call.lat11 Call.at12 Call.lat12 Call.at13 Call.lat13 Call.at14 Call.lat14 Call.at15 Call.lat15 Call.at16 Call.lat16 Call.at17 Call.lat17 Call.at18 Call.lat18 Call.at19 Call.lat19 Call.at20 Call.lat20 Call.at21 Call.lat21 Call.at22 Call.lat22 Call.at23 Call.lat23 Call.sub0_24 Call.lsub0_24 Call.sub9_10 Call.lsub9_10 Call.sub9_2 Call.lsub9_2 Call.sub11_2 Call.lsub11_2 Call.sub13_2 Call.lsub13_2 Call.sub15_2 Call.lsub15_2 Call.sub17_2 Call.lsub17_2 Call.sub19_2 Call.lsub19_2 Call.len

/-- what 'asked' gives -/
def AskedP (a : Ask) (w : World) (e : Ending) (w' : World) : Prop :=
  ∃ A c, e = .returned (.tuple #[.agg (askedC a).1.vals.toArray, .slice A (askedC a).2.1.length c, .bool (askedC a).2.2]) ∧ At w' 1 A ((askedC a).2.1.map int1) ∧ Below w.heap.size w w'
theorem asked_end {a : Ask} {w w2 : World} {b : Nat} {r : Call} {is : List Int} {is' : List Value} (hR : Blk w2 b 36 callZ.vals) (hB : Below w.heap.size w w2) (hb : w.heap.size ≤ b) (hq : askedC a = (r, is, true)) (hi : (is.map int1).flatten = is') :
    ((((putsW w2 b 0 r.vals).alloc (.cells is'.toArray 3)).drew).rangeAt b 0 r.vals) ∧ AskedP a w (.returned (.tuple #[.agg r.vals.toArray, .slice (some ⟨w2.heap.size, 0, none⟩) is.length is.length, .bool true])) (((putsW w2 b 0 r.vals).alloc (.cells is'.toArray 3)).drew) := by
  have h1 : Blk (putsW w2 b 0 r.vals) b 36 r.vals := by
    rw [putsW_eq]; exact hR.whole (by rw [Call.len, Call.len])
  have h2 : Below w.heap.size w (putsW w2 b 0 r.vals) := by
    rw [putsW_eq]; exact Below.setWhole hB hb _
  have h3 := (h1.alloc (.cells is'.toArray 3)).drew
  subst hi
  refine ⟨h3.range, some ⟨w2.heap.size, 0, none⟩, is.length, ?_, ?_, ((h2.alloc h2.size _).drew)⟩
  · rw [hq]
  · rw [hq]
    exact (At.fresh (putsW w2 b 0 r.vals) 3 1 w2.heap.size (is.map int1) (fun q hq => by obtain ⟨_, _, rfl⟩ := List.mem_map.1 hq; rfl) (putsW_size _ _ _ _).symm).drew
set_option maxRecDepth 20000 in
set_option maxHeartbeats 1600000 in
theorem asked33_1 (a : Ask) (w : World) (hk : a.kind = 1) : Calls Tryz.prog 33 #[.agg a.vals.toArray] w (AskedP a w) := by
  have HQ := Lib.hid (show askedC a = ({ callZ with proc := 3, name := a.call.name }, [a.dir, a.var], true) from if_pos hk)
  obtain ⟨bA, bR, hB, hs⟩ := chain2_blks w a.vals callZ.vals 38 36
  obtain ⟨w1, hw1⟩ : ∃ V, V = (w.alloc (.cells a.vals.toArray 38)).alloc (.cells callZ.vals.toArray 36) := ⟨_, rfl⟩
  rw [← hw1] at bA bR hB hs
  have HW := Lib.hid hw1
  clear hw1
  have c0 : w1.cell? ⟨w.heap.size, 0, none⟩ = some (.int .i64 1) := by rw [bA.cell 0]; show some (Value.int .i64 a.kind) = _; rw [hk]
  have c1 : w1.cell? ⟨w.heap.size, 1, none⟩ = some (.int .i64 a.var) := bA.cell 1
  have c2 : w1.cell? ⟨w.heap.size, 2, none⟩ = some (.int .i64 a.dir) := bA.cell 2
  have c3 : w1.cell? ⟨w.heap.size, 3, none⟩ = some (.int .i64 a.to_) := bA.cell 3
  have rC : rowOf w1 w.heap.size 6 24 = some a.call.vals.toArray := bA.row 6 24 (by rw [Ask.len]; omega)
  have hl1 := bA.lt
  go_enter Tryz.func33, Tryz.ntmps33
  go_upto_region 1 with fail
  change Code.wp _ _ _ _ ((w.alloc (.cells a.vals.toArray 38)).alloc (.cells callZ.vals.toArray 36))
  rw [← HW.out]
  go_upto_region 3 with fail
  change Code.wp _ _ _ _ (w1.alloc (.cells ({ a.call with fh := [], fh2 := [] } : Call).vals.toArray 36))
  have bX := Blk.new w1 36 ({ a.call with fh := [], fh2 := [] } : Call).vals
  have hB2 : Below w1.heap.size w1 (w1.alloc (.cells ({ a.call with fh := [], fh2 := [] } : Call).vals.toArray 36)) := (Below.refl _ _).alloc (Nat.le_refl _) _
  generalize w1.alloc (.cells ({ a.call with fh := [], fh2 := [] } : Call).vals.toArray 36) = w2 at *
  rw [hs] at bX
  replace bR := bR.stays hB2
  have hlt2 := bX.lt
  have hltR : w.heap.size + 1 < w2.heap.size := by omega
  have hlt0 : w.heap.size < w2.heap.size := by omega
  have hn0 : w.heap.size ≠ w.heap.size + 1 := by omega
  have hn2 : w.heap.size + 1 + 1 ≠ w.heap.size + 1 := by omega
  have d2 : w2.cell? ⟨w.heap.size + 1 + 1, 2, none⟩ = some (.string (bs a.call.name)) := bX.cell 2
  have d5 : w2.cell? ⟨w.heap.size + 1 + 1, 5, none⟩ = some (.int .i64 a.call.offset) := bX.cell 5
  have d6 : w2.cell? ⟨w.heap.size + 1 + 1, 6, none⟩ = some (.int .i64 a.call.count) := bX.cell 6
  have d8 : w2.cell? ⟨w.heap.size + 1 + 1, 8, none⟩ = some (.string (bs a.call.data)) := bX.cell 8
  have rX : rowOf w2 (w.heap.size + 1 + 1) 0 24 = some ({ a.call with fh := [], fh2 := [] } : Call).vals.toArray := bX.row 0 24 (by rw [Call.len]; omega)
  replace c0 := (hB2.cell (p := ⟨w.heap.size, 0, none⟩) hl1).trans c0
  replace c1 := (hB2.cell (p := ⟨w.heap.size, 1, none⟩) hl1).trans c1
  replace c2 := (hB2.cell (p := ⟨w.heap.size, 2, none⟩) hl1).trans c2
  replace c3 := (hB2.cell (p := ⟨w.heap.size, 3, none⟩) hl1).trans c3
  have tR := bR.thereB 0 24 (by rw [Call.len]; omega)
  have HB := Lib.hid (below_then hB hB2)
  have HR := Lib.hid bR
  clear rC hs hB hB2 bA bX bR hl1 HW
  go_wp2
  go_region
  go_wp2
  have HE := asked_end (is' := [.int .i64 a.dir, .int .i64 a.var]) HR.out HB.out (by omega) HQ.out rfl
  refine ret_cells3 (w.heap.size + 1) 0 ({ callZ with proc := 3, name := a.call.name } : Call).vals _ _ Tryz.results33 Tryz.underlying36 rfl (by kernel_rfl) rfl rfl rfl HE.1 rfl ?_
  exact HE.2
set_option maxRecDepth 20000 in
set_option maxHeartbeats 1600000 in
theorem asked33_2 (a : Ask) (w : World) (hk : a.kind = 2) : Calls Tryz.prog 33 #[.agg a.vals.toArray] w (AskedP a w) := by
  have HQ := Lib.hid (show askedC a = ({ callZ with proc := 6, offset := a.call.offset, count := a.call.count }, [a.var], true) from (if_neg (by omega)).trans (if_pos hk))
  obtain ⟨bA, bR, hB, hs⟩ := chain2_blks w a.vals callZ.vals 38 36
  obtain ⟨w1, hw1⟩ : ∃ V, V = (w.alloc (.cells a.vals.toArray 38)).alloc (.cells callZ.vals.toArray 36) := ⟨_, rfl⟩
  rw [← hw1] at bA bR hB hs
  have HW := Lib.hid hw1
  clear hw1
  have c0 : w1.cell? ⟨w.heap.size, 0, none⟩ = some (.int .i64 2) := by rw [bA.cell 0]; show some (Value.int .i64 a.kind) = _; rw [hk]
  have c1 : w1.cell? ⟨w.heap.size, 1, none⟩ = some (.int .i64 a.var) := bA.cell 1
  have c2 : w1.cell? ⟨w.heap.size, 2, none⟩ = some (.int .i64 a.dir) := bA.cell 2
  have c3 : w1.cell? ⟨w.heap.size, 3, none⟩ = some (.int .i64 a.to_) := bA.cell 3
  have rC : rowOf w1 w.heap.size 6 24 = some a.call.vals.toArray := bA.row 6 24 (by rw [Ask.len]; omega)
  have hl1 := bA.lt
  go_enter Tryz.func33, Tryz.ntmps33
  go_upto_region 1 with fail
  change Code.wp _ _ _ _ ((w.alloc (.cells a.vals.toArray 38)).alloc (.cells callZ.vals.toArray 36))
  rw [← HW.out]
  go_upto_region 3 with fail
  change Code.wp _ _ _ _ (w1.alloc (.cells ({ a.call with fh := [], fh2 := [] } : Call).vals.toArray 36))
  have bX := Blk.new w1 36 ({ a.call with fh := [], fh2 := [] } : Call).vals
  have hB2 : Below w1.heap.size w1 (w1.alloc (.cells ({ a.call with fh := [], fh2 := [] } : Call).vals.toArray 36)) := (Below.refl _ _).alloc (Nat.le_refl _) _
  generalize w1.alloc (.cells ({ a.call with fh := [], fh2 := [] } : Call).vals.toArray 36) = w2 at *
  rw [hs] at bX
  replace bR := bR.stays hB2
  have hlt2 := bX.lt
  have hltR : w.heap.size + 1 < w2.heap.size := by omega
  have hlt0 : w.heap.size < w2.heap.size := by omega
  have hn0 : w.heap.size ≠ w.heap.size + 1 := by omega
  have hn2 : w.heap.size + 1 + 1 ≠ w.heap.size + 1 := by omega
  have d2 : w2.cell? ⟨w.heap.size + 1 + 1, 2, none⟩ = some (.string (bs a.call.name)) := bX.cell 2
  have d5 : w2.cell? ⟨w.heap.size + 1 + 1, 5, none⟩ = some (.int .i64 a.call.offset) := bX.cell 5
  have d6 : w2.cell? ⟨w.heap.size + 1 + 1, 6, none⟩ = some (.int .i64 a.call.count) := bX.cell 6
  have d8 : w2.cell? ⟨w.heap.size + 1 + 1, 8, none⟩ = some (.string (bs a.call.data)) := bX.cell 8
  have rX : rowOf w2 (w.heap.size + 1 + 1) 0 24 = some ({ a.call with fh := [], fh2 := [] } : Call).vals.toArray := bX.row 0 24 (by rw [Call.len]; omega)
  replace c0 := (hB2.cell (p := ⟨w.heap.size, 0, none⟩) hl1).trans c0
  replace c1 := (hB2.cell (p := ⟨w.heap.size, 1, none⟩) hl1).trans c1
  replace c2 := (hB2.cell (p := ⟨w.heap.size, 2, none⟩) hl1).trans c2
  replace c3 := (hB2.cell (p := ⟨w.heap.size, 3, none⟩) hl1).trans c3
  have tR := bR.thereB 0 24 (by rw [Call.len]; omega)
  have HB := Lib.hid (below_then hB hB2)
  have HR := Lib.hid bR
  clear rC hs hB hB2 bA bX bR hl1 HW
  go_wp2
  go_region
  go_wp2
  have HE := asked_end (is' := [.int .i64 a.var]) HR.out HB.out (by omega) HQ.out rfl
  refine ret_cells3 (w.heap.size + 1) 0 ({ callZ with proc := 6, offset := a.call.offset, count := a.call.count } : Call).vals _ _ Tryz.results33 Tryz.underlying36 rfl (by kernel_rfl) rfl rfl rfl HE.1 rfl ?_
  exact HE.2
set_option maxRecDepth 20000 in
set_option maxHeartbeats 1600000 in
theorem asked33_3 (a : Ask) (w : World) (hk : a.kind = 3) : Calls Tryz.prog 33 #[.agg a.vals.toArray] w (AskedP a w) := by
  have HQ := Lib.hid (show askedC a = ({ callZ with proc := 7, offset := a.call.offset, data := a.call.data, how := 2 }, [a.var], true) from (if_neg (by omega)).trans ((if_neg (by omega)).trans (if_pos hk)))
  obtain ⟨bA, bR, hB, hs⟩ := chain2_blks w a.vals callZ.vals 38 36
  obtain ⟨w1, hw1⟩ : ∃ V, V = (w.alloc (.cells a.vals.toArray 38)).alloc (.cells callZ.vals.toArray 36) := ⟨_, rfl⟩
  rw [← hw1] at bA bR hB hs
  have HW := Lib.hid hw1
  clear hw1
  have c0 : w1.cell? ⟨w.heap.size, 0, none⟩ = some (.int .i64 3) := by rw [bA.cell 0]; show some (Value.int .i64 a.kind) = _; rw [hk]
  have c1 : w1.cell? ⟨w.heap.size, 1, none⟩ = some (.int .i64 a.var) := bA.cell 1
  have c2 : w1.cell? ⟨w.heap.size, 2, none⟩ = some (.int .i64 a.dir) := bA.cell 2
  have c3 : w1.cell? ⟨w.heap.size, 3, none⟩ = some (.int .i64 a.to_) := bA.cell 3
  have rC : rowOf w1 w.heap.size 6 24 = some a.call.vals.toArray := bA.row 6 24 (by rw [Ask.len]; omega)
  have hl1 := bA.lt
  go_enter Tryz.func33, Tryz.ntmps33
  go_upto_region 1 with fail
  change Code.wp _ _ _ _ ((w.alloc (.cells a.vals.toArray 38)).alloc (.cells callZ.vals.toArray 36))
  rw [← HW.out]
  go_upto_region 3 with fail
  change Code.wp _ _ _ _ (w1.alloc (.cells ({ a.call with fh := [], fh2 := [] } : Call).vals.toArray 36))
  have bX := Blk.new w1 36 ({ a.call with fh := [], fh2 := [] } : Call).vals
  have hB2 : Below w1.heap.size w1 (w1.alloc (.cells ({ a.call with fh := [], fh2 := [] } : Call).vals.toArray 36)) := (Below.refl _ _).alloc (Nat.le_refl _) _
  generalize w1.alloc (.cells ({ a.call with fh := [], fh2 := [] } : Call).vals.toArray 36) = w2 at *
  rw [hs] at bX
  replace bR := bR.stays hB2
  have hlt2 := bX.lt
  have hltR : w.heap.size + 1 < w2.heap.size := by omega
  have hlt0 : w.heap.size < w2.heap.size := by omega
  have hn0 : w.heap.size ≠ w.heap.size + 1 := by omega
  have hn2 : w.heap.size + 1 + 1 ≠ w.heap.size + 1 := by omega
  have d2 : w2.cell? ⟨w.heap.size + 1 + 1, 2, none⟩ = some (.string (bs a.call.name)) := bX.cell 2
  have d5 : w2.cell? ⟨w.heap.size + 1 + 1, 5, none⟩ = some (.int .i64 a.call.offset) := bX.cell 5
  have d6 : w2.cell? ⟨w.heap.size + 1 + 1, 6, none⟩ = some (.int .i64 a.call.count) := bX.cell 6
  have d8 : w2.cell? ⟨w.heap.size + 1 + 1, 8, none⟩ = some (.string (bs a.call.data)) := bX.cell 8
  have rX : rowOf w2 (w.heap.size + 1 + 1) 0 24 = some ({ a.call with fh := [], fh2 := [] } : Call).vals.toArray := bX.row 0 24 (by rw [Call.len]; omega)
  replace c0 := (hB2.cell (p := ⟨w.heap.size, 0, none⟩) hl1).trans c0
  replace c1 := (hB2.cell (p := ⟨w.heap.size, 1, none⟩) hl1).trans c1
  replace c2 := (hB2.cell (p := ⟨w.heap.size, 2, none⟩) hl1).trans c2
  replace c3 := (hB2.cell (p := ⟨w.heap.size, 3, none⟩) hl1).trans c3
  have tR := bR.thereB 0 24 (by rw [Call.len]; omega)
  have HB := Lib.hid (below_then hB hB2)
  have HR := Lib.hid bR
  clear rC hs hB hB2 bA bX bR hl1 HW
  go_wp2
  go_region
  go_wp2
  have HE := asked_end (is' := [.int .i64 a.var]) HR.out HB.out (by omega) HQ.out rfl
  refine ret_cells3 (w.heap.size + 1) 0 ({ callZ with proc := 7, offset := a.call.offset, data := a.call.data, how := 2 } : Call).vals _ _ Tryz.results33 Tryz.underlying36 rfl (by kernel_rfl) rfl rfl rfl HE.1 rfl ?_
  exact HE.2
set_option maxRecDepth 20000 in
set_option maxHeartbeats 1600000 in
theorem asked33_4 (a : Ask) (w : World) (hk : a.kind = 4) : Calls Tryz.prog 33 #[.agg a.vals.toArray] w (AskedP a w) := by
  have HQ := Lib.hid (show askedC a = ({ callZ with proc := 21 }, [a.var], true) from (if_neg (by omega)).trans ((if_neg (by omega)).trans ((if_neg (by omega)).trans (if_pos hk))))
  obtain ⟨bA, bR, hB, hs⟩ := chain2_blks w a.vals callZ.vals 38 36
  obtain ⟨w1, hw1⟩ : ∃ V, V = (w.alloc (.cells a.vals.toArray 38)).alloc (.cells callZ.vals.toArray 36) := ⟨_, rfl⟩
  rw [← hw1] at bA bR hB hs
  have HW := Lib.hid hw1
  clear hw1
  have c0 : w1.cell? ⟨w.heap.size, 0, none⟩ = some (.int .i64 4) := by rw [bA.cell 0]; show some (Value.int .i64 a.kind) = _; rw [hk]
  have c1 : w1.cell? ⟨w.heap.size, 1, none⟩ = some (.int .i64 a.var) := bA.cell 1
  have c2 : w1.cell? ⟨w.heap.size, 2, none⟩ = some (.int .i64 a.dir) := bA.cell 2
  have c3 : w1.cell? ⟨w.heap.size, 3, none⟩ = some (.int .i64 a.to_) := bA.cell 3
  have rC : rowOf w1 w.heap.size 6 24 = some a.call.vals.toArray := bA.row 6 24 (by rw [Ask.len]; omega)
  have hl1 := bA.lt
  go_enter Tryz.func33, Tryz.ntmps33
  go_upto_region 1 with fail
  change Code.wp _ _ _ _ ((w.alloc (.cells a.vals.toArray 38)).alloc (.cells callZ.vals.toArray 36))
  rw [← HW.out]
  go_upto_region 3 with fail
  change Code.wp _ _ _ _ (w1.alloc (.cells ({ a.call with fh := [], fh2 := [] } : Call).vals.toArray 36))
  have bX := Blk.new w1 36 ({ a.call with fh := [], fh2 := [] } : Call).vals
  have hB2 : Below w1.heap.size w1 (w1.alloc (.cells ({ a.call with fh := [], fh2 := [] } : Call).vals.toArray 36)) := (Below.refl _ _).alloc (Nat.le_refl _) _
  generalize w1.alloc (.cells ({ a.call with fh := [], fh2 := [] } : Call).vals.toArray 36) = w2 at *
  rw [hs] at bX
  replace bR := bR.stays hB2
  have hlt2 := bX.lt
  have hltR : w.heap.size + 1 < w2.heap.size := by omega
  have hlt0 : w.heap.size < w2.heap.size := by omega
  have hn0 : w.heap.size ≠ w.heap.size + 1 := by omega
  have hn2 : w.heap.size + 1 + 1 ≠ w.heap.size + 1 := by omega
  have d2 : w2.cell? ⟨w.heap.size + 1 + 1, 2, none⟩ = some (.string (bs a.call.name)) := bX.cell 2
  have d5 : w2.cell? ⟨w.heap.size + 1 + 1, 5, none⟩ = some (.int .i64 a.call.offset) := bX.cell 5
  have d6 : w2.cell? ⟨w.heap.size + 1 + 1, 6, none⟩ = some (.int .i64 a.call.count) := bX.cell 6
  have d8 : w2.cell? ⟨w.heap.size + 1 + 1, 8, none⟩ = some (.string (bs a.call.data)) := bX.cell 8
  have rX : rowOf w2 (w.heap.size + 1 + 1) 0 24 = some ({ a.call with fh := [], fh2 := [] } : Call).vals.toArray := bX.row 0 24 (by rw [Call.len]; omega)
  replace c0 := (hB2.cell (p := ⟨w.heap.size, 0, none⟩) hl1).trans c0
  replace c1 := (hB2.cell (p := ⟨w.heap.size, 1, none⟩) hl1).trans c1
  replace c2 := (hB2.cell (p := ⟨w.heap.size, 2, none⟩) hl1).trans c2
  replace c3 := (hB2.cell (p := ⟨w.heap.size, 3, none⟩) hl1).trans c3
  have tR := bR.thereB 0 24 (by rw [Call.len]; omega)
  have HB := Lib.hid (below_then hB hB2)
  have HR := Lib.hid bR
  clear rC hs hB hB2 bA bX bR hl1 HW
  go_wp2
  go_region
  go_wp2
  have HE := asked_end (is' := [.int .i64 a.var]) HR.out HB.out (by omega) HQ.out rfl
  refine ret_cells3 (w.heap.size + 1) 0 ({ callZ with proc := 21 } : Call).vals _ _ Tryz.results33 Tryz.underlying36 rfl (by kernel_rfl) rfl rfl rfl HE.1 rfl ?_
  exact HE.2
set_option maxRecDepth 20000 in
set_option maxHeartbeats 1600000 in
theorem asked33_5 (a : Ask) (w : World) (hk : a.kind = 5) : Calls Tryz.prog 33 #[.agg a.vals.toArray] w (AskedP a w) := by
  have HQ := Lib.hid (show askedC a = ({ a.call with fh := [], fh2 := [] }, [a.dir, a.to_, a.var], true) from (if_neg (by omega)).trans ((if_neg (by omega)).trans ((if_neg (by omega)).trans ((if_neg (by omega)).trans (if_pos hk)))))
  obtain ⟨bA, bR, hB, hs⟩ := chain2_blks w a.vals callZ.vals 38 36
  obtain ⟨w1, hw1⟩ : ∃ V, V = (w.alloc (.cells a.vals.toArray 38)).alloc (.cells callZ.vals.toArray 36) := ⟨_, rfl⟩
  rw [← hw1] at bA bR hB hs
  have HW := Lib.hid hw1
  clear hw1
  have c0 : w1.cell? ⟨w.heap.size, 0, none⟩ = some (.int .i64 5) := by rw [bA.cell 0]; show some (Value.int .i64 a.kind) = _; rw [hk]
  have c1 : w1.cell? ⟨w.heap.size, 1, none⟩ = some (.int .i64 a.var) := bA.cell 1
  have c2 : w1.cell? ⟨w.heap.size, 2, none⟩ = some (.int .i64 a.dir) := bA.cell 2
  have c3 : w1.cell? ⟨w.heap.size, 3, none⟩ = some (.int .i64 a.to_) := bA.cell 3
  have rC : rowOf w1 w.heap.size 6 24 = some a.call.vals.toArray := bA.row 6 24 (by rw [Ask.len]; omega)
  have hl1 := bA.lt
  go_enter Tryz.func33, Tryz.ntmps33
  go_upto_region 1 with fail
  change Code.wp _ _ _ _ ((w.alloc (.cells a.vals.toArray 38)).alloc (.cells callZ.vals.toArray 36))
  rw [← HW.out]
  go_upto_region 3 with fail
  change Code.wp _ _ _ _ (w1.alloc (.cells ({ a.call with fh := [], fh2 := [] } : Call).vals.toArray 36))
  have bX := Blk.new w1 36 ({ a.call with fh := [], fh2 := [] } : Call).vals
  have hB2 : Below w1.heap.size w1 (w1.alloc (.cells ({ a.call with fh := [], fh2 := [] } : Call).vals.toArray 36)) := (Below.refl _ _).alloc (Nat.le_refl _) _
  generalize w1.alloc (.cells ({ a.call with fh := [], fh2 := [] } : Call).vals.toArray 36) = w2 at *
  rw [hs] at bX
  replace bR := bR.stays hB2
  have hlt2 := bX.lt
  have hltR : w.heap.size + 1 < w2.heap.size := by omega
  have hlt0 : w.heap.size < w2.heap.size := by omega
  have hn0 : w.heap.size ≠ w.heap.size + 1 := by omega
  have hn2 : w.heap.size + 1 + 1 ≠ w.heap.size + 1 := by omega
  have d2 : w2.cell? ⟨w.heap.size + 1 + 1, 2, none⟩ = some (.string (bs a.call.name)) := bX.cell 2
  have d5 : w2.cell? ⟨w.heap.size + 1 + 1, 5, none⟩ = some (.int .i64 a.call.offset) := bX.cell 5
  have d6 : w2.cell? ⟨w.heap.size + 1 + 1, 6, none⟩ = some (.int .i64 a.call.count) := bX.cell 6
  have d8 : w2.cell? ⟨w.heap.size + 1 + 1, 8, none⟩ = some (.string (bs a.call.data)) := bX.cell 8
  have rX : rowOf w2 (w.heap.size + 1 + 1) 0 24 = some ({ a.call with fh := [], fh2 := [] } : Call).vals.toArray := bX.row 0 24 (by rw [Call.len]; omega)
  replace c0 := (hB2.cell (p := ⟨w.heap.size, 0, none⟩) hl1).trans c0
  replace c1 := (hB2.cell (p := ⟨w.heap.size, 1, none⟩) hl1).trans c1
  replace c2 := (hB2.cell (p := ⟨w.heap.size, 2, none⟩) hl1).trans c2
  replace c3 := (hB2.cell (p := ⟨w.heap.size, 3, none⟩) hl1).trans c3
  have tR := bR.thereB 0 24 (by rw [Call.len]; omega)
  have HB := Lib.hid (below_then hB hB2)
  have HR := Lib.hid bR
  clear rC hs hB hB2 bA bX bR hl1 HW
  obtain ⟨x, hx⟩ : ∃ x : Call, x = { a.call with fh := [], fh2 := [] } := ⟨_, rfl⟩
  rw [← hx] at rX HQ
  clear hx d2 d5 d6 d8
  go_wp2
  go_region
  go_wp2
  have HE := asked_end (is' := [.int .i64 a.dir, .int .i64 a.to_, .int .i64 a.var]) HR.out HB.out (by omega) HQ.out rfl
  refine ret_cells3 (w.heap.size + 1) 0 x.vals _ _ Tryz.results33 Tryz.underlying36 rfl (by kernel_rfl) rfl rfl rfl HE.1 rfl ?_
  exact HE.2
set_option maxRecDepth 20000 in
set_option maxHeartbeats 1600000 in
theorem asked33_0 (a : Ask) (w : World) (hk : a.kind ≠ 1 ∧ a.kind ≠ 2 ∧ a.kind ≠ 3 ∧ a.kind ≠ 4 ∧ a.kind ≠ 5) : Calls Tryz.prog 33 #[.agg a.vals.toArray] w (AskedP a w) := by
  have HQ := Lib.hid (show askedC a = (callZ, [], false) from (if_neg (by omega)).trans ((if_neg (by omega)).trans ((if_neg (by omega)).trans ((if_neg (by omega)).trans (if_neg (by omega))))))
  obtain ⟨bA, bR, hB, hs⟩ := chain2_blks w a.vals callZ.vals 38 36
  obtain ⟨w1, hw1⟩ : ∃ V, V = (w.alloc (.cells a.vals.toArray 38)).alloc (.cells callZ.vals.toArray 36) := ⟨_, rfl⟩
  rw [← hw1] at bA bR hB hs
  have HW := Lib.hid hw1
  clear hw1
  have c0 : w1.cell? ⟨w.heap.size, 0, none⟩ = some (.int .i64 a.kind) := by rw [bA.cell 0]; show some (Value.int .i64 a.kind) = _; rfl
  have c1 : w1.cell? ⟨w.heap.size, 1, none⟩ = some (.int .i64 a.var) := bA.cell 1
  have c2 : w1.cell? ⟨w.heap.size, 2, none⟩ = some (.int .i64 a.dir) := bA.cell 2
  have c3 : w1.cell? ⟨w.heap.size, 3, none⟩ = some (.int .i64 a.to_) := bA.cell 3
  have rC : rowOf w1 w.heap.size 6 24 = some a.call.vals.toArray := bA.row 6 24 (by rw [Ask.len]; omega)
  have hl1 := bA.lt
  have k1 : (a.kind == 1) = false := by simpa using hk.1
  have k2 : (a.kind == 2) = false := by simpa using hk.2.1
  have k3 : (a.kind == 3) = false := by simpa using hk.2.2.1
  have k4 : (a.kind == 4) = false := by simpa using hk.2.2.2.1
  have k5 : (a.kind == 5) = false := by simpa using hk.2.2.2.2
  clear hk
  go_enter Tryz.func33, Tryz.ntmps33
  go_upto_region 1 with fail
  change Code.wp _ _ _ _ ((w.alloc (.cells a.vals.toArray 38)).alloc (.cells callZ.vals.toArray 36))
  rw [← HW.out]
  go_upto_region 3 with fail
  change Code.wp _ _ _ _ (w1.alloc (.cells ({ a.call with fh := [], fh2 := [] } : Call).vals.toArray 36))
  have bX := Blk.new w1 36 ({ a.call with fh := [], fh2 := [] } : Call).vals
  have hB2 : Below w1.heap.size w1 (w1.alloc (.cells ({ a.call with fh := [], fh2 := [] } : Call).vals.toArray 36)) := (Below.refl _ _).alloc (Nat.le_refl _) _
  generalize w1.alloc (.cells ({ a.call with fh := [], fh2 := [] } : Call).vals.toArray 36) = w2 at *
  rw [hs] at bX
  replace bR := bR.stays hB2
  have hlt2 := bX.lt
  have hltR : w.heap.size + 1 < w2.heap.size := by omega
  have hlt0 : w.heap.size < w2.heap.size := by omega
  have hn0 : w.heap.size ≠ w.heap.size + 1 := by omega
  have hn2 : w.heap.size + 1 + 1 ≠ w.heap.size + 1 := by omega
  have d2 : w2.cell? ⟨w.heap.size + 1 + 1, 2, none⟩ = some (.string (bs a.call.name)) := bX.cell 2
  have d5 : w2.cell? ⟨w.heap.size + 1 + 1, 5, none⟩ = some (.int .i64 a.call.offset) := bX.cell 5
  have d6 : w2.cell? ⟨w.heap.size + 1 + 1, 6, none⟩ = some (.int .i64 a.call.count) := bX.cell 6
  have d8 : w2.cell? ⟨w.heap.size + 1 + 1, 8, none⟩ = some (.string (bs a.call.data)) := bX.cell 8
  have rX : rowOf w2 (w.heap.size + 1 + 1) 0 24 = some ({ a.call with fh := [], fh2 := [] } : Call).vals.toArray := bX.row 0 24 (by rw [Call.len]; omega)
  replace c0 := (hB2.cell (p := ⟨w.heap.size, 0, none⟩) hl1).trans c0
  replace c1 := (hB2.cell (p := ⟨w.heap.size, 1, none⟩) hl1).trans c1
  replace c2 := (hB2.cell (p := ⟨w.heap.size, 2, none⟩) hl1).trans c2
  replace c3 := (hB2.cell (p := ⟨w.heap.size, 3, none⟩) hl1).trans c3
  have tR := bR.thereB 0 24 (by rw [Call.len]; omega)
  have HB := Lib.hid (below_then hB hB2)
  have HR := Lib.hid bR
  clear rC hs hB hB2 bA bX bR hl1 HW
  go_wp2
  have h1 : Blk (putsW w2 (w.heap.size + 1) 0 callZ.vals) (w.heap.size + 1) 36 callZ.vals := by
    rw [putsW_eq]; exact HR.out.whole (by rw [Call.len])
  refine ret_cells3 (w.heap.size + 1) 0 callZ.vals (.slice none 0 0) (.bool false) Tryz.results33 Tryz.underlying36 rfl (by kernel_rfl) rfl rfl rfl h1.range rfl ?_
  refine ⟨none, 0, by rw [HQ.out]; rfl, by rw [HQ.out]; exact At.nil, ?_⟩
  rw [putsW_eq]
  exact Below.setWhole HB.out (by omega) _
theorem asked33_any (a : Ask) (w : World) : Calls Tryz.prog 33 #[.agg a.vals.toArray] w (AskedP a w) := by
  by_cases h1 : a.kind = 1
  · exact asked33_1 a w h1
  by_cases h2 : a.kind = 2
  · exact asked33_2 a w h2
  by_cases h3 : a.kind = 3
  · exact asked33_3 a w h3
  by_cases h4 : a.kind = 4
  · exact asked33_4 a w h4
  by_cases h5 : a.kind = 5
  · exact asked33_5 a w h5
  exact asked33_0 a w ⟨h1, h2, h3, h4, h5⟩
end Go.Proofs.YtfjflkmhhbhceaaGreatDoor

/-
  Layer 33, walks: all that a client has made. Condition: at most a million records.
-/
namespace Go.Proofs.YtfjflkmhhbhceaaGreatDoor
open Go.RowKit
attribute [local go_sem ↓] Go.wp_at_zero Go.wp_at_succ
attribute [local go_sem] rowAt_ptr rowOf_drew rowOf_drewN rowOf_alloc_past rowOf_new
attribute [local go_sem ↓] st33Reply ld33Reply

attribute [local go_sem] thereB_drew thereB_drewN thereB_new thereB_past putsW_drew putsW_size ptrAt blkAt offAt allV33 oneV33

attribute [local go_sem low] rowV33_agg

attribute [local go_sem] Reply.len rowV33_reply

set_option maxRecDepth 20000 in
set_option maxHeartbeats 800000 in
theorem cloneR33 (A : Option Addr) (c : Nat) (l : List Recd) (w : World) (hl : l.length ≤ 1000000) (hA : At w 88 A (l.map Recd.vals)) :
    Calls Tryz.prog 49 #[.slice A l.length c] w fun e w' => ∃ A' c', e = .returned (.slice A' l.length c') ∧ RowS w' w.heap.size 65 88 (.slice A' l.length c') (l.map Recd.vals) ∧ Below w.heap.size w w' := by
  suffices H : Calls Tryz.prog 49 #[.slice A l.length c] w fun e w' => ∃ v, e = .returned v ∧ RowS w' w.heap.size 65 88 v (l.map Recd.vals) ∧ Below w.heap.size w w' by
    refine H.mono ?_
    rintro e w' ⟨v, rfl, hR, hb⟩
    obtain ⟨A', c', rfl, -⟩ := hR.at_
    rw [List.length_map] at hR ⊢
    exact ⟨A', c', rfl, hR, hb⟩
  obtain ⟨i0, hi, hz, hsize, hby⟩ := info_parts infoRecd33
  have q22 : ∀ (w : World) (a : Option Addr) (n c n' c' : Nat), (binOp .eql 60 (.slice a n c) (.slice none n' c')).run Tryz.prog w = .ok (.bool a.isNone) w := fun w a n c n' c' => Lib.run_eql_slice_nil w _ _ a n c n' c' Tryz.underlying60
  have hlen : ∀ r ∈ l.map Recd.vals, r.length = 88 := recds_len l
  cases A with
  | none =>
    have h0 : l = [] := by
      cases l with
      | nil => rfl
      | cons x l => obtain ⟨b, off, h, _⟩ := hA 0 x.vals (by simp); cases h
    subst h0
    go_enter Tryz.func49, Tryz.ntmps49
    go_wp2
    go_ret
    exact ⟨_, rfl, RowS.none_, Below.refl _ _⟩
  | some A =>
    have hcell := hA.flat hlen (by omega)
    have hfl := flat_len _ hlen
    rw [List.length_map] at hfl
    have H := Lib.hid (And.intro hcell (And.intro hlen hfl))
    clear hcell hlen hfl hA
    go_enter Tryz.func49, Tryz.ntmps49
    go_wp2_with (at_builtin; refine wpList_append_own _ rfl _ _ 60 rfl w.heap.size 65 i0 (.agg recdZ33.vals.toArray) 88 800 Tryz.underlying60 hi hz hsize hby rfl (by decide) _ _ _ rfl (World.ownsRow_made w #[] 0 (Nat.le_refl _) (Nat.zero_le _) rfl) A l.length c (l.map Recd.vals).flatten rfl ?qc1 ?qc2 ?qc3 ?qc4 ?qc5 ?qc6 ?_)
    case qc1 => exact H.out.2.2
    case qc2 => exact fun j u hj => Lib.cell?_alloc_some _ (H.out.1 j u hj)
    case qc3 =>
      intro u hu
      obtain ⟨r, hr, hu⟩ := List.mem_flatten.1 hu
      obtain ⟨x, _, rfl⟩ := List.mem_map.1 hr
      exact x.one u hu
    case qc4 => unfold maxLen; omega
    case qc5 => omega
    case qc6 => simp
    intro v' w1 hown hgrow hnil
    go_wp2
    go_ret
    refine ⟨v', rfl, ⟨H.out.2.1, ?_⟩, ?_⟩
    · rw [List.length_map]
      simpa using hown
    · exact ((Below.refl _ w).alloc (Nat.le_refl _) _).grown hgrow (by simp) (by intro k hk; simp [Value.ownBlock] at hk; omega)
theorem RowS.thereB_ {w : World} {B : Nat} {e : TypeId} {sz n c b : Nat} {rows : List (List Value)} (h : RowS w B e sz (.slice (some ⟨b, 0, none⟩) n c) rows) (o k : Nat) (hk : o + k ≤ n * sz) : thereB w b o k = true := by
  rcases h.2.2 with ⟨h1, _⟩ | ⟨g', cap', cur, h1, _, h3, h4, _, h6, _⟩
  · cases h1
  · injection h1 with h1 h2 h5
    injection h1 with h1
    injection h1 with h1 _ _
    subst h1
    unfold thereB
    rw [h3]
    simp only [decide_eq_true_eq]
    have h7 := h.lenOf
    have : n * sz ≤ cap' * sz := Nat.mul_le_mul_right _ (by omega)
    omega
/-- the first k of some records have results of their own -/
structure HalfR (w0 : World) (F : Nat → Prop) (l : List Recd) (rs : List RecdD) (w : World) (k : Nat) (lk : List Recd) : Prop where
  len : lk.length = l.length
  done : ∀ (j : Nat) (h : j < lk.length) (h' : j < rs.length), j < k → RecIs w (fun b => w0.heap.size ≤ b) lk[j] rs[j]
  rest : ∀ (j : Nat) (h : j < lk.length) (h' : j < l.length), k ≤ j → lk[j] = l[j]
theorem HalfR.start (w0 w : World) (F : Nat → Prop) (l : List Recd) (rs : List RecdD) : HalfR w0 F l rs w 0 l := ⟨rfl, fun _ _ _ h => absurd h (Nat.not_lt_zero _), fun _ _ _ _ => rfl⟩
theorem HalfR.next {w0 w w' : World} {F : Nat → Prop} {l : List Recd} {rs : List RecdD} {k : Nat} {lk : List Recd} (h : HalfR w0 F l rs w k lk) (hk : k < lk.length) (hk2 : k < rs.length) (r : Reply) (hT : Touch (TyIn w own33) w w') (hR : RepAt w' (fun b => w0.heap.size ≤ b) r rs[k].rep) (hE : lk[k].cred = rs[k].cred ∧ lk[k].begin_ = rs[k].beg ∧ lk[k].end_ = rs[k].fin ∧ lk[k].call = rs[k].call) :
    HalfR w0 F l rs w' (k + 1) (lk.set k { lk[k] with reply := r }) := by
  refine ⟨by rw [List.length_set]; exact h.len, fun j h1 h2 h3 => ?_, fun j h1 h2 h3 => ?_⟩
  · rw [List.length_set] at h1
    rw [List.getElem_set]
    split
    · next e =>
      subst e
      exact ⟨hE.1, hE.2.1, hE.2.2.1, hE.2.2.2, hR⟩
    · next e => exact (h.done j h1 h2 (by omega)).tou hT
  · rw [List.length_set] at h1
    rw [List.getElem_set]
    split
    · next e => omega
    · exact h.rest j h1 h2 (by omega)
set_option maxRecDepth 20000 in
set_option maxHeartbeats 1600000 in
theorem records33_any (F : Nat → Prop) (w : World) (g : Nat) (c : ClD) (z : Clnt) (l : List Recd) (hC : ClAt F w g c z l) (hrl : c.recs.length ≤ 1000000) :
    Calls Tryz.prog 15 #[.pointer (some ⟨g, 0, none⟩)] w fun e w' => ∃ v lk, e = .returned v ∧ RecsAt w' (fun b => w.heap.size ≤ b) v lk c.recs ∧ Below w.heap.size w w' := by
  have hll : l.length = c.recs.length := hC.rcs.len
  have hrow := hC.rcs.row
  have hzn : z.rn = l.length := by
    have := hrow.lenOf
    rw [List.length_map] at this
    exact this
  rw [hzn] at hrow
  have c55 : w.cell? ⟨g, 55, none⟩ = some (.slice z.ra l.length z.rc) := by rw [← hzn]; exact hC.blk.cell 55
  have KC := Lib.hid (cloneR33 z.ra z.rc l w (by omega) hrow.rows)
  have HC := Lib.hid hC
  have HLL := Lib.hid hll
  clear hrow hzn hC hll
  go_enter Tryz.func15, Tryz.ntmps15
  go_wp2_with fail
  refine KC.out.mono ?_
  rintro e w1 ⟨A, cap, rfl, hR, hb⟩
  have HR := Lib.hid hR
  have HB := Lib.hid hb
  clear hR hb KC c55
  go_wp2
  go_loopw [14] (fun i wr => ∃ (k : Nat) (lk : List Recd), k ≤ l.length ∧ i = .int .i64 k ∧ RowS wr w.heap.size 65 88 (.slice A l.length cap) (lk.map Recd.vals) ∧ HalfR w F l c.recs wr k lk ∧ Below w.heap.size w wr) (fun i _ => l.length - (intOf i).toNat)
  case atStart => exact ⟨0, l, Nat.zero_le _, rfl, HR.out, HalfR.start _ _ _ _ _, HB.out⟩
  case round =>
    obtain ⟨k, lk, hk, rfl, hR, hH, hB⟩ := hrel
    by_cases hlt : k < l.length
    · have hlk : k < lk.length := by rw [hH.len]; exact hlt
      have hkr : k < c.recs.length := by have := HLL.out; omega
      have hx := hH.rest k hlk hlt (Nat.le_refl _)
      have hI := HC.out.rcs.each k hlt hkr
      rw [← hx] at hI
      obtain ⟨b, rfl⟩ : ∃ b, A = some ⟨b, 0, none⟩ := by
        rcases hR.2.2 with ⟨h1, h2⟩ | ⟨g', cap', cur, h1, _⟩
        · rw [List.length_map] at h2; omega
        · injection h1 with h1 _ _
          exact ⟨g', h1⟩
      have hrr : rowOf wr b (k * 88 + 30) 58 = some lk[k].reply.vals.toArray := by
        obtain ⟨b2, o2, h1, h2, h3⟩ := hR.rows k lk[k].vals (by rw [List.getElem?_map, List.getElem?_eq_getElem hlk]; rfl)
        injection h1 with h1
        injection h1 with h4 h5 _
        subst h4 h5
        refine rowOf_of (fun j u hu => ?_) (Reply.len _) (by decide)
        have h6 := h3 (30 + j) u (by rw [← List.getElem?_drop, show lk[k].vals.drop 30 = lk[k].reply.vals from rfl]; exact hu)
        rw [show 0 + k * 88 + (30 + j) = k * 88 + 30 + j by omega] at h6
        exact h6
      have hrep := hI.rep
      have KR := Lib.hid (clone8_any ⟨lk[k].reply, c.recs[k].rep.es, c.recs[k].rep.us⟩ wr (hrep.there.below hB) hrep.le hrep.lu)
      have tB := Lib.hid (fun (V : World) (h : Below wr.heap.size wr V) => thereB_stays (hR.thereB_ (k * 88 + 30) 58 (by omega)) h)
      have hk0 : (0 : Int) ≤ (k : Int) := Int.natCast_nonneg _
      have hk1 : (k : Int) < (l.length : Int) := by omega
      have hkw : IntKind.i64.wrap ((k : Int) + 1) = ((k + 1 : Nat) : Int) := by rw [IntWalk.i64_in _ (by omega)]; omega
      have HK := Lib.hid (And.intro hR (And.intro hH (And.intro hB (And.intro hI hx))))
      have Hlk := Lib.hid (And.intro hlk hkr)
      clear hR hH hB hI hx hrep
      go_wp2_with fail
      refine KR.out.mono ?_
      rintro e w5 ⟨r, rfl, hbare, hth5, hE5, hU5, hb5⟩
      have t5 := tB.out w5 hb5
      have H5 := Lib.hid (And.intro hbare (And.intro hE5 (And.intro hU5 hb5)))
      clear hbare hth5 hE5 hU5 hb5 hrr KR
      go_wp2
      go_roundw
      case rel =>
        obtain ⟨hR, hH, hB, hI, hx⟩ := HK.out
        obtain ⟨hbare, hE5, hU5, hb5⟩ := H5.out
        obtain ⟨hlk, hkr⟩ := Hlk.out
        have hR5 := hR.stays hb5
        have hsp : lk = lk.take k ++ lk[k] :: lk.drop (k + 1) := by rw [← List.drop_eq_getElem_cons hlk, List.take_append_drop]
        have hset : lk.set k { lk[k] with reply := r } = lk.take k ++ { lk[k] with reply := r } :: lk.drop (k + 1) := by
          rw [List.set_eq_take_append_cons_drop, if_pos hlk]
        have hb88 : b < w5.heap.size := (hR5.lt b rfl).2
        have hty : Touch (TyIn w5 own33) w5 (putsW w5 b (k * 88 + 30) r.vals) := ((Touch.refl (fun j => j = b) w5).puts (k := b) (.inl rfl)).mono fun j _ hj => by
          subst hj
          obtain ⟨C, hC⟩ := own_ty hR5.2 j rfl
          exact ⟨C, _, _, hC, by decide⟩
        have hbB : w.heap.size ≤ b := (hR5.lt b rfl).1
        have hwr := hB.size
        have hln := hH.len
        refine ⟨k + 1, lk.set k { lk[k] with reply := r }, by omega, by go_num, ?_, ?_, ?_⟩
        · rw [hset, List.map_append, List.map_cons]
          have h1 := hR5
          rw [hsp, List.map_append, List.map_cons] at h1
          have h2 := RowS.putMid (a := lk[k].vals.take 30) (m := lk[k].reply.vals) (b := []) (r := r.vals) (pre := (lk.take k).map Recd.vals) (post := (lk.drop (k + 1)).map Recd.vals) (by
            rw [List.append_nil, show lk[k].vals.take 30 ++ lk[k].reply.vals = lk[k].vals from rfl]
            exact h1) (by rw [Reply.len, Reply.len]) (by simp; omega)
          rw [List.length_map, List.length_take, Nat.min_eq_left (by omega), show (lk[k].vals.take 30).length = 30 from rfl, ← putsW_eq, List.append_nil] at h2
          exact h2
        · have hH5 : HalfR w F l c.recs w5 k lk := ⟨hH.len, fun j h1 h2 h3 => (hH.done j h1 h2 h3).tou (Touch.of_below hb5 _), hH.rest⟩
          refine hH5.next hlk hkr r hty ?_ ⟨hI.cred, hI.beg, hI.fin, hI.call⟩
          have hz : RepAt w5 (fun b => w.heap.size ≤ b) r c.recs[k].rep := ⟨hbare.trans hI.rep.bare, hE5.base (Nat.zero_le _), hU5.base (Nat.zero_le _), fun j hj => Nat.le_trans hwr (hE5.lt j hj).1, fun j hj => Nat.le_trans hwr (hU5.lt j hj).1, hI.rep.le, hI.rep.lu⟩
          exact hz.tou hty
        · rw [putsW_eq]
          exact Below.setCells hbB _ _ _ (below_then hB hb5)
      case measure => simp [intOf]; omega
    · obtain rfl : k = l.length := by omega
      have HK := Lib.hid (And.intro hR (And.intro hH hB))
      clear hR hH hB
      go_wp2
      go_ret
      obtain ⟨hR, hH, hB⟩ := HK.out
      refine ⟨_, lk, rfl, ⟨hR.base (Nat.zero_le _), fun j hj => (hR.lt j hj).1, hH.len.trans HLL.out, fun i h1 h2 => hH.done i h1 h2 (by have := hH.len; omega)⟩, hB⟩
end Go.Proofs.YtfjflkmhhbhceaaGreatDoor
