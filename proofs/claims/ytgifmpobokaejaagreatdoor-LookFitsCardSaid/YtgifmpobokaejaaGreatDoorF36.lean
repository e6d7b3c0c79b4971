/-
  Layer 22, walks: a tree with the root alone. No condition.
-/
import Derived.Test.YtgifmpobokaejaaGreatDoorF35
import Derived.Test.YtgifmpobokaejaaGreatDoorF08
import Derived.Test.YtgifmpobokaejaaGreatDoorF22
import Derived.Test.YtgifmpobokaejaaGreatDoorF32
namespace Go.Proofs.YtgifmpobokaejaaGreatDoor
open Go.RowKit
open Go.RowKit
attribute [local go_sem ↓] Go.wp_at_zero Go.wp_at_succ
attribute [local go_sem] rowAt_ptr rowOf_drew rowOf_drewN rowOf_alloc_past rowOf_new
attribute [local go_sem ↓] ldNode22 ldTree22 ldAttrR

theorem ldLimN {ρ : Operand → Value} {w : World} {dst : Option Tmp} {ty : TypeId} {pos : String} {after : Array Edge} {g : Option (Nat × Bool)} {x : Operand} (h : (rowAt w 3 (ρ x)).isSome = true) :
    (execOp ρ ⟨dst, .load 23 x, ty, pos, after, g⟩).run Tryz.prog w = .ok (.value (.agg ((rowAt w 3 (ρ x)).getD #[]))) w := ex_load 23 3 Tryz.underlying23 rfl (by kernel_rfl) h
attribute [local go_sem ↓] ldLimN

/-- the root -/
def rootN : Nd := ⟨⟨2, 511, 2, 0, 0, 0, 1, 1, 0, 0⟩, ⟨#[]⟩, 0, 1, 0, none, 0, 0⟩
def trZ : Tr := ⟨⟨0, 0, 0⟩, 0, 0, none, 0, []⟩
theorem Tr.one22 (t : Tr) : ∀ v ∈ t.vals, v.oneCell' = true := by
  intro v hv
  unfold Tr.vals at hv
  rcases List.mem_append.1 hv with hv | hv
  · exact Lim.one _ v hv
  · simp only [List.mem_cons, List.not_mem_nil, or_false] at hv
    rcases hv with rfl | rfl | rfl <;> rfl
theorem infoTree22 : (Tryz.prog.info? 26).map (fun i => (i.zero, i.size)) = some (some (.agg trZ.vals.toArray), 6) := by kernel_rfl
/-- what New gives of limits that may be -/
def NewP (l : Lim) (w : World) (e : Ending) (w' : World) : Prop :=
  ∃ t : Tr, e = .returned (.tuple #[.agg t.vals.toArray, .int .i64 0]) ∧ t.lim = l ∧ t.now = 0 ∧ t.gens = 1 ∧ TreeH w' t [(rootN, [])] ∧ t.ns.length ≤ t.nc ∧ Below w.heap.size w w'
set_option maxRecDepth 20000 in
set_option maxHeartbeats 3200000 in
theorem lookNew_any (l : Lim) (w : World) (hok : l.ok = true) : Calls Tryz.prog 19 #[.agg l.vals.toArray] w (NewP l w) := by
  obtain ⟨i0, hi, hz, hsize⟩ : ∃ i0, Tryz.prog.info? 65 = some i0 ∧ i0.zero = some (.agg ndZ.vals.toArray) ∧ i0.size = 15 := by
    have h : (Tryz.prog.info? 65).map (fun i => (i.zero, i.size)) = some (some (.agg ndZ.vals.toArray), 15) := by kernel_rfl
    cases hi : Tryz.prog.info? 65 with
    | none => rw [hi] at h; cases h
    | some i =>
      rw [hi] at h
      simp only [Option.map_some, Option.some.injEq, Prod.mk.injEq] at h
      exact ⟨i, rfl, h.1, h.2⟩
  obtain ⟨bL, bR, hB, hs⟩ := chain2_blks w l.vals trZ.vals 23 26
  obtain ⟨w1, hw1⟩ : ∃ V, V = (w.alloc (.cells l.vals.toArray 23)).alloc (.cells trZ.vals.toArray 26) := ⟨_, rfl⟩
  rw [← hw1] at bL bR hB hs
  obtain ⟨sp, qu, no⟩ := l
  have rL : rowOf w1 w.heap.size 0 3 = some #[.int .i64 sp, .int .i64 qu, .int .i64 no] := bL.row 0 3 (by show _ ≤ 3; omega)
  have hlL := bL.lt
  have hlR := bR.lt
  have HW1 := Lib.hid hw1
  have HI := Lib.hid (And.intro hi (And.intro hz hsize))
  have KC := Lib.hid (fun W => (show Calls Tryz.prog 57 #[.agg #[.int .i64 sp, .int .i64 qu, .int .i64 no]] W fun e w' => e = .returned (.int .i64 0) ∧ Below W.heap.size W w' by
    have := check_any ⟨sp, qu, no⟩ W
    rw [hok] at this
    exact this))
  clear hw1 bL hs hi hz hsize
  go_enter Tryz.func19, Tryz.ntmps19
  go_upto_region 1 with fail
  change Code.wp _ _ _ _ ((w.alloc (.cells (Lim.mk sp qu no).vals.toArray 23)).alloc (.cells trZ.vals.toArray 26))
  rw [← HW1.out]
  go_wp2_with fail
  refine (KC.out _).mono ?_
  rintro e w2 ⟨rfl, hb⟩
  replace rL := (rowOf_below hb hlL 0 3).trans rL
  replace bR := bR.stays hb
  replace hB := below_then hB hb
  replace hlL := Nat.lt_of_lt_of_le hlL hb.size
  replace hlR := Nat.lt_of_lt_of_le hlR hb.size
  clear hb KC HW1
  have bN := Blk.new w2 65 rootN.vals
  have hbN : Below w2.heap.size w2 (w2.alloc (.cells rootN.vals.toArray 65)) := (Below.refl _ _).alloc (Nat.le_refl _) _
  go_upto_region 5 with (first | (refine wpList_new_struct (by rfl) (by rfl) 65 (by rfl) _ _ (by rfl) rootN.vals infoNode (by rfl) (by rfl) (Nd.one _) (by rfl) (by rfl) ?_) | fail)
  generalize w2.alloc (.cells rootN.vals.toArray 65) = w3 at *
  have rN : rowOf w3 w2.heap.size 0 15 = some rootN.vals.toArray := bN.row 0 15 (by rw [Nd.len]; omega)
  replace rL := (rowOf_below hbN hlL 0 3).trans rL
  replace bR := bR.stays hbN
  replace hB := below_then hB hbN
  clear hbN bN
  have hAt : At (w3.alloc (.cells rootN.vals.toArray 65)) 15 (some ⟨w3.heap.size, 0, none⟩) [rootN.vals] := by
    have := At.fresh w3 65 15 w3.heap.size [rootN.vals] (by intro r hr; simp only [List.mem_singleton] at hr; subst hr; rfl) rfl
    simpa using this
  have hbA : Below w3.heap.size w3 (w3.alloc (.cells rootN.vals.toArray 65)) := (Below.refl _ _).alloc (Nat.le_refl _) _
  have hlR3 := bR.lt
  obtain ⟨w4, hw4⟩ : ∃ V, V = w3.alloc (.cells rootN.vals.toArray 65) := ⟨_, rfl⟩
  rw [← hw4] at hAt hbA
  have bR4 := bR.stays hbA
  have hB4 := below_then hB hbA
  obtain ⟨t, ht⟩ : ∃ t : Tr, t = ⟨⟨sp, qu, no⟩, 0, 1, some ⟨w3.heap.size, 0, none⟩, 1, [rootN]⟩ := ⟨_, rfl⟩
  have HW4 := Lib.hid hw4
  have HTt := Lib.hid ht
  have HR := Lib.hid (And.intro (bR4.whole (cs := t.vals) (by rfl)) (Below.setWhole (b := w.heap.size + 1) hB4 (by omega) t.vals))
  have HA := Lib.hid (hAt.farCells (g := w.heap.size + 1) (fun p h => by injection h with h; subst h; exact hlR3) 0 t.vals)
  clear hw4 ht hAt hbA hB4
  rw [HW4.out] at bR4
  go_wp2_with (first
    | (refine wpList_buildSlice_one (by rfl) 24 65 (.tmp 15) (by rfl) rootN.vals (by rfl) Tryz.underlying24 i0 _ HI.out.1 HI.out.2.1 rfl HI.out.2.2 (by rw [Nd.len]; omega) (by rw [Nd.len]; omega) ?_)
    | (refine wpList_store_whole (by rfl) 26 _ _ (by rfl) (w.heap.size + 1) t.vals _ bR4 (by rfl) (by rfl) (by rw [HTt.out]; rfl) (by kernel_rfl) (Tr.one22 _) ?_; rw [← HW4.out])
    | fail)
  refine ret_cells2 (w.heap.size + 1) 0 t.vals (.int .i64 0) Tryz.results19 Tryz.underlying26 rfl (by kernel_rfl) rfl rfl HR.out.1.range rfl ?_
  refine ⟨t, rfl, by rw [HTt.out], by rw [HTt.out], by rw [HTt.out], ⟨by rw [HTt.out]; rfl, ?_, ?_, ?_, ?_, ?_⟩, by rw [HTt.out]; exact Nat.le_refl _, HR.out.2⟩
  · have := HA.out
    rw [HTt.out] at this ⊢
    exact this
  · intro p hp
    simp only [List.mem_singleton] at hp
    subst hp
    exact ⟨rfl, At.nil⟩
  · rw [HTt.out]
    refine ⟨by simp, fun n hn => ?_⟩
    simp only [List.mem_singleton] at hn
    subst hn
    decide
  · intro p hp
    simp only [List.mem_singleton] at hp
    subst hp
    exact ⟨Nat.zero_le _, fun x hx => by cases hx⟩
  · intro m hm
    rw [HTt.out] at hm
    simp only [List.mem_singleton] at hm
    subst hm
    decide
end Go.Proofs.YtgifmpobokaejaaGreatDoor

/-
  Layer 22, walks: what must come of the fixed calls. Condition: the library's table and errors are laid.
-/
namespace Go.Proofs.YtgifmpobokaejaaGreatDoor
open Go.RowKit
open Go.RowKit
attribute [local go_sem ↓] Go.wp_at_zero Go.wp_at_succ
attribute [local go_sem] rowAt_ptr rowOf_drew rowOf_drewN rowOf_alloc_past rowOf_new
attribute [local go_sem ↓] ldTree22 ldReply

def credZ22 : Cred := ⟨0, 0, 0, 0⟩
def call1 : Call := { callZ with proc := 1, fh := [49] }
def call3 : Call := { callZ with proc := 3, fh := [49], name := [97] }
theorem at1 {t : Tr} (h : t.ns = [rootN]) : atP t.ns [49] = (0, 0) := by
  rw [h]
  decide +kernel
theorem do1 {t : Tr} (h : t.ns = [rootN]) : (doR t [(rootN, [])] credZ22 call1).1.f.obj = postN rootN ∧ (doR t [(rootN, [])] credZ22 call1).2 = true := by
  have ha : atP t.ns call1.fh = (0, 0) := at1 h
  unfold doR
  rw [if_neg (by decide), if_neg (by decide), ha, if_neg (by decide)]
  exact ⟨rfl, rfl⟩
theorem look3 : (lookupR [rootN] credZ22 call3 rootN []).status = 2 := by decide +kernel
theorem do3 {t : Tr} (h : t.ns = [rootN]) : (doR t [(rootN, [])] credZ22 call3).1.f.status = 2 ∧ (doR t [(rootN, [])] credZ22 call3).1.f.dir.is = true ∧ (doR t [(rootN, [])] credZ22 call3).2 = true := by
  have ha : atP t.ns call3.fh = (0, 0) := at1 h
  unfold doR
  rw [if_neg (by decide), if_neg (by decide), ha, if_neg (by decide)]
  have e : (askR t credZ22 call3 rootN []).f.status = 2 := by
    unfold askR
    rw [if_pos (show call3.proc = 3 from rfl), h]
    exact look3
  exact ⟨e, rfl, rfl⟩
theorem good1 : call1.good := by
  unfold Call.good
  refine ⟨by decide, by decide, by decide, by decide, by decide, by decide, by decide, by decide, by decide, ?_, ?_, by decide, by decide, by decide⟩
  · unfold Sett.good Opt.good
    decide
  · unfold Opt.good
    decide
theorem good3 : call3.good := by
  unfold Call.good
  refine ⟨by decide, by decide, by decide, by decide, by decide, by decide, by decide, by decide, by decide, ?_, ?_, by decide, by decide, by decide⟩
  · unfold Sett.good Opt.good
    decide
  · unfold Opt.good
    decide
def cArr : Array Value := #[.int .i64 0, .int .i64 0, .int .i64 0, .int .i64 0]
set_option maxRecDepth 20000 in
set_option maxHeartbeats 3200000 in
theorem known22_any (w : World) (hL : LookLaid w) : Calls Tryz.prog 10 #[] w fun e w' => e = .returned (.bool true) ∧ Below w.heap.size w w' := by
  have KN := Lib.hid (fun W => (show Calls Tryz.prog 19 #[.agg #[.int .i64 10, .int .i64 10, .int .i64 4]] W (NewP ⟨10, 10, 4⟩ W) from lookNew_any ⟨10, 10, 4⟩ W (by decide)))
  go_enter Tryz.func10, Tryz.ntmps10
  go_wp2_with fail
  refine (KN.out _).mono ?_
  rintro e w1 ⟨t, rfl, hl, -, -, hT, -, hb1⟩
  have hns : t.ns = [rootN] := hT.ns
  have hlim : t.lim.ok = true := by rw [hl]; decide
  have HD1 := Lib.hid (do1 hns)
  have HD3 := Lib.hid (do3 hns)
  have hL1 := hL.below hb1
  have K1 := Lib.hid (fun W hT hL => (show Calls Tryz.prog 11 #[.agg t.vals.toArray, .agg #[.int .i64 0, .int .i64 0, .int .i64 0, .int .i64 0], .agg #[.int .i64 1, .string ⟨#[49]⟩, .string ⟨#[]⟩, .string ⟨#[]⟩, .string ⟨#[]⟩, .int .i64 0, .int .i64 0, .int .i64 0, .string ⟨#[]⟩, .bool false, .int .i64 0, .bool false, .int .i64 0, .bool false, .int .i64 0, .bool false, .int .i64 0, .bool false, .int .i64 0, .bool false, .int .i64 0, .int .i64 0, .int .i64 0, .string ⟨#[]⟩]] W (DoP (doR t [(rootN, [])] credZ22 call1) W) from lookDo_any t [(rootN, [])] credZ22 call1 W hT hlim good1 (by decide) hL))
  have K3 := Lib.hid (fun W hT hL => (show Calls Tryz.prog 11 #[.agg t.vals.toArray, .agg #[.int .i64 0, .int .i64 0, .int .i64 0, .int .i64 0], .agg #[.int .i64 3, .string ⟨#[49]⟩, .string ⟨#[97]⟩, .string ⟨#[]⟩, .string ⟨#[]⟩, .int .i64 0, .int .i64 0, .int .i64 0, .string ⟨#[]⟩, .bool false, .int .i64 0, .bool false, .int .i64 0, .bool false, .int .i64 0, .bool false, .int .i64 0, .bool false, .int .i64 0, .bool false, .int .i64 0, .int .i64 0, .int .i64 0, .string ⟨#[]⟩]] W (DoP (doR t [(rootN, [])] credZ22 call3) W) from lookDo_any t [(rootN, [])] credZ22 call3 W hT hlim good3 (by decide) hL))
  generalize doR t [(rootN, [])] credZ22 call1 = D1 at *
  generalize doR t [(rootN, [])] credZ22 call3 = D3 at *
  go_upto_region 2 with (first | (refine wpList_new_struct (by rfl) (by rfl) 26 (by rfl) _ _ (by rfl) t.vals infoTree22 (by rfl) (by rfl) (Tr.one22 _) (by rfl) (by rfl) ?_) | fail)
  have bT := Blk.new w1 26 t.vals
  have hb2 : Below w1.heap.size w1 (w1.alloc (.cells t.vals.toArray 26)) := (Below.refl _ _).alloc (Nat.le_refl _) _
  generalize w1.alloc (.cells t.vals.toArray 26) = w2 at *
  have rT : rowOf w2 w1.heap.size 0 6 = some t.vals.toArray := bT.row 0 6 (by rw [Tr.len]; omega)
  have hlT := bT.lt
  have hB2 := below_then hb1 hb2
  have KK1 := Lib.hid (K1.out w2 (hT.below hb2) (hL1.below hb2))
  have HT2 := Lib.hid (And.intro (hT.below hb2) (hL1.below hb2))
  clear hT hL hL1 hb1 hb2 hl hns hlim bT KN
  go_wp2_with fail
  refine KK1.out.mono ?_
  rintro e w3 ⟨z, rfl, hf, -, -, hb3⟩
  replace rT := (rowOf_below hb3 hlT 0 6).trans rT
  have hB3 := below_then hB2 hb3
  have hlT3 := Nat.lt_of_lt_of_le hlT hb3.size
  have hmode : z.obj = postN rootN := by rw [← HD1.out.1, ← hf]; rfl
  have his : D1.2 = true := HD1.out.2
  rw [his]
  go_upto_region 3 with (first | (refine wpList_new_struct (by rfl) (by rfl) 48 (by rfl) _ _ (by rfl) z.vals infoReply (by rfl) (by rfl) (Reply.one _) (by rfl) (by rfl) ?_) | fail)
  have bZ := Blk.new w3 48 z.vals
  have hb4 : Below w3.heap.size w3 (w3.alloc (.cells z.vals.toArray 48)) := (Below.refl _ _).alloc (Nat.le_refl _) _
  generalize w3.alloc (.cells z.vals.toArray 48) = w4 at *
  have hm : w4.cell? ⟨w3.heap.size, 4, none⟩ = some (.int .i64 511) := by
    have := bZ.cell 4
    rw [this]
    show some (Value.int .i64 z.obj.attr.mode) = _
    rw [hmode]
    rfl
  replace rT := (rowOf_below hb4 hlT3 0 6).trans rT
  have hlZ := bZ.lt
  have hB4 := below_then hB3 hb4
  have hb24 := below_then hb3 hb4
  have KK3 := Lib.hid (K3.out w4 (HT2.out.1.below hb24) (HT2.out.2.below hb24))
  clear K1 K3 KK1 hf hmode his hb3 hb4 bZ hB2 hB3 hb24 HD1 HT2
  go_wp2_with fail
  refine KK3.out.mono ?_
  rintro e w5 ⟨s, rfl, hf, -, -, hb5⟩
  replace hm := (hb5.cell (p := ⟨w3.heap.size, 4, none⟩) hlZ).trans hm
  have hlZ5 := Nat.lt_of_lt_of_le hlZ hb5.size
  have hB5 := below_then hB4 hb5
  have hst : s.status = 2 := by
    rw [← HD3.out.1, ← hf]
    rfl
  have hdi : s.dir.is = true := by
    rw [← HD3.out.2.1, ← hf]
    rfl
  have his : D3.2 = true := HD3.out.2.2
  rw [his]
  go_upto_region 4 with (first | (refine wpList_new_struct (by rfl) (by rfl) 48 (by rfl) _ _ (by rfl) s.vals infoReply (by rfl) (by rfl) (Reply.one _) (by rfl) (by rfl) ?_) | fail)
  have bS := Blk.new w5 48 s.vals
  have hb6 : Below w5.heap.size w5 (w5.alloc (.cells s.vals.toArray 48)) := (Below.refl _ _).alloc (Nat.le_refl _) _
  generalize w5.alloc (.cells s.vals.toArray 48) = w6 at *
  replace hm := (hb6.cell (p := ⟨w3.heap.size, 4, none⟩) hlZ5).trans hm
  have h0 : w6.cell? ⟨w5.heap.size, 0, none⟩ = some (.int .i64 2) := by
    rw [bS.cell 0]
    show some (Value.int .i64 s.status) = _
    rw [hst]
  have h13 : w6.cell? ⟨w5.heap.size, 13, none⟩ = some (.bool true) := by
    rw [bS.cell 13]
    show some (Value.bool s.dir.is) = _
    rw [hdi]
  have HB6 := Lib.hid (below_then hB5 hb6)
  clear hf hst hdi his hb5 hb6 bS hB4 hB5 HD3 rT KK3
  go_wp2
  go_ret
  exact ⟨rfl, HB6.out⟩
end Go.Proofs.YtgifmpobokaejaaGreatDoor


/-
  Layer 22, walks: the document's statuses, what it tells of a node, why something is not done with a file. No condition.
-/
namespace Go.Proofs.YtgifmpobokaejaaGreatDoor
open Go.RowKit
attribute [local go_sem ↓] Go.wp_at_zero Go.wp_at_succ
attribute [local go_sem] rowAt_ptr rowOf_drew rowOf_drewN rowOf_alloc_past rowOf_new
attribute [local go_sem ↓] ldAsk22 ldNode22 ldCred6 ldAttrR ldTree22 ldCall

set_option maxRecDepth 20000 in
set_option maxHeartbeats 800000 in
theorem refBad_any (s : Int) (w : World) : Calls Tryz.prog 37 #[.int .i64 s] w fun e w' => e = .returned (.agg (statR s).vals.toArray) ∧ Below w.heap.size w w' := by
  have b0 := Blk.new w 48 replyZ.vals
  have hB0 : Below w.heap.size w (w.alloc (.cells replyZ.vals.toArray 48)) := (Below.refl _ _).alloc (Nat.le_refl _) _
  have HB := Lib.hid (And.intro (b0.whole (cs := (statR s).vals) (by rfl)) (Below.setWhole hB0 (Nat.le_refl _) (statR s).vals))
  go_enter Tryz.func37, Tryz.ntmps37
  go_wp2_with (first | (refine wpList_store_whole (by rfl) 48 _ _ (by rfl) w.heap.size (statR s).vals _ b0 (by rfl) (by rfl) (by rfl) (by kernel_rfl) (Reply.one _) ?_) | fail)
  exact ret_cells w.heap.size 0 (statR s).vals Tryz.results37 Tryz.underlying48 rfl (by kernel_rfl) rfl HB.out.1.range rfl ⟨rfl, HB.out.2⟩
set_option maxRecDepth 20000 in
set_option maxHeartbeats 800000 in
theorem refPost22_any (n : Nd) (w : World) : Calls Tryz.prog 38 #[.agg n.vals.toArray] w fun e w' => e = .returned (.agg (postN n).vals.toArray) ∧ Below w.heap.size w w' := by
  obtain ⟨⟨a0, a1, a2, a3, a4, a5, a6, a7, a8, a9⟩, nd, nv, np, nl, ea, en, ec⟩ := n
  obtain ⟨n, hn⟩ : ∃ n : Nd, n = ⟨⟨a0, a1, a2, a3, a4, a5, a6, a7, a8, a9⟩, nd, nv, np, nl, ea, en, ec⟩ := ⟨_, rfl⟩
  rw [← hn]
  obtain ⟨bA, bR, hB, hs⟩ := chain2_blks w n.vals postZ.vals 65 42
  obtain ⟨w1, hw1⟩ : ∃ V, V = (w.alloc (.cells n.vals.toArray 65)).alloc (.cells postZ.vals.toArray 42) := ⟨_, rfl⟩
  rw [← hw1] at bA bR hB hs
  have r0 : rowOf w1 w.heap.size 0 10 = some #[.int .i64 a0, .int .i64 a1, .int .i64 a2, .int .i64 a3, .int .i64 a4, .int .i64 a5, .int .i64 a6, .int .i64 a7, .int .i64 a8, .int .i64 a9] := by rw [bA.row 0 10 (by simp [Nd.len]), hn]; rfl
  have HW1 := Lib.hid hw1
  obtain ⟨p, hp⟩ : ∃ p : Post, p = postN n := ⟨_, rfl⟩
  have HP := Lib.hid (show p = ⟨true, ⟨a0, a1, a2, a3, a4, a5, a6, a7, a8, a9⟩⟩ by rw [hp, hn]; rfl)
  have HB := Lib.hid (And.intro (bR.whole (cs := p.vals) (by rfl)) (Below.setWhole hB (Nat.le_succ _) p.vals))
  rw [← hp]
  clear hw1 bA hB hp hn
  go_enter Tryz.func38, Tryz.ntmps38
  go_upto_region 1 with fail
  change Code.wp _ _ _ _ ((w.alloc (.cells n.vals.toArray 65)).alloc (.cells postZ.vals.toArray 42))
  rw [← HW1.out]
  go_wp2_with (first | (refine wpList_store_whole (by rfl) 42 _ _ (by rfl) (w.heap.size + 1) p.vals _ bR (by rfl) (by rfl) (by rw [HP.out]; rfl) (by kernel_rfl) (Post.one _) ?_) | fail)
  exact ret_cells (w.heap.size + 1) 0 p.vals Tryz.results38 Tryz.underlying42 rfl (by kernel_rfl) rfl HB.out.1.range rfl ⟨rfl, HB.out.2⟩
set_option maxRecDepth 20000 in
set_option maxHeartbeats 1600000 in
theorem refFile_any (u : Cred) (n : Nd) (want : Int) (w : World) (hw : want = 1 ∨ want = 2 ∨ want = 3 ∨ want = 4) : Calls Tryz.prog 86 #[.agg n.vals.toArray, .agg u.vals.toArray, .int .i64 want] w fun e w' => e = .returned (.int .i64 (fileSt n u want)) ∧ Below w.heap.size w w' := by
  obtain ⟨bA, bC, hB, hs⟩ := chain2_blks w n.vals u.vals 65 28
  obtain ⟨w1, hw1⟩ : ∃ V, V = (w.alloc (.cells n.vals.toArray 65)).alloc (.cells u.vals.toArray 28) := ⟨_, rfl⟩
  rw [← hw1] at bA bC hB hs
  have r0 : rowOf w1 w.heap.size 0 10 = some n.attr.vals.toArray := bA.row 0 10 (by rw [Nd.len]; omega)
  have r1 : rowOf w1 (w.heap.size + 1) 0 4 = some u.vals.toArray := bC.row 0 4 (by show _ ≤ 4; omega)
  have c0 : w1.cell? ⟨w.heap.size, 0, none⟩ = some (.int .i64 n.attr.type) := bA.cell 0
  have HW1 := Lib.hid hw1
  have K := Lib.hid (fun W => refMayB6_any n.attr u want W hw)
  have HF := Lib.hid (show fileSt n u want = if n.attr.type = 2 then 21 else if n.attr.type ≠ 1 then 22 else if mayB (bitsP n.attr u.uid u.gid) want then 0 else 13 from rfl)
  generalize mayB (bitsP n.attr u.uid u.gid) want = m at *
  generalize fileSt n u want = st at *
  generalize n.attr.type = ty at *
  clear hw1 bA bC hs hw
  by_cases h2 : ty = 2
  · have HQ := Lib.hid (HF.out.trans (if_pos h2))
    subst h2
    go_enter Tryz.func86, Tryz.ntmps86
    go_upto_region 1 with fail
    change Code.wp _ _ _ _ ((w.alloc (.cells n.vals.toArray 65)).alloc (.cells u.vals.toArray 28))
    rw [← HW1.out]
    go_wp2
    go_ret
    exact ⟨ret_int (by rw [HQ.out]), hB⟩
  have h2' : (ty == 2) = false := by simpa using h2
  by_cases h1 : ty = 1
  · have HQ := Lib.hid ((HF.out.trans (if_neg h2)).trans (if_neg (by simpa using h1)))
    subst h1
    go_enter Tryz.func86, Tryz.ntmps86
    go_upto_region 1 with fail
    change Code.wp _ _ _ _ ((w.alloc (.cells n.vals.toArray 65)).alloc (.cells u.vals.toArray 28))
    rw [← HW1.out]
    go_wp2_with fail
    refine (K.out _).mono ?_
    rintro e w2 ⟨rfl, hb⟩
    have HB := Lib.hid (below_then hB hb)
    clear hb hB
    cases m
    · go_wp2
      go_ret
      exact ⟨ret_int (by rw [HQ.out]; rfl), HB.out⟩
    · go_wp2
      go_ret
      exact ⟨ret_int (by rw [HQ.out]; rfl), HB.out⟩
  · have HQ := Lib.hid ((HF.out.trans (if_neg h2)).trans (if_pos h1))
    have h1' : (ty != 1) = true := by simpa using h1
    go_enter Tryz.func86, Tryz.ntmps86
    go_upto_region 1 with fail
    change Code.wp _ _ _ _ ((w.alloc (.cells n.vals.toArray 65)).alloc (.cells u.vals.toArray 28))
    rw [← HW1.out]
    go_wp2
    go_ret
    exact ⟨ret_int (by rw [HQ.out]), hB⟩
end Go.Proofs.YtgifmpobokaejaaGreatDoor
