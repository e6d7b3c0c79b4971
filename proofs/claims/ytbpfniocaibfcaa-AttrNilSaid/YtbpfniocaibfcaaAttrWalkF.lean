/-
  Layer 5, walks: what becomes of attributes, by the reference. No condition.
-/
import Derived.Test.YtbpfniocaibfcaaAttrWalkE
import Derived.Deep.Cut
namespace Go.Proofs.Ytbpfniocaibfcaa
open Go.RowKit
attribute [local go_sem ↓] Go.wp_at_zero Go.wp_at_succ ldOpt ldSet ldAttr

attribute [local go_sem] rowAt_ptr rowOf_drew rowOf_drewN rowOf_alloc_past Opt.len Sett.len Attr.len

theorem Blk.eq_ {w : World} {g : Nat} {T : TypeId} {cs cs' : List Value} (h : Blk w g T cs) (he : cs = cs') : Blk w g T cs' := he ▸ h
def w3 (w : World) (l : List Value) (s : Sett) : World :=
  ((w.alloc (.cells l.toArray 40)).alloc (.cells s.vals.toArray 44)).alloc (.cells zeroAttr.toArray 40)
/-- the three boxes: the attributes as they are now, what is to be set, the result's -/
structure ApSt (w wx : World) (a : Attr) (s : Sett) : Prop where
  A : Blk wx w.heap.size 40 a.vals
  S : Blk wx (w.heap.size + 1) 44 s.vals
  R : Blk wx (w.heap.size + 1 + 1) 40 zeroAttr
  B : Below w.heap.size w wx
theorem ApSt.start (w : World) (a : Attr) (s : Sett) : ApSt w (w3 w a.vals s) a s := by
  have b0 := Blk.new w 40 a.vals
  have B0 : Below w.heap.size w (w.alloc (.cells a.vals.toArray 40)) := (Below.refl _ _).alloc (Nat.le_refl _) _
  have e0 : (w.alloc (.cells a.vals.toArray 40)).heap.size = w.heap.size + 1 := by simp
  unfold w3
  generalize w.alloc (.cells a.vals.toArray 40) = w0 at *
  have b1 := Blk.new w0 44 s.vals
  have B1 := B0.alloc B0.size (.cells s.vals.toArray 44)
  have e1 : (w0.alloc (.cells s.vals.toArray 44)).heap.size = w.heap.size + 1 + 1 := by simp [e0]
  have a1 := b0.alloc (.cells s.vals.toArray 44)
  generalize w0.alloc (.cells s.vals.toArray 44) = w1 at *
  have b2 := Blk.new w1 40 zeroAttr
  have B2 := B1.alloc B1.size (.cells zeroAttr.toArray 40)
  rw [e1] at b2
  rw [e0] at b1
  exact ⟨a1.alloc _, b1.alloc _, b2, B2⟩
theorem ApSt.set_ {w wx : World} {a a' : Attr} {s : Sett} (h : ApSt w wx a s) (i : Nat) (v : Value) (he : a.vals.set i v = a'.vals) : ApSt w (wx.setCell ⟨w.heap.size, i, none⟩ v) a' s :=
  ⟨(h.A.set_ i v).eq_ he, h.S.far (by simp) v, h.R.far (by simp; omega) v, h.B.setCell (Nat.le_refl _) v⟩
theorem ApSt.eq_ {w wx : World} {a a' : Attr} {s : Sett} (h : ApSt w wx a s) (he : a = a') : ApSt w wx a' s := he ▸ h
theorem ApSt.below {w wx wy : World} {a : Attr} {s : Sett} (h : ApSt w wx a s) (hb : Below wx.heap.size wx wy) : ApSt w wy a s := ⟨h.A.stays hb, h.S.stays hb, h.R.stays hb, below_then h.B hb⟩
/-- as far as the step k -/
def Attr.done (a : Attr) (s : Sett) (now : Int) : Nat → Attr
  | 0 => a
  | 1 => { a with mode := s.mode.over a.mode }
  | 2 => { a with mode := s.mode.over a.mode, uid := s.uid.over a.uid }
  | 3 => { a with mode := s.mode.over a.mode, uid := s.uid.over a.uid, gid := s.gid.over a.gid }
  | 4 => { a with mode := s.mode.over a.mode, uid := s.uid.over a.uid, gid := s.gid.over a.gid, time := if s.size.is then now else a.time }
  | _ => { a with mode := s.mode.over a.mode, uid := s.uid.over a.uid, gid := s.gid.over a.gid, time := if s.time.is then s.time.n else if s.size.is then now else a.time }
theorem applied_of_done (a : Attr) (s : Sett) (now : Int) : a.applied s now = if s.empty then a.done s now 5 else { a.done s now 5 with change := now } := by
  cases h : s.empty <;> simp [Attr.applied, Attr.done, h]

theorem done_mode_yes (a : Attr) (s : Sett) (now : Int) (h : s.mode.is = true) : (a.done s now 0).vals.set 1 (.int .i64 s.mode.n) = (a.done s now 1).vals := by
  simp [Attr.done, Attr.vals, Opt.over, h]
theorem done_mode_no (a : Attr) (s : Sett) (now : Int) (h : s.mode.is = false) : a.done s now 0 = a.done s now 1 := by
  simp [Attr.done, Opt.over, h]
theorem done_uid_yes (a : Attr) (s : Sett) (now : Int) (h : s.uid.is = true) : (a.done s now 1).vals.set 3 (.int .i64 s.uid.n) = (a.done s now 2).vals := by
  simp [Attr.done, Attr.vals, Opt.over, h]
theorem done_uid_no (a : Attr) (s : Sett) (now : Int) (h : s.uid.is = false) : a.done s now 1 = a.done s now 2 := by
  simp [Attr.done, Opt.over, h]
theorem done_gid_yes (a : Attr) (s : Sett) (now : Int) (h : s.gid.is = true) : (a.done s now 2).vals.set 4 (.int .i64 s.gid.n) = (a.done s now 3).vals := by
  simp [Attr.done, Attr.vals, Opt.over, h]
theorem done_gid_no (a : Attr) (s : Sett) (now : Int) (h : s.gid.is = false) : a.done s now 2 = a.done s now 3 := by
  simp [Attr.done, Opt.over, h]
theorem done_size_yes (a : Attr) (s : Sett) (now : Int) (h : s.size.is = true) : (a.done s now 3).vals.set 9 (.int .i64 now) = (a.done s now 4).vals := by
  simp [Attr.done, Attr.vals, Opt.over, h]
theorem done_size_no (a : Attr) (s : Sett) (now : Int) (h : s.size.is = false) : a.done s now 3 = a.done s now 4 := by
  simp [Attr.done, Opt.over, h]
theorem done_time_yes (a : Attr) (s : Sett) (now : Int) (h : s.time.is = true) : (a.done s now 4).vals.set 9 (.int .i64 s.time.n) = (a.done s now 5).vals := by
  simp [Attr.done, Attr.vals, Opt.over, h]
theorem done_time_no (a : Attr) (s : Sett) (now : Int) (h : s.time.is = false) : a.done s now 4 = a.done s now 5 := by
  simp [Attr.done, Opt.over, h]

set_option maxRecDepth 20000 in
set_option maxHeartbeats 4000000 in
theorem refApply_any (a : Attr) (s : Sett) (now : Int) (w : World) :
    Calls Try.prog 17 #[.agg a.vals.toArray, .agg s.vals.toArray, .int .i64 now] w fun e w' => e = .returned (.agg (a.applied s now).vals.toArray) ∧ Below w.heap.size w w' := by
  have H := ApSt.start w a s
  have H0 : ApSt w (w3 w a.vals s) (a.done s now 0) s := H
  have c0 : (w3 w a.vals s).cell? ⟨w.heap.size + 1, 0, none⟩ = some (.bool s.mode.is) := (H.S.cell 0).trans rfl
  unfold w3 zeroAttr at c0
  go_enter Try.func17, Try.ntmps17
  go_upto_if 9 with (fail)
  change Code.wp _ _ _ _ (w3 w a.vals s)
  generalize w3 w a.vals s = wc at *
  clear H c0
  have v0 : wc.cell? ⟨w.heap.size + 1, 1, none⟩ = some (.int .i64 s.mode.n) := (H0.S.cell 1).trans rfl
  have o0 : ∃ v, wc.cell? ⟨w.heap.size, 1, none⟩ = some (.int .i64 v) := ⟨_, (H0.A.cell 1).trans rfl⟩
  obtain ⟨ov, o0⟩ := o0
  have f0 := H0.A.frozen 1
  generalize hm : s.mode.is = b0 at *
  go_cut [] from 7 (fun wx => ApSt w wx (a.done s now 1) s)
  case first =>
    cases b0
    · have H1 := Lib.hid (H0.eq_ (done_mode_no a s now hm))
      clear H0 hm
      go_wp2
      go_meet
      case rel => exact H1.out
    · have H1 := Lib.hid (H0.set_ 1 _ (done_mode_yes a s now hm))
      clear H0 hm
      go_wp2
      go_meet
      case rel => exact H1.out
  clear H0 v0 o0 f0 hm
  replace H0 := hcut
  clear hcut
  have c2 : wc.cell? ⟨w.heap.size + 1, 2, none⟩ = some (.bool s.uid.is) := (H0.S.cell 2).trans rfl
  go_upto_if 16 with (fail)
  clear c2
  have v1 : wc.cell? ⟨w.heap.size + 1, 3, none⟩ = some (.int .i64 s.uid.n) := (H0.S.cell 3).trans rfl
  have o1 : ∃ v, wc.cell? ⟨w.heap.size, 3, none⟩ = some (.int .i64 v) := ⟨_, (H0.A.cell 3).trans rfl⟩
  obtain ⟨ov, o1⟩ := o1
  have f1 := H0.A.frozen 3
  generalize hm : s.uid.is = b1 at *
  go_cut [] from 7 (fun wx => ApSt w wx (a.done s now 2) s)
  case first =>
    cases b1
    · have H1 := Lib.hid (H0.eq_ (done_uid_no a s now hm))
      clear H0 hm
      go_wp2
      go_meet
      case rel => exact H1.out
    · have H1 := Lib.hid (H0.set_ 3 _ (done_uid_yes a s now hm))
      clear H0 hm
      go_wp2
      go_meet
      case rel => exact H1.out
  clear H0 v1 o1 f1 hm
  replace H0 := hcut
  clear hcut
  have c4 : wc.cell? ⟨w.heap.size + 1, 4, none⟩ = some (.bool s.gid.is) := (H0.S.cell 4).trans rfl
  go_upto_if 23 with (fail)
  clear c4
  have v2 : wc.cell? ⟨w.heap.size + 1, 5, none⟩ = some (.int .i64 s.gid.n) := (H0.S.cell 5).trans rfl
  have o2 : ∃ v, wc.cell? ⟨w.heap.size, 4, none⟩ = some (.int .i64 v) := ⟨_, (H0.A.cell 4).trans rfl⟩
  obtain ⟨ov, o2⟩ := o2
  have f2 := H0.A.frozen 4
  generalize hm : s.gid.is = b2 at *
  go_cut [] from 7 (fun wx => ApSt w wx (a.done s now 3) s)
  case first =>
    cases b2
    · have H1 := Lib.hid (H0.eq_ (done_gid_no a s now hm))
      clear H0 hm
      go_wp2
      go_meet
      case rel => exact H1.out
    · have H1 := Lib.hid (H0.set_ 4 _ (done_gid_yes a s now hm))
      clear H0 hm
      go_wp2
      go_meet
      case rel => exact H1.out
  clear H0 v2 o2 f2 hm
  replace H0 := hcut
  clear hcut
  have c6 : wc.cell? ⟨w.heap.size + 1, 6, none⟩ = some (.bool s.size.is) := (H0.S.cell 6).trans rfl
  go_upto_if 30 with (fail)
  clear c6
  have o3 : ∃ v, wc.cell? ⟨w.heap.size, 9, none⟩ = some (.int .i64 v) := ⟨_, (H0.A.cell 9).trans rfl⟩
  obtain ⟨ov, o3⟩ := o3
  have f3 := H0.A.frozen 9
  generalize hm : s.size.is = b3 at *
  go_cut [] from 7 (fun wx => ApSt w wx (a.done s now 4) s)
  case first =>
    cases b3
    · have H1 := Lib.hid (H0.eq_ (done_size_no a s now hm))
      clear H0 hm
      go_wp2
      go_meet
      case rel => exact H1.out
    · have H1 := Lib.hid (H0.set_ 9 _ (done_size_yes a s now hm))
      clear H0 hm
      go_wp2
      go_meet
      case rel => exact H1.out
  clear H0  o3 f3 hm
  replace H0 := hcut
  clear hcut
  have c8 : wc.cell? ⟨w.heap.size + 1, 8, none⟩ = some (.bool s.time.is) := (H0.S.cell 8).trans rfl
  go_upto_if 35 with (fail)
  clear c8
  have v4 : wc.cell? ⟨w.heap.size + 1, 9, none⟩ = some (.int .i64 s.time.n) := (H0.S.cell 9).trans rfl
  have o4 : ∃ v, wc.cell? ⟨w.heap.size, 9, none⟩ = some (.int .i64 v) := ⟨_, (H0.A.cell 9).trans rfl⟩
  obtain ⟨ov, o4⟩ := o4
  have f4 := H0.A.frozen 9
  generalize hm : s.time.is = b4 at *
  go_cut [] from 7 (fun wx => ApSt w wx (a.done s now 5) s)
  case first =>
    cases b4
    · have H1 := Lib.hid (H0.eq_ (done_time_no a s now hm))
      clear H0 hm
      go_wp2
      go_meet
      case rel => exact H1.out
    · have H1 := Lib.hid (H0.set_ 9 _ (done_time_yes a s now hm))
      clear H0 hm
      go_wp2
      go_meet
      case rel => exact H1.out
  clear H0 v4 o4 f4 hm
  replace H0 := hcut
  clear hcut
  have hS := (settRows H0.S).1
  obtain ⟨d, hd⟩ : ∃ d, d = a.applied s now := ⟨_, rfl⟩
  have HD := Lib.hid (applied_of_done a s now)
  rw [← hd] at HD
  have HD2 := Lib.hid hd
  clear hd
  generalize a.done s now 5 = a5 at *
  go_wp2_with fail
  refine (refEmpty_any s _).mono ?_
  rintro e w6 ⟨rfl, hb⟩
  have H1 := H0.below hb
  clear H0 hS hb
  cases he : s.empty
  · have o8 : w6.cell? ⟨w.heap.size, 8, none⟩ = some (.int .i64 a5.change) := (H1.A.cell 8).trans rfl
    have f8 := H1.A.frozen 8
    have H2 := H1.set_ (a' := d) 8 (.int .i64 now) (by have := HD.out; rw [he] at this; rw [this]; rfl)
    have r7 : rowOf (w6.setCell ⟨w.heap.size, 8, none⟩ (.int .i64 now)) w.heap.size 0 10 = some d.vals.toArray := H2.A.row 0 10 (by simp [Attr.len])
    have HH := Lib.hid H2
    clear H1 H2 he
    go_wp2_with (first | (refine wpList_store_whole (by rfl) 40 _ _ (by rfl) (w.heap.size + 1 + 1) d.vals zeroAttr HH.out.R (by rfl) (by rfl) (by rfl) (by kernel_rfl) (Attr.one _) ?_) | fail)
    refine ret_cells (w.heap.size + 1 + 1) 0 d.vals Try.results17 Try.underlying40 rfl (by kernel_rfl) ?_ (HH.out.R.whole (by rfl)).range ?_ ?_
    · rfl
    · rfl
    · exact ⟨by rw [HD2.out], Below.setCells (by omega) _ _ _ HH.out.B⟩
  · have H2 := H1.eq_ (a' := d) (by have := HD.out; rw [he] at this; rw [this]; rfl)
    have r7 : rowOf w6 w.heap.size 0 10 = some d.vals.toArray := H2.A.row 0 10 (by simp [Attr.len])
    have HH := Lib.hid H2
    clear H1 H2 he
    go_wp2_with (first | (refine wpList_store_whole (by rfl) 40 _ _ (by rfl) (w.heap.size + 1 + 1) d.vals zeroAttr HH.out.R (by rfl) (by rfl) (by rfl) (by kernel_rfl) (Attr.one _) ?_) | fail)
    refine ret_cells (w.heap.size + 1 + 1) 0 d.vals Try.results17 Try.underlying40 rfl (by kernel_rfl) ?_ (HH.out.R.whole (by rfl)).range ?_ ?_
    · rfl
    · rfl
    · exact ⟨by rw [HD2.out], Below.setCells (by omega) _ _ _ HH.out.B⟩
end Go.Proofs.Ytbpfniocaibfcaa
