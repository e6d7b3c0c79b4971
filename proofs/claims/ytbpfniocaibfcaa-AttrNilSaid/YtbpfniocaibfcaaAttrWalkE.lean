/-
  Layer 5, walks: what becomes of attributes. No condition.
-/
import Derived.Test.YtbpfniocaibfcaaAttrWalkD
namespace Go.Proofs.Ytbpfniocaibfcaa
open Go.RowKit
attribute [local go_sem ↓] Go.wp_at_zero Go.wp_at_succ ldOpt ldSet

theorem ldAttr {ρ : Operand → Value} {w : World} {dst : Option Tmp} {ty : TypeId} {pos : String} {after : Array Edge} {g : Option (Nat × Bool)} {x : Operand} (h : (rowAt w 10 (ρ x)).isSome = true) :
    (execOp ρ ⟨dst, .load 40 x, ty, pos, after, g⟩).run Try.prog w = .ok (.value (.agg ((rowAt w 10 (ρ x)).getD #[]))) w := ex_load 40 10 Try.underlying40 rfl (by kernel_rfl) h
attribute [local go_sem ↓] ldAttr

attribute [local go_sem] rowAt_ptr rowOf_drew rowOf_drewN rowOf_alloc_past Opt.len Sett.len Attr.len

def Attr.upto (a : Attr) (s : Sett) : Nat → Attr
  | 0 => a
  | 1 => { a with mode := s.mode.over a.mode }
  | 2 => { a with mode := s.mode.over a.mode, uid := s.uid.over a.uid }
  | _ => { a with mode := s.mode.over a.mode, uid := s.uid.over a.uid, gid := s.gid.over a.gid }
def toOff : Nat → Nat
  | 0 => 1
  | 1 => 3
  | _ => 4
def toPtrs (g : Nat) : List Value := [.pointer (some ⟨g, 1, none⟩), .pointer (some ⟨g, 3, none⟩), .pointer (some ⟨g, 4, none⟩)]
theorem infoAttr : (Try.prog.info? 40).map (fun i => (i.zero, i.size)) = some (some (.agg #[.int .i64 0, .int .i64 0, .int .i64 0, .int .i64 0, .int .i64 0, .int .i64 0, .int .i64 0, .int .i64 0, .int .i64 0, .int .i64 0]), 10) := by kernel_rfl
theorem infoOpt : (Try.prog.info? 42).map (fun i => (i.zero, i.size)) = some (some (.agg #[.bool false, .int .i64 0]), 2) := by kernel_rfl

theorem upto_set {a : Attr} {s : Sett} {k : Nat} (hk : k < 3) (h : (s.opt k).is = true) : (a.upto s k).vals.set (toOff k) (.int .i64 (s.opt k).n) = (a.upto s (k + 1)).vals := by
  match k, hk with
  | 0, _ | 1, _ | 2, _ => simp only [Sett.opt] at h; simp [Attr.upto, toOff, Sett.opt, Opt.over, h, Attr.vals]
theorem upto_keep {a : Attr} {s : Sett} {k : Nat} (hk : k < 3) (h : (s.opt k).is = false) : a.upto s k = a.upto s (k + 1) := by
  match k, hk with
  | 0, _ | 1, _ | 2, _ => simp only [Sett.opt] at h; simp [Attr.upto, Opt.over, h]
def zeroAttr : List Value := [.int .i64 0, .int .i64 0, .int .i64 0, .int .i64 0, .int .i64 0, .int .i64 0, .int .i64 0, .int .i64 0, .int .i64 0, .int .i64 0]
def opts3 (s : Sett) : List Value := s.mode.vals ++ (s.uid.vals ++ s.gid.vals)
/-- the world ahead of the loop -/
def w4 (w : World) (a : Attr) (s : Sett) : World :=
  ((((w.alloc (.cells a.vals.toArray 40)).alloc (.cells s.vals.toArray 44)).alloc (.cells zeroAttr.toArray 40)).alloc (.cells (toPtrs w.heap.size).toArray 85)).alloc (.cells (opts3 s).toArray 42)
theorem w4_blks (w : World) (a : Attr) (s : Sett) : Blk (w4 w a s) w.heap.size 40 a.vals ∧ Blk (w4 w a s) (w.heap.size + 1) 44 s.vals ∧ Blk (w4 w a s) (w.heap.size + 1 + 1) 40 zeroAttr ∧
    Blk (w4 w a s) (w.heap.size + 1 + 1 + 1) 85 (toPtrs w.heap.size) ∧ Blk (w4 w a s) (w.heap.size + 1 + 1 + 1 + 1) 42 (opts3 s) ∧ Below w.heap.size w (w4 w a s) := by
  have b0 := Blk.new w 40 a.vals
  have B0 : Below w.heap.size w (w.alloc (.cells a.vals.toArray 40)) := (Below.refl _ _).alloc (Nat.le_refl _) _
  have e0 : (w.alloc (.cells a.vals.toArray 40)).heap.size = w.heap.size + 1 := by simp
  unfold w4
  generalize w.alloc (.cells a.vals.toArray 40) = w0 at *
  have b1 := Blk.new w0 44 s.vals
  have B1 := B0.alloc B0.size (.cells s.vals.toArray 44)
  have e1 : (w0.alloc (.cells s.vals.toArray 44)).heap.size = w.heap.size + 1 + 1 := by simp [e0]
  have a1 := b0.alloc (.cells s.vals.toArray 44)
  generalize w0.alloc (.cells s.vals.toArray 44) = w1 at *
  have b2 := Blk.new w1 40 zeroAttr
  have B2 := B1.alloc B1.size (.cells zeroAttr.toArray 40)
  have e2 : (w1.alloc (.cells zeroAttr.toArray 40)).heap.size = w.heap.size + 1 + 1 + 1 := by simp [e1]
  have a2 := a1.alloc (.cells zeroAttr.toArray 40)
  have c2 := b1.alloc (.cells zeroAttr.toArray 40)
  generalize w1.alloc (.cells zeroAttr.toArray 40) = w2 at *
  have b3 := Blk.new w2 85 (toPtrs w.heap.size)
  have B3 := B2.alloc B2.size (.cells (toPtrs w.heap.size).toArray 85)
  have e3 : (w2.alloc (.cells (toPtrs w.heap.size).toArray 85)).heap.size = w.heap.size + 1 + 1 + 1 + 1 := by simp [e2]
  have a3 := a2.alloc (.cells (toPtrs w.heap.size).toArray 85)
  have c3 := c2.alloc (.cells (toPtrs w.heap.size).toArray 85)
  have d3 := b2.alloc (.cells (toPtrs w.heap.size).toArray 85)
  generalize w2.alloc (.cells (toPtrs w.heap.size).toArray 85) = w3 at *
  have b4 := Blk.new w3 42 (opts3 s)
  rw [e3] at b4
  rw [e2] at b3
  rw [e1] at d3
  rw [e0] at c3
  exact ⟨a3.alloc _, c3.alloc _, d3.alloc _, b3.alloc _, b4, B3.alloc B3.size _⟩
theorem opts3_row {w : World} {g k : Nat} {s : Sett} (hB : Blk w g 42 (opts3 s)) (hk : k < 3) : rowOf w g (k * 2) 2 = some (s.opt k).vals.toArray := by
  match k, hk with
  | 0, _ | 1, _ | 2, _ => exact hB.row _ 2 (by simp [opts3, Opt.len])
theorem toPtr_at {w : World} {h g k : Nat} (hB : Blk w h 85 (toPtrs g)) (hk : k < 3) : w.cell? ⟨h, k, none⟩ = some (.pointer (some ⟨g, toOff k, none⟩)) := by
  rw [hB.cell]
  match k, hk with
  | 0, _ | 1, _ | 2, _ => rfl
theorem toOff_cell {w : World} {g k : Nat} {a : Attr} (hB : Blk w g 40 a.vals) : ∃ v, w.cell? ⟨g, toOff k, none⟩ = some (.int .i64 v) := by
  rw [hB.cell]
  match k with
  | 0 => exact ⟨_, rfl⟩
  | 1 => exact ⟨_, rfl⟩
  | _ + 2 => exact ⟨_, rfl⟩

set_option maxRecDepth 20000 in
set_option maxHeartbeats 3200000 in
theorem apply_any (a : Attr) (s : Sett) (now : Int) (w : World) :
    Calls Try.prog 16 #[.agg a.vals.toArray, .agg s.vals.toArray, .int .i64 now] w fun e w' => e = .returned (.agg (a.applied s now).vals.toArray) ∧ Below w.heap.size w w' := by
  have hb0 := Blk.new (w.alloc (.cells a.vals.toArray 40)) 44 s.vals
  rw [show (w.alloc (.cells a.vals.toArray 40)).heap.size = w.heap.size + 1 by simp] at hb0
  obtain ⟨-, r0, r1, r2, -⟩ := settRows hb0
  obtain ⟨A4, S4, R4, P4, O4, B4⟩ := w4_blks w a s
  go_enter Try.func16, Try.ntmps16
  go_wp2
  change Code.wp _ _ _ _ (w4 w a s)
  clear hb0 r0 r1 r2
  generalize w4 w a s = W4 at *
  go_loopw [22] (fun i wr => ∃ k : Nat, k ≤ 3 ∧ i = .int .i64 k ∧ Blk wr w.heap.size 40 (a.upto s k).vals ∧ Blk wr (w.heap.size + 1) 44 s.vals ∧ Blk wr (w.heap.size + 1 + 1) 40 zeroAttr ∧
    Blk wr (w.heap.size + 1 + 1 + 1) 85 (toPtrs w.heap.size) ∧ Blk wr (w.heap.size + 1 + 1 + 1 + 1) 42 (opts3 s) ∧ Below w.heap.size w wr) (fun i _ => 3 - (intOf i).toNat)
  case atStart => exact ⟨0, by omega, rfl, A4, S4, R4, P4, O4, B4⟩
  case round =>
    clear A4 S4 R4 P4 O4 B4
    obtain ⟨k, hk, rfl, A4, S4, R4, P4, O4, B4⟩ := hrel
    by_cases hlt : k < 3
    · have hr := opts3_row O4 hlt
      obtain ⟨o, ho⟩ : ∃ o, o = s.opt k := ⟨_, rfl⟩
      rw [← ho] at hr
      have n0 := range_new wr o.vals 42 0 _ rfl
      have n1 := range_new wr o.vals 42 1 _ rfl
      have A5 := A4.alloc (.cells o.vals.toArray 42)
      have S5 := S4.alloc (.cells o.vals.toArray 42)
      have R5 := R4.alloc (.cells o.vals.toArray 42)
      have P5 := P4.alloc (.cells o.vals.toArray 42)
      have O5 := O4.alloc (.cells o.vals.toArray 42)
      have B5 := B4.alloc B4.size (.cells o.vals.toArray 42)
      generalize h2 : o.is = b at n0
      cases b
      · have HK := Lib.hid (upto_keep (a := a) hlt (ho ▸ h2))
        clear A4 S4 R4 P4 O4 B4 ho
        go_wp2_with (first
          | (refine wpList_store_new (by rfl) 42 _ _ (by rfl) o.vals [.bool false, .int .i64 0] wr 42 rfl (by rfl) (by rfl) (by rfl) (by kernel_rfl) (Opt.one _) ?_)
          | fail)
        go_roundw
        case rel => exact ⟨k + 1, by omega, by go_num, by rw [← HK.out]; exact A5, S5, R5, P5, O5, B5⟩
        case measure => simp [intOf]; omega
      · have HK := Lib.hid (upto_set (a := a) hlt (ho ▸ h2))
        rw [← ho] at HK
        have hp := toPtr_at P5 hlt
        obtain ⟨v, hc⟩ := toOff_cell (k := k) A5
        have hf := A5.frozen (toOff k)
        clear A4 S4 R4 P4 O4 B4 ho
        go_wp2_with (first
          | (refine wpList_store_new (by rfl) 42 _ _ (by rfl) o.vals [.bool false, .int .i64 0] wr 42 rfl (by rfl) (by rfl) (by rfl) (by kernel_rfl) (Opt.one _) ?_)
          | fail)
        go_region
        go_wp2
        go_roundw
        case rel => exact ⟨k + 1, by omega, by go_num, by rw [← HK.out]; first | exact (A5.set_ _ _).drew | exact A5.drew.set_ _ _ | exact A5.set_ _ _, by first | exact (S5.far (by simp) _).drew | exact S5.drew.far (by simp) _ | exact S5.far (by simp) _, by first | exact (R5.far (by simp; omega) _).drew | exact R5.drew.far (by simp; omega) _ | exact R5.far (by simp; omega) _, by first | exact (P5.far (by simp; omega) _).drew | exact P5.drew.far (by simp; omega) _ | exact P5.far (by simp; omega) _, by first | exact (O5.far (by simp; omega) _).drew | exact O5.drew.far (by simp; omega) _ | exact O5.far (by simp; omega) _, by first | exact (B5.setCell (Nat.le_refl _) _).drew | exact B5.drew.setCell (Nat.le_refl _) _ | exact B5.setCell (Nat.le_refl _) _⟩
        case measure => simp [intOf]; omega
    · obtain rfl : k = 3 := by omega
      obtain ⟨r, -⟩ := settRows S4
      clear P4 O4
      go_wp2_with fail
      refine (empty_any s _).mono ?_
      rintro e w6 ⟨rfl, hb⟩
      have A6 := A4.stays hb
      have S6 := S4.stays hb
      have R6 := R4.stays hb
      have B6 := below_then B4 hb
      have c0 : w6.cell? ⟨w.heap.size + 1, 8, none⟩ = some (.bool s.time.is) := (S6.cell 8).trans rfl
      have c1 : w6.cell? ⟨w.heap.size + 1, 9, none⟩ = some (.int .i64 s.time.n) := (S6.cell 9).trans rfl
      have c2 : w6.cell? ⟨w.heap.size + 1, 6, none⟩ = some (.bool s.size.is) := (S6.cell 6).trans rfl
      have a8 : w6.cell? ⟨w.heap.size, 8, none⟩ = some (.int .i64 a.change) := (A6.cell 8).trans rfl
      have a9 : w6.cell? ⟨w.heap.size, 9, none⟩ = some (.int .i64 a.time) := (A6.cell 9).trans rfl
      have f8 := A6.frozen 8
      have f9 := A6.frozen 9
      clear hb A4 S4 R4 B4 r S6
      generalize he : s.empty = em
      generalize ht : s.time.is = ti at c0
      generalize hz : s.size.is = sz at c2
      obtain ⟨d, hd⟩ : ∃ d, d = a.applied s now := ⟨_, rfl⟩
      have HD := Lib.hid hd
      clear hd
      cases em
      · cases ti
        · cases sz
          · have A7 := (A6.set_ 8 (.int .i64 now))
            have R7 := (R6.far (p := ⟨w.heap.size, 8, none⟩) (by simp; omega) (.int .i64 now))
            have B7 := (B6.setCell (p := ⟨w.heap.size, 8, none⟩) (Nat.le_refl _) (.int .i64 now))
            rw [show ((a.upto s 3).vals.set 8 (.int .i64 now)) = d.vals by rw [HD.out]; simp [Attr.applied, Attr.upto, Attr.vals, he, ht, hz]] at A7
            have r7 := A7.row 0 10 (by simp [Attr.len])
            simp only [List.drop_zero] at r7
            rw [List.take_of_length_le (by simp [Attr.len])] at r7
            clear A6 R6 B6
            go_wp2_with (first | (refine wpList_store_whole (by rfl) 40 _ _ (by rfl) (w.heap.size + 1 + 1) d.vals zeroAttr R7 (by rfl) (by rfl) (by rfl) (by kernel_rfl) (Attr.one _) ?_) | fail)
            refine ret_cells (w.heap.size + 1 + 1) 0 d.vals Try.results16 Try.underlying40 rfl (by kernel_rfl) ?_ (R7.whole (by rfl)).range ?_ ?_
            · rfl
            · rfl
            · exact ⟨by rw [HD.out], Below.setCells (by omega) _ _ _ B7⟩
          · have A7 := ((A6.set_ 8 (.int .i64 now)).set_ 9 (.int .i64 now))
            have R7 := ((R6.far (p := ⟨w.heap.size, 8, none⟩) (by simp; omega) (.int .i64 now)).far (p := ⟨w.heap.size, 9, none⟩) (by simp; omega) (.int .i64 now))
            have B7 := ((B6.setCell (p := ⟨w.heap.size, 8, none⟩) (Nat.le_refl _) (.int .i64 now)).setCell (p := ⟨w.heap.size, 9, none⟩) (Nat.le_refl _) (.int .i64 now))
            rw [show (((a.upto s 3).vals.set 8 (.int .i64 now)).set 9 (.int .i64 now)) = d.vals by rw [HD.out]; simp [Attr.applied, Attr.upto, Attr.vals, he, ht, hz]] at A7
            have r7 := A7.row 0 10 (by simp [Attr.len])
            simp only [List.drop_zero] at r7
            rw [List.take_of_length_le (by simp [Attr.len])] at r7
            clear A6 R6 B6
            go_wp2_with (first | (refine wpList_store_whole (by rfl) 40 _ _ (by rfl) (w.heap.size + 1 + 1) d.vals zeroAttr R7 (by rfl) (by rfl) (by rfl) (by kernel_rfl) (Attr.one _) ?_) | fail)
            refine ret_cells (w.heap.size + 1 + 1) 0 d.vals Try.results16 Try.underlying40 rfl (by kernel_rfl) ?_ (R7.whole (by rfl)).range ?_ ?_
            · rfl
            · rfl
            · exact ⟨by rw [HD.out], Below.setCells (by omega) _ _ _ B7⟩
        · have A7 := ((A6.set_ 8 (.int .i64 now)).set_ 9 (.int .i64 s.time.n))
          have R7 := ((R6.far (p := ⟨w.heap.size, 8, none⟩) (by simp; omega) (.int .i64 now)).far (p := ⟨w.heap.size, 9, none⟩) (by simp; omega) (.int .i64 s.time.n))
          have B7 := ((B6.setCell (p := ⟨w.heap.size, 8, none⟩) (Nat.le_refl _) (.int .i64 now)).setCell (p := ⟨w.heap.size, 9, none⟩) (Nat.le_refl _) (.int .i64 s.time.n))
          rw [show (((a.upto s 3).vals.set 8 (.int .i64 now)).set 9 (.int .i64 s.time.n)) = d.vals by rw [HD.out]; simp [Attr.applied, Attr.upto, Attr.vals, he, ht]] at A7
          have r7 := A7.row 0 10 (by simp [Attr.len])
          simp only [List.drop_zero] at r7
          rw [List.take_of_length_le (by simp [Attr.len])] at r7
          clear A6 R6 B6
          go_wp2_with (first | (refine wpList_store_whole (by rfl) 40 _ _ (by rfl) (w.heap.size + 1 + 1) d.vals zeroAttr R7 (by rfl) (by rfl) (by rfl) (by kernel_rfl) (Attr.one _) ?_) | fail)
          refine ret_cells (w.heap.size + 1 + 1) 0 d.vals Try.results16 Try.underlying40 rfl (by kernel_rfl) ?_ (R7.whole (by rfl)).range ?_ ?_
          · rfl
          · rfl
          · exact ⟨by rw [HD.out], Below.setCells (by omega) _ _ _ B7⟩
      · cases ti
        · cases sz
          · have A7 := A6
            have R7 := R6
            have B7 := B6
            rw [show (a.upto s 3).vals = d.vals by rw [HD.out]; simp [Attr.applied, Attr.upto, Attr.vals, he, ht, hz]] at A7
            have r7 := A7.row 0 10 (by simp [Attr.len])
            simp only [List.drop_zero] at r7
            rw [List.take_of_length_le (by simp [Attr.len])] at r7
            clear A6 R6 B6
            go_wp2_with (first | (refine wpList_store_whole (by rfl) 40 _ _ (by rfl) (w.heap.size + 1 + 1) d.vals zeroAttr R7 (by rfl) (by rfl) (by rfl) (by kernel_rfl) (Attr.one _) ?_) | fail)
            refine ret_cells (w.heap.size + 1 + 1) 0 d.vals Try.results16 Try.underlying40 rfl (by kernel_rfl) ?_ (R7.whole (by rfl)).range ?_ ?_
            · rfl
            · rfl
            · exact ⟨by rw [HD.out], Below.setCells (by omega) _ _ _ B7⟩
          · have A7 := (A6.set_ 9 (.int .i64 now))
            have R7 := (R6.far (p := ⟨w.heap.size, 9, none⟩) (by simp; omega) (.int .i64 now))
            have B7 := (B6.setCell (p := ⟨w.heap.size, 9, none⟩) (Nat.le_refl _) (.int .i64 now))
            rw [show ((a.upto s 3).vals.set 9 (.int .i64 now)) = d.vals by rw [HD.out]; simp [Attr.applied, Attr.upto, Attr.vals, he, ht, hz]] at A7
            have r7 := A7.row 0 10 (by simp [Attr.len])
            simp only [List.drop_zero] at r7
            rw [List.take_of_length_le (by simp [Attr.len])] at r7
            clear A6 R6 B6
            go_wp2_with (first | (refine wpList_store_whole (by rfl) 40 _ _ (by rfl) (w.heap.size + 1 + 1) d.vals zeroAttr R7 (by rfl) (by rfl) (by rfl) (by kernel_rfl) (Attr.one _) ?_) | fail)
            refine ret_cells (w.heap.size + 1 + 1) 0 d.vals Try.results16 Try.underlying40 rfl (by kernel_rfl) ?_ (R7.whole (by rfl)).range ?_ ?_
            · rfl
            · rfl
            · exact ⟨by rw [HD.out], Below.setCells (by omega) _ _ _ B7⟩
        · have A7 := (A6.set_ 9 (.int .i64 s.time.n))
          have R7 := (R6.far (p := ⟨w.heap.size, 9, none⟩) (by simp; omega) (.int .i64 s.time.n))
          have B7 := (B6.setCell (p := ⟨w.heap.size, 9, none⟩) (Nat.le_refl _) (.int .i64 s.time.n))
          rw [show ((a.upto s 3).vals.set 9 (.int .i64 s.time.n)) = d.vals by rw [HD.out]; simp [Attr.applied, Attr.upto, Attr.vals, he, ht]] at A7
          have r7 := A7.row 0 10 (by simp [Attr.len])
          simp only [List.drop_zero] at r7
          rw [List.take_of_length_le (by simp [Attr.len])] at r7
          clear A6 R6 B6
          go_wp2_with (first | (refine wpList_store_whole (by rfl) 40 _ _ (by rfl) (w.heap.size + 1 + 1) d.vals zeroAttr R7 (by rfl) (by rfl) (by rfl) (by kernel_rfl) (Attr.one _) ?_) | fail)
          refine ret_cells (w.heap.size + 1 + 1) 0 d.vals Try.results16 Try.underlying40 rfl (by kernel_rfl) ?_ (R7.whole (by rfl)).range ?_ ?_
          · rfl
          · rfl
          · exact ⟨by rw [HD.out], Below.setCells (by omega) _ _ _ B7⟩
end Go.Proofs.Ytbpfniocaibfcaa
