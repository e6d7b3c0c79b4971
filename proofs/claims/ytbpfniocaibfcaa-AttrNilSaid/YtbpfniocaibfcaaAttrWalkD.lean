/-
  Layer 5, walks: the bytes of what is to be set. No condition.
-/
import Derived.Test.YtbpfniocaibfcaaAttrWalkC
namespace Go.Proofs.Ytbpfniocaibfcaa
open Go.RowKit
attribute [local go_sem ↓] Go.wp_at_zero Go.wp_at_succ ldOpt ldSet

attribute [local go_sem] rowAt_ptr rowOf_drew rowOf_drewN

theorem add_bs (a b : List UInt8) (h : a.length + b.length ≤ 9223372036854775807) : Op.stringOp .add (bs a) (bs b) = pure (.string (bs (a ++ b))) := by
  have h2 : ¬ (((bs a).size + (bs b).size : Nat) : Int) > IntKind.i64.max := by
    rw [bs_size, bs_size]
    show ¬ (((a.length + b.length : Nat) : Int) > 9223372036854775807)
    omega
  simp only [Op.stringOp]
  rw [if_neg h2, bs_append]
attribute [local go_sem ↓] add_bs

set_option maxHeartbeats 3200000 in
theorem setBytes_any (s : Sett) (w : World) (hs : s.ok = true) (hg : s.good) :
    Calls Try.prog 25 #[.agg s.vals.toArray] w fun e w' => e = .returned (.string (bs s.bytes)) ∧ Below w.heap.size w w' := by
  have hb0 := Blk.new w 44 s.vals
  have hB0 : Below w.heap.size w (w.alloc (.cells s.vals.toArray 44)) := (Below.refl _ _).alloc (Nat.le_refl _) _
  have hz : w.heap.size < (w.alloc (.cells s.vals.toArray 44)).heap.size := by simp
  obtain ⟨-, r0, r1, r2, r3, r4⟩ := settRows hb0
  obtain ⟨p0, p1, p2, p3, p4⟩ := Sett.ok_pos hs
  obtain ⟨g0, g1, g2, g3, g4⟩ := hg
  have g0 : s.mode.n ≤ 9223372036854775807 := (Go.bounds_i64 g0).2
  have g1 : s.uid.n ≤ 9223372036854775807 := (Go.bounds_i64 g1).2
  have g2 : s.gid.n ≤ 9223372036854775807 := (Go.bounds_i64 g2).2
  have g3 : s.size.n ≤ 9223372036854775807 := (Go.bounds_i64 g3).2
  have g4 : s.time.n ≤ 9223372036854775807 := (Go.bounds_i64 g4).2
  have l0 := s.mode.bytes_len
  have l1 := s.uid.bytes_len
  have l2 := s.gid.bytes_len
  have l3 := s.size.bytes_len
  have l4 := s.time.bytes_len
  have f0 : s.mode.bytes.length + s.uid.bytes.length ≤ 9223372036854775807 := by omega
  have f1 : s.mode.bytes.length + s.uid.bytes.length + s.gid.bytes.length ≤ 9223372036854775807 := by omega
  have f2 : s.mode.bytes.length + s.uid.bytes.length + s.gid.bytes.length + s.size.bytes.length ≤ 9223372036854775807 := by omega
  have f3 : s.mode.bytes.length + s.uid.bytes.length + s.gid.bytes.length + s.size.bytes.length + s.time.bytes.length ≤ 9223372036854775807 := by omega
  have e1 : (s.mode.bytes ++ s.uid.bytes).length + s.gid.bytes.length ≤ 9223372036854775807 := by simp; omega
  have e2 : (s.mode.bytes ++ s.uid.bytes ++ s.gid.bytes).length + s.size.bytes.length ≤ 9223372036854775807 := by simp; omega
  have e3 : (s.mode.bytes ++ s.uid.bytes ++ s.gid.bytes ++ s.size.bytes).length + s.time.bytes.length ≤ 9223372036854775807 := by simp; omega
  have d2 : s.mode.bytes.length + (s.uid.bytes.length + s.gid.bytes.length) + s.size.bytes.length ≤ 9223372036854775807 := by omega
  have d3 : s.mode.bytes.length + (s.uid.bytes.length + (s.gid.bytes.length + s.size.bytes.length)) + s.time.bytes.length ≤ 9223372036854775807 := by omega
  clear hb0 l0 l1 l2 l3 l4
  go_enter Try.func25, Try.ntmps25
  go_wp2_with fail
  generalize w.alloc (.cells s.vals.toArray 44) = w1 at *
  go_region_held3 (fun W => Stb w1 W) (first | exact Stb.start | assumption | (exact Stb.alloc (by assumption) _) | (exact Stb.call (by assumption) (by assumption))) (first
    | (go_at_call 44; refine (refOptO_any _ _ (by assumption) (by assumption)).mono ?_; rintro e w2 ⟨rfl, hb⟩))
  have hs5 : Stb w1 w2 := by assumption
  go_wp2
  go_ret
  exact ⟨ret_string (by simp [Sett.bytes]), below_then hB0 hs5.below⟩
end Go.Proofs.Ytbpfniocaibfcaa
