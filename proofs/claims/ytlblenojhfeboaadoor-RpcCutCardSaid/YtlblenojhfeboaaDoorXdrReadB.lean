/-
  Layer 1, walks: a reader takes numbers, truths and options. Conditions: a reader at a block of its own; texts are machine texts.
-/
import Derived.Test.YtlblenojhfeboaaDoorXdrReadA
namespace Go.Proofs.YtlblenojhfeboaaDoor
open Go.RowKit
attribute [local go_sem ↓] Go.wp_at_zero Go.wp_at_succ
attribute [local go_sem] rowAt_ptr rowOf_drew rowOf_drewN rowOf_alloc_past rowOf_new

theorem callNumber1 (args : Array Value) (w : World) : (callFunc 72 args).run Tryd.prog w = .ok (.enter 72 args) w := by kernel_rfl
theorem rNum_err {k : Nat} {r : Rs} (h : r.e ≠ 0) : rNum k r = (0, r) := by simp [rNum, h]
theorem rNum_short {k : Nat} {s : List UInt8} (h : s.length < k) : rNum k ⟨s, 0⟩ = (0, Rs.fail 10) := by simp [rNum, h]
theorem rNum_ok {k : Nat} {s : List UInt8} (h : k ≤ s.length) : rNum k ⟨s, 0⟩ = (beVal (s.take k), ⟨s.drop k, 0⟩) := by
  have : ¬ s.length < k := by omega
  simp [rNum, this]

set_option maxHeartbeats 1600000 in
theorem rNumber_any (g k : Nat) (r : Rs) (w : World) (hR : Rd w g r) (hk : k ≤ 8) (hl : r.s.length ≤ 9223372036854775807) :
    Calls Tryd.prog 55 #[.pointer (some ⟨g, 0, none⟩), .int .i64 k] w (Gave g (rNum k r).2 (.int .u64 (rNum k r).1) w) := by
  have hb := Blk.new w 82 [.int .u64 0]
  have hB : Below w.heap.size w (w.alloc (.cells #[.int .u64 0] 82)) := (Below.refl _ _).alloc (Nat.le_refl _) _
  have hR1 := hR.stays hB
  have hne : w.heap.size ≠ g := Nat.ne_of_gt hR.lt
  clear hR
  by_cases he : r.e = 0
  · obtain ⟨s, e⟩ := r
    simp only at he hl
    subst he
    by_cases hs : s.length < k
    · have HN := Lib.hid (rNum_short hs)
      go_enter Tryd.func55, Tryd.ntmps55
      go_wp2_with fail
      generalize w.alloc (.cells #[.int .u64 0] 82) = w0 at *
      refine (take_short g s k _ _ hR1 hs).mono ?_
      rintro e w1 ⟨rfl, hQ⟩
      have hb1 := hQ.keeps hb hne
      have hc := hb1.cell
      have HQ := Lib.hid (Reads.behind hB hQ)
      clear hQ hb hb1
      go_wp2
      go_ret
      rw [HN.out]
      exact ⟨rfl, HQ.out⟩
    · have HN := Lib.hid (rNum_ok (k := k) (s := s) (by omega))
      have hlt : (s.take k).length ≤ 8 := by simp; omega
      go_enter Tryd.func55, Tryd.ntmps55
      go_wp2_with fail
      generalize w.alloc (.cells #[.int .u64 0] 82) = w0 at *
      refine (take_ok g s k 72 #[.pointer (some ⟨w.heap.size, 0, none⟩)] _ hR1 (by omega) hl callNumber1 (fun w1 hQ => rNumber1_any w.heap.size (s.take k) w1 (hQ.keeps hb hne) hlt)).mono ?_
      rintro e w2 ⟨w1, rfl, hQ, hb2, hT2⟩
      have hc := hb2.cell
      have HQ := Lib.hid (show Reads g ⟨s.drop k, 0⟩ w w2 from ⟨hQ.1.touch hT2 (fun h => hne h.symm), ((Touch.of_below hB _).then_ hQ.2).trans hT2 (fun i hi h => by omega)⟩)
      clear hQ hb hb2 hT2
      go_wp2
      go_ret
      rw [HN.out]
      exact ⟨rfl, HQ.out⟩
  · have HN := Lib.hid (rNum_err (k := k) he)
    have HE := Lib.hid he
    clear he
    go_enter Tryd.func55, Tryd.ntmps55
    go_wp2_with fail
    generalize w.alloc (.cells #[.int .u64 0] 82) = w0 at *
    refine (take_err g r k _ _ hR1 HE.out).mono ?_
    rintro e w1 ⟨rfl, rfl⟩
    have hc := hb.cell
    have HQ := Lib.hid (Reads.behind hB (Reads.refl hR1))
    clear hb
    go_wp2
    go_ret
    rw [HN.out]
    exact ⟨rfl, HQ.out⟩

theorem rNum_lt {k : Nat} {r : Rs} (_h : r.s.length ≤ 9223372036854775807) : (rNum k r).1 < 256 ^ k ∧ (rNum k r).2.s.length ≤ r.s.length := by
  unfold rNum
  split
  · exact ⟨Nat.pow_pos (by omega), Nat.le_refl _⟩
  · split
    · exact ⟨Nat.pow_pos (by omega), by simp [Rs.fail]⟩
    · have := beVal_lt (r.s.take k)
      rw [List.length_take, Nat.min_eq_left (by omega)] at this
      exact ⟨this, by simp⟩

set_option maxHeartbeats 800000 in
theorem rU32_any (g : Nat) (r : Rs) (w : World) (hR : Rd w g r) (hl : r.s.length ≤ 9223372036854775807) :
    Calls Tryd.prog 32 #[.pointer (some ⟨g, 0, none⟩)] w (Gave g (rU32 r).2 (.int .i64 (rU32 r).1) w) := by
  have hlt : (rNum 4 r).1 < 4294967296 := (rNum_lt (k := 4) hl).1
  have hcv : IntKind.i64.wrap ((rNum 4 r).1 : Int) = (rNum 4 r).1 := IntWalk.i64_in _ (by omega)
  go_enter Tryd.func32, Tryd.ntmps32
  go_wp2_with fail
  refine (rNumber_any g 4 r _ hR (by omega) hl).mono ?_
  rintro e w1 ⟨rfl, hQ⟩
  go_wp2
  go_ret
  exact ⟨rfl, hQ⟩

set_option maxHeartbeats 800000 in
theorem rU64_any (g : Nat) (r : Rs) (w : World) (hR : Rd w g r) (hl : r.s.length ≤ 9223372036854775807) :
    Calls Tryd.prog 33 #[.pointer (some ⟨g, 0, none⟩)] w (Gave g (rU64 r).2 (.int .i64 (rU64 r).1) w) := by
  have hlt : (rNum 8 r).1 < 18446744073709551616 := (rNum_lt (k := 8) hl).1
  by_cases hb : 9223372036854775808 ≤ (rNum 8 r).1
  · have HN := Lib.hid (show rU64 r = (0, Rs.fail 3) by simp [rU64, hb])
    have h1 : (((rNum 8 r).1 : Int) / 9223372036854775808 != 0) = true := by rw [bne_iff_ne]; omega
    go_enter Tryd.func33, Tryd.ntmps33
    go_wp2_with fail
    refine (rNumber_any g 8 r _ hR (by omega) hl).mono ?_
    rintro e w1 ⟨rfl, hQ⟩
    go_wp2_with fail
    refine (rFail_any g (rNum 8 r).2 3 _ hQ.1).mono ?_
    rintro e w2 ⟨rfl, hQ2⟩
    have HQ := Lib.hid (hQ.trans hQ2)
    clear hQ hQ2
    go_wp2
    go_ret
    rw [HN.out]
    exact ⟨rfl, HQ.out⟩
  · have HN := Lib.hid (show rU64 r = rNum 8 r by simp [rU64, hb])
    have h1 : (((rNum 8 r).1 : Int) / 9223372036854775808 != 0) = false := by rw [bne_eq_false_iff_eq]; omega
    have hcv : IntKind.i64.wrap ((rNum 8 r).1 : Int) = (rNum 8 r).1 := IntWalk.i64_in _ (by omega)
    go_enter Tryd.func33, Tryd.ntmps33
    go_wp2_with fail
    refine (rNumber_any g 8 r _ hR (by omega) hl).mono ?_
    rintro e w1 ⟨rfl, hQ⟩
    go_wp2
    go_ret
    rw [HN.out]
    exact ⟨rfl, hQ⟩

theorem rU32_len {r : Rs} (h : r.s.length ≤ 9223372036854775807) : (rU32 r).2.s.length ≤ r.s.length := (rNum_lt (k := 4) h).2
theorem rU64_len {r : Rs} (h : r.s.length ≤ 9223372036854775807) : (rU64 r).2.s.length ≤ r.s.length := by
  unfold rU64
  split
  · simp [Rs.fail]
  · exact (rNum_lt (k := 8) h).2
theorem rBool_len {r : Rs} (h : r.s.length ≤ 9223372036854775807) : (rBool r).2.s.length ≤ r.s.length := by
  unfold rBool
  split
  · simp [Rs.fail]
  · exact rU32_len h
theorem rOpt_len {r : Rs} (h : r.s.length ≤ 9223372036854775807) : (rOpt r).2.s.length ≤ r.s.length := by
  have h1 := rBool_len h
  have h2 := rU64_len (r := (rBool r).2) (by omega)
  unfold rOpt
  split
  · split <;> (simp only; omega)
  · exact h1

/-- an option that was read -/
def optV (o : Bool × Nat) : List Value := [.bool o.1, .int .i64 o.2]

theorem optV_one (o : Bool × Nat) : ∀ v ∈ optV o, v.oneCell' = true := by
  intro v hv
  simp only [optV, List.mem_cons, List.not_mem_nil, or_false] at hv
  rcases hv with rfl | rfl <;> rfl

end Go.Proofs.YtlblenojhfeboaaDoor
