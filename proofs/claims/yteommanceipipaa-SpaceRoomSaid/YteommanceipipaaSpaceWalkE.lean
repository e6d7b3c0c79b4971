/-
  Layer 21, walks: what is free, what a user may have more, why not. Conditions: at most 70 nodes, of at most 2000 bytes each; limits that may be.
-/
import Derived.Test.YteommanceipipaaSpaceWalkD
namespace Go.Proofs.Yteommanceipipaa
open Go.RowKit
attribute [local go_sem ↓] Go.wp_at_zero Go.wp_at_succ

theorem ldTree {ρ : Operand → Value} {w : World} {dst : Option Tmp} {ty : TypeId} {pos : String} {after : Array Edge} {g : Option (Nat × Bool)} {x : Operand} (h : (rowAt w 6 (ρ x)).isSome = true) :
    (execOp ρ ⟨dst, .load 26 x, ty, pos, after, g⟩).run Try.prog w = .ok (.value (.agg ((rowAt w 6 (ρ x)).getD #[]))) w := ex_load 26 6 Try.underlying26 rfl (by kernel_rfl) h
attribute [local go_sem ↓] ldTree
attribute [local go_sem] rowAt_ptr rowOf_drew rowOf_drewN rowOf_alloc_at rowOf_alloc_past Tr.len

set_option maxHeartbeats 800000 in
theorem free_any (t : Tr) (w : World) (hs : small t.ns) (ho : t.lim.ok = true) (hA : At w 15 t.na (t.ns.map Nd.vals)) :
    Calls Try.prog 20 #[t.val] w fun e w' => e = .returned (.int .i64 (free t)) ∧ Below w.heap.size w w' := by
  have hl := hs.1
  have hu : used t.ns ≤ 2000 * 70 := Nat.le_trans (used_le _ hs.2) (Nat.mul_le_mul (Nat.le_refl _) hl)
  have hlb := Lim.bounds ho
  have c0 := range_new w t.vals 26 0 _ rfl
  have c5 := range_new w t.vals 26 5 _ rfl
  have hz : w.heap.size < (w.alloc (.cells t.vals.toArray 26)).heap.size := by simp
  have hA1 := hA.alloc (.cells t.vals.toArray 26)
  have hB1 : Below w.heap.size w (w.alloc (.cells t.vals.toArray 26)) := (Below.refl _ _).alloc (Nat.le_refl _) _
  have hwr : IntKind.i64.wrap (t.lim.space - (used t.ns : Int)) = t.lim.space - (used t.ns : Int) := IntWalk.i64_in _ (by omega)
  have HO := Lib.hid ho
  clear ho
  have HS := Lib.hid hs
  clear hs
  unfold Tr.val
  go_enter Try.func20, Try.ntmps20
  go_wp2_with fail
  generalize w.alloc (.cells t.vals.toArray 26) = w1 at *
  go_region_held3 (fun W => Stb w1 W) (first | exact Stb.start | assumption | (exact Stb.call (by assumption) (by assumption))) (first | (go_at_call 11; refine (used_any _ _ t.ns _ HS.out (hA1.stb (by assumption))).mono ?_; rintro e w' ⟨rfl, hb⟩))
  go_wp2
  all_goals
    go_ret
    refine ⟨ret_int ?_, hB1.trans ((by assumption : Stb w1 _).below.mono hB1.size)⟩
    unfold free
    omega

theorem used_small {ns : List Nd} (hs : small ns) : used ns ≤ 2000 * 70 := Nat.le_trans (used_le _ hs.2) (Nat.mul_le_mul (Nat.le_refl _) hs.1)
theorem owned_small {ns : List Nd} (hs : small ns) (uid : Int) : owned ns uid ≤ 2000 * 70 := Nat.le_trans (used_filter_le _ _) (used_small hs)

set_option maxHeartbeats 1600000 in
theorem left_any (t : Tr) (uid : Int) (w : World) (hs : small t.ns) (ho : t.lim.ok = true) (hA : At w 15 t.na (t.ns.map Nd.vals)) :
    Calls Try.prog 21 #[t.val, .int .i64 uid] w fun e w' => e = .returned (.int .i64 (left t uid)) ∧ Below w.heap.size w w' := by
  have hu := owned_small hs uid
  have hlb := Lim.bounds ho
  have hcr := range_new w t.vals 26
  have hrow := rowOf_of hcr (Tr.len t) (by omega)
  have c1 := hcr 1 _ rfl
  have c5 := hcr 5 _ rfl
  have hz : w.heap.size < (w.alloc (.cells t.vals.toArray 26)).heap.size := by simp
  have hA1 := hA.alloc (.cells t.vals.toArray 26)
  have hB1 : Below w.heap.size w (w.alloc (.cells t.vals.toArray 26)) := (Below.refl _ _).alloc (Nat.le_refl _) _
  have hwr : IntKind.i64.wrap (t.lim.quota - (owned t.ns uid : Int)) = t.lim.quota - (owned t.ns uid : Int) := IntWalk.i64_in _ (by omega)
  have HO := Lib.hid ho
  clear ho
  have HS := Lib.hid hs
  clear hs
  by_cases h0 : (uid == 0) = true
  · have hL : Hid (left t uid = free t) := by show left t uid = free t; unfold left; rw [if_pos h0]
    go_enter Try.func21, Try.ntmps21
    unfold Tr.val
    go_wp2_with (refine wpList_load_mid (by rfl) 26 _ (by rfl) _ _ (by rfl) t.vals _ hcr Try.underlying26 (by rfl) (by kernel_rfl) ?_)
    refine (free_any t _ HS.out HO.out hA1).mono ?_
    rintro e w' ⟨rfl, hb⟩
    go_wp2
    go_ret
    exact ⟨ret_int hL.out.symm, below_new _ hb⟩
  · rw [Bool.not_eq_true] at h0
    have hL : Hid (left t uid = min (free t) (max 0 (t.lim.quota - owned t.ns uid))) := by show _ = _; unfold left; rw [if_neg (by simp [h0])]
    unfold Tr.val
    by_cases hq : (owned t.ns uid : Int) < t.lim.quota
    all_goals
      go_enter Try.func21, Try.ntmps21
      go_wp2_with fail
      generalize w.alloc (.cells t.vals.toArray 26) = w1 at *
      go_region_held3 (fun W => Stb w1 W) (first | exact Stb.start | assumption | (exact Stb.alloc (by assumption) _) | (exact Stb.call (by assumption) (by assumption))) (first | (go_at_call 13; refine (owned_any _ _ t.ns _ _ HS.out (hA1.stb (by assumption))).mono ?_; rintro e w' ⟨rfl, hb⟩) | (go_at_call 20; refine (free_any t _ HS.out HO.out (hA1.stb (by assumption))).mono ?_; rintro e w' ⟨rfl, hb⟩) | (go_at_call 27; refine (least_any _ _ _ _ _ (ints_new [_, _] _ _)).mono ?_; rintro e w' ⟨rfl, hb⟩))
      go_wp2
      go_ret
      refine ⟨ret_int ?_, hB1.trans ((by assumption : Stb w1 _).below.mono hB1.size)⟩
      rw [hL.out]
      congr 1
      omega
end Go.Proofs.Yteommanceipipaa
