/-
  Layer 8, walks: which statuses are known (written by wip/tools/genfields8.py). No condition.
-/
import Derived.Test.YtmkhpgpnahligaaProg
import Derived.Test.YtmkhpgpnahligaaCells
import Derived.Test.YtmkhpgpnahligaaXdrPure
import Derived.Deep.Light
namespace Go.Proofs.Ytmkhpgpnahligaa
open Go.RowKit
attribute [local go_sem ↓] Go.wp_at_zero Go.wp_at_succ
attribute [local go_sem] rowAt_ptr rowOf_drew rowOf_drewN rowOf_alloc_past rowOf_new

def statsP : List Int := [0, 1, 2, 13, 17, 20, 21, 22, 27, 28, 31, 63, 66, 69, 70, 10001, 10002, 10003, 10005, 10007]
/-- is a status known -/
def pKnown (s : Int) : Bool := statsP.contains s
def statsV (l : List Int) : List Value := l.map fun n => .int .i64 n
theorem pKnown_leaf {b : Bool} {s : Int} (h : b = pKnown s) : Ending.returned (.bool b) = .returned (.bool (pKnown s)) := by rw [h]

set_option maxHeartbeats 1600000 in
theorem replyKnown_any (s : Int) (w : World) : Calls Try.prog 15 #[.int .i64 s] w fun e w' => e = .returned (.bool (pKnown s)) ∧ Below w.heap.size w w' := by
  by_cases h : s ∈ statsP
  · have HV := Lib.hid (show pKnown s = true from List.contains_iff_mem.2 h)
    simp only [statsP, List.mem_cons, List.not_mem_nil, or_false] at h
    rcases h with rfl | rfl | rfl | rfl | rfl | rfl | rfl | rfl | rfl | rfl | rfl | rfl | rfl | rfl | rfl | rfl | rfl | rfl | rfl | rfl
    all_goals
      go_enter Try.func15, Try.ntmps15
      go_wp2
      go_ret
      rw [HV.out]
      exact ⟨rfl, Below.refl _ _⟩
  · have HV := Lib.hid (show pKnown s = false by rw [pKnown, ← Bool.not_eq_true, List.contains_iff_mem]; exact h)
    simp only [statsP, List.mem_cons, List.not_mem_nil, or_false, not_or] at h
    obtain ⟨n0, n1, n2, n3, n4, n5, n6, n7, n8, n9, n10, n11, n12, n13, n14, n15, n16, n17, n18, n19⟩ := h
    have b0 : (s == 0) = false := beq_false_of_ne n0
    have b1 : (s == 1) = false := beq_false_of_ne n1
    have b2 : (s == 2) = false := beq_false_of_ne n2
    have b3 : (s == 13) = false := beq_false_of_ne n3
    have b4 : (s == 17) = false := beq_false_of_ne n4
    have b5 : (s == 20) = false := beq_false_of_ne n5
    have b6 : (s == 21) = false := beq_false_of_ne n6
    have b7 : (s == 22) = false := beq_false_of_ne n7
    have b8 : (s == 27) = false := beq_false_of_ne n8
    have b9 : (s == 28) = false := beq_false_of_ne n9
    have b10 : (s == 31) = false := beq_false_of_ne n10
    have b11 : (s == 63) = false := beq_false_of_ne n11
    have b12 : (s == 66) = false := beq_false_of_ne n12
    have b13 : (s == 69) = false := beq_false_of_ne n13
    have b14 : (s == 70) = false := beq_false_of_ne n14
    have b15 : (s == 10001) = false := beq_false_of_ne n15
    have b16 : (s == 10002) = false := beq_false_of_ne n16
    have b17 : (s == 10003) = false := beq_false_of_ne n17
    have b18 : (s == 10005) = false := beq_false_of_ne n18
    have b19 : (s == 10007) = false := beq_false_of_ne n19
    clear n0 n1 n2 n3 n4 n5 n6 n7 n8 n9 n10 n11 n12 n13 n14 n15 n16 n17 n18 n19
    go_enter Try.func15, Try.ntmps15
    go_wp2
    go_ret
    rw [HV.out]
    exact ⟨rfl, Below.refl _ _⟩

set_option maxHeartbeats 1600000 in
theorem refKnown8_any (s : Int) (w : World) : Calls Try.prog 16 #[.int .i64 s] w fun e w' => e = .returned (.bool (pKnown s)) ∧ Below w.heap.size w w' := by
  have hA := Blk.new w 3 (statsV statsP)
  have hB : Below w.heap.size w (w.alloc (.cells (statsV statsP).toArray 3)) := (Below.refl _ _).alloc (Nat.le_refl _) _
  go_enter Try.func16, Try.ntmps16
  go_wp2
  change Code.wp _ _ _ _ (w.alloc (.cells (statsV statsP).toArray 3))
  generalize w.alloc (.cells (statsV statsP).toArray 3) = w1 at *
  have hcell : ∀ (k : Nat) (hk : k < statsP.length), w1.cell? ⟨w.heap.size, k, none⟩ = some (.int .i64 statsP[k]) := fun k hk => by
    rw [hA.cell k]
    simp [statsV, hk]
  have hll : statsP.length = 20 := rfl
  have HP := Lib.hid (show pKnown s = statsP.contains s from rfl)
  generalize statsP = L at *
  clear hA
  go_loopw [4] (fun iv wr => ∃ k : Nat, k ≤ 20 ∧ iv = .int .i64 k ∧ (∀ (j : Nat) (hj : j < L.length), j < k → L[j] ≠ s) ∧ wr = w1) (fun iv _ => 20 - (intOf iv).toNat)
  case atStart => exact ⟨0, by omega, rfl, fun _ _ h => absurd h (Nat.not_lt_zero _), rfl⟩
  case round =>
    obtain ⟨k, hk, rfl, hno, rfl⟩ := hrel
    by_cases hlt : k < 20
    · have hkl : k < L.length := by omega
      have hc := hcell k hkl
      by_cases he : L[k] = s
      · have HV := Lib.hid (show pKnown s = true by rw [HP.out, List.contains_iff_mem, ← he]; exact List.getElem_mem hkl)
        have hq : (L[k] == s) = true := by simpa using he
        clear hno hcell he
        generalize L[k] = x at *
        go_wp2
        go_ret
        rw [HV.out]
        exact ⟨rfl, hB⟩
      · have hq : (L[k] == s) = false := beq_false_of_ne he
        have HN := Lib.hid (show ∀ (j : Nat) (hj : j < L.length), j < k + 1 → L[j] ≠ s from fun j hj h => by
          rcases Nat.lt_or_ge j k with h3 | h3
          · exact hno j hj h3
          · obtain rfl : j = k := by omega
            exact he)
        clear hno hcell he
        generalize L[k] = x at *
        go_wp2
        go_roundw
        case rel => exact ⟨k + 1, by omega, by go_num, HN.out, trivial⟩
        case measure => simp [intOf]; omega
    · obtain rfl : k = 20 := by omega
      have HV := Lib.hid (show pKnown s = false by
        rw [HP.out, ← Bool.not_eq_true, List.contains_iff_mem]
        intro hm
        obtain ⟨j, hj, e⟩ := List.getElem_of_mem hm
        exact hno j hj (by omega) e)
      clear hno hcell
      go_wp2
      go_ret
      rw [HV.out]
      exact ⟨rfl, hB⟩
end Go.Proofs.Ytmkhpgpnahligaa
