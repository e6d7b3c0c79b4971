/-
  Layer 4, walks of the document's own: has, Check. Condition: a machine text.
-/
import Derived.Test.YtjjlkdmpnpejjaaDoorProg
import Derived.Test.YtjjlkdmpnpejjaaDoorLists
import Derived.Test.YtjjlkdmpnpejjaaDoorBytes
namespace Go.Proofs.YtjjlkdmpnpejjaaDoor
open Go.RowKit
attribute [local go_sem ↓] Go.wp_at_zero Go.wp_at_succ
attribute [local go_sem] rowAt_ptr rowOf_drew rowOf_drewN rowOf_alloc_past rowOf_new

theorem refHas4_any (l : List UInt8) (c : UInt8) (w : World) (hl : l.length ≤ 9223372036854775807) : Calls Tryd.prog 24 #[.string (bs l), .int .u8 c.toNat] w fun e w' => e = .returned (.bool (l.contains c)) ∧ w = w' := by
  have hsz := bs_size l
  go_enter Tryd.func24, Tryd.ntmps24
  go_wp2
  go_loopw [5] (fun iv wr => ∃ k : Nat, k ≤ l.length ∧ iv = .int .i64 k ∧ (∀ j (hj : j < l.length), j < k → l[j] ≠ c) ∧ wr = w) (fun iv _ => l.length - (intOf iv).toNat)
  case atStart => exact ⟨0, Nat.zero_le _, rfl, fun _ _ h => absurd h (Nat.not_lt_zero _), rfl⟩
  case round =>
    obtain ⟨k, hk, rfl, hno, rfl⟩ := hrel
    by_cases hlt : k < l.length
    · by_cases he : l[k] = c
      · have HC := Lib.hid (show l.contains c = true by rw [List.contains_iff_mem, ← he]; exact List.getElem_mem hlt)
        have hq : ((((bs l)[k]'(by rw [hsz]; exact hlt)).toNat : Int) == (c.toNat : Int)) = true := by rw [bs_get, he]; simp
        go_wp2
        go_ret
        rw [HC.out]
        exact ⟨rfl, rfl⟩
      · have hq : ((((bs l)[k]'(by rw [hsz]; exact hlt)).toNat : Int) == (c.toNat : Int)) = false := beq_false_of_ne fun h => he (UInt8.toNat_inj.1 (by rw [bs_get] at h; omega))
        have HN := Lib.hid (show ∀ j (hj : j < l.length), j < k + 1 → l[j] ≠ c from fun j hj h => by
          rcases Nat.lt_or_ge j k with h3 | h3
          · exact hno j hj h3
          · obtain rfl : j = k := by omega
            exact he)
        clear hno
        go_wp2
        go_roundw
        case rel => exact ⟨k + 1, by omega, by go_num, HN.out, trivial⟩
        case measure => simp [intOf]; omega
    · obtain rfl : k = l.length := by omega
      have HC := Lib.hid (show l.contains c = false by
        rw [← Bool.not_eq_true, List.contains_iff_mem]
        intro hm
        obtain ⟨j, hj, e⟩ := List.getElem_of_mem hm
        exact hno j hj hj e)
      clear hno
      go_wp2
      go_ret
      rw [HC.out]
      exact ⟨rfl, rfl⟩

/-- the status of a name -/
def nameSt (l : List UInt8) : Int := if (l == []) || (l.contains 0 || (l.contains 47 || ((l == [46]) || (l == [46, 46])))) then 22 else if 24 < l.length then 63 else 0
theorem refCheck4_any (l : List UInt8) (w : World) (hl : l.length ≤ 9223372036854775807) : Calls Tryd.prog 15 #[.string (bs l)] w fun e w' => e = .returned (.int .i64 (nameSt l)) ∧ w = w' := by
  have hsz := bs_size l
  have h0 := fun w => refHas4_any l 0 w hl
  have h47 := fun w => refHas4_any l 47 w hl
  obtain ⟨N, hN⟩ : ∃ N, N = nameSt l := ⟨_, rfl⟩
  rw [← hN]
  unfold nameSt at hN
  have HN := Lib.hid hN
  clear hN
  go_enter Tryd.func15, Tryd.ntmps15
  by_cases q1 : l = []
  · subst q1
    go_wp2
    go_ret
    exact ⟨ret_int HN.out.symm, rfl⟩
  have q1b : (l == []) = false := by simpa using q1
  go_wp2_with fail
  refine (h0 w).mono ?_
  rintro e w1 ⟨rfl, rfl⟩
  cases q2 : l.contains 0 with
  | true =>
    have HV := Lib.hid (show (22 : Int) = N by rw [HN.out]; simp only [q2]; simp)
    clear q2
    go_wp2
    go_ret
    exact ⟨ret_int HV.out, rfl⟩
  | false =>
  go_wp2_with fail
  refine (h47 w).mono ?_
  rintro e w1 ⟨rfl, rfl⟩
  cases q3 : l.contains 47 with
  | true =>
    have HV := Lib.hid (show (22 : Int) = N by rw [HN.out]; simp only [q3]; simp)
    clear q3
    go_wp2
    go_ret
    exact ⟨ret_int HV.out, rfl⟩
  | false =>
  by_cases q4 : l = [46]
  · have HV := Lib.hid (show (22 : Int) = N by rw [HN.out, q4]; decide)
    subst q4
    go_wp2
    go_ret
    exact ⟨ret_int HV.out, rfl⟩
  by_cases q5 : l = [46, 46]
  · have HV := Lib.hid (show (22 : Int) = N by rw [HN.out, q5]; decide)
    subst q5
    go_wp2
    go_ret
    exact ⟨ret_int HV.out, rfl⟩
  have q4c : (l == [46]) = false := beq_false_of_ne q4
  have q5c : (l == [46, 46]) = false := beq_false_of_ne q5
  by_cases q6 : 24 < (l.length : Int)
  · have HV := Lib.hid (show (63 : Int) = N by rw [HN.out, q1b, q2, q3, q4c, q5c, if_neg (by decide), if_pos (by omega)])
    clear q1 q4 q5 q1b q2 q3
    go_wp2
    go_ret
    exact ⟨ret_int HV.out, rfl⟩
  · have HV := Lib.hid (show (0 : Int) = N by rw [HN.out, q1b, q2, q3, q4c, q5c, if_neg (by decide), if_neg (by omega)])
    clear q1 q4 q5 q1b q2 q3
    go_wp2
    go_ret
    exact ⟨ret_int HV.out, rfl⟩
theorem nameSt_short {l : List UInt8} (h : nameSt l = 0) : l.length ≤ 24 := by
  unfold nameSt at h
  split at h
  · omega
  · split at h
    · omega
    · omega
end Go.Proofs.YtjjlkdmpnpejjaaDoor
