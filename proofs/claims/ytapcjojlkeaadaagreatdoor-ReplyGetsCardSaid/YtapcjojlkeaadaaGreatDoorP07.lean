/-
  Layer 8, walks: which letters a procedure's results have (written by wip/tools/genfields8.py). No condition.
-/
import Derived.Test.YtapcjojlkeaadaaGreatDoorProg
import Derived.Test.YtapcjojlkeaadaaGreatDoorP03
import Derived.Test.YtapcjojlkeaadaaGreatDoorP02
import Derived.Deep.Light
import Derived.Test.YtapcjojlkeaadaaGreatDoorP04
import Derived.Test.YtapcjojlkeaadaaGreatDoorP01
namespace Go.Proofs.YtapcjojlkeaadaaGreatDoor
open Go.RowKit
attribute [local go_sem ↓] Go.wp_at_zero Go.wp_at_succ
attribute [local go_sem] rowAt_ptr rowOf_drew rowOf_drewN rowOf_alloc_past rowOf_new

def lettersP : List (List UInt8) := [[], [97], [119], [104, 97, 68], [97, 120], [97, 100], [97, 101, 100], [119, 99, 115, 118], [104, 97, 119], [104, 97, 119], [104, 97, 119], [104, 97, 119], [119], [119], [119, 87], [97, 87], [97, 118, 108, 101], [97, 118, 112, 101], [97, 110], [97, 110], [97, 110], [119, 118]]
def lettersQ : List (List UInt8) := [[], [], [119], [68], [97], [97], [97], [119], [119], [119], [119], [119], [119], [119], [119, 87], [97, 87], [97], [97], [97], [97], [97], [119]]
def lettersPQ (fine : Bool) : List (List UInt8) := if fine then lettersP else lettersQ
/-- the letters of a procedure's results -/
def pFields (p : Int) (fine : Bool) : List UInt8 := if p < 0 then [] else (lettersPQ fine).getD p.toNat []
theorem pFields_cases (p : Int) : p < 0 ∨ 22 ≤ p ∨ p = 0 ∨ p = 1 ∨ p = 2 ∨ p = 3 ∨ p = 4 ∨ p = 5 ∨ p = 6 ∨ p = 7 ∨ p = 8 ∨ p = 9 ∨ p = 10 ∨ p = 11 ∨ p = 12 ∨ p = 13 ∨ p = 14 ∨ p = 15 ∨ p = 16 ∨ p = 17 ∨ p = 18 ∨ p = 19 ∨ p = 20 ∨ p = 21 := by omega
theorem pFields_low {p : Int} {fine : Bool} (h : p < 0) : pFields p fine = [] := by simp [pFields, h]
theorem pFields_high {p : Int} {fine : Bool} (h : 22 ≤ p) : pFields p fine = [] := by
  have h1 : ¬ p < 0 := by omega
  have h2 : (lettersPQ fine).length ≤ p.toNat := by
    have : (lettersPQ fine).length = 22 := by cases fine <;> rfl
    omega
  simp [pFields, h1, List.getD, List.getElem?_eq_none h2]

set_option maxHeartbeats 1600000 in
theorem refused_any (p : Int) (w : World) : Calls Tryz.prog 33 #[.int .i64 p] w fun e w' => e = .returned (.string (bs (pFields p false))) ∧ Below w.heap.size w w' := by
  rcases pFields_cases p with hlo | hhi | rfl | rfl | rfl | rfl | rfl | rfl | rfl | rfl | rfl | rfl | rfl | rfl | rfl | rfl | rfl | rfl | rfl | rfl | rfl | rfl | rfl | rfl
  · rw [pFields_low hlo]
    go_enter Tryz.func33, Tryz.ntmps33
    go_wp2
    all_goals first
      | (go_ret; exact ⟨rfl, Below.refl _ _⟩)
      | (exfalso; omega)
  · rw [pFields_high hhi]
    have hlo : ¬ p < 0 := by omega
    go_enter Tryz.func33, Tryz.ntmps33
    go_wp2
    all_goals first
      | (go_ret; exact ⟨rfl, Below.refl _ _⟩)
      | (exfalso; omega)
  all_goals
    go_enter Tryz.func33, Tryz.ntmps33
    go_wp2
    go_ret
    exact ⟨rfl, Below.refl _ _⟩

set_option maxHeartbeats 1600000 in
theorem replyFieldsT_any (p : Int) (w : World) : Calls Tryz.prog 11 #[.int .i64 p, .bool true] w fun e w' => e = .returned (.string (bs (pFields p true))) ∧ Below w.heap.size w w' := by
  rcases pFields_cases p with hlo | hhi | rfl | rfl | rfl | rfl | rfl | rfl | rfl | rfl | rfl | rfl | rfl | rfl | rfl | rfl | rfl | rfl | rfl | rfl | rfl | rfl | rfl | rfl
  · rw [pFields_low hlo]
    go_enter Tryz.func11, Tryz.ntmps11
    go_wp2
    all_goals first
      | (go_ret; exact ⟨rfl, Below.refl _ _⟩)
      | (exfalso; omega)
  · rw [pFields_high hhi]
    go_enter Tryz.func11, Tryz.ntmps11
    go_wp2
    all_goals first
      | (go_ret; exact ⟨rfl, Below.refl _ _⟩)
      | (exfalso; omega)
  all_goals
    go_enter Tryz.func11, Tryz.ntmps11
    go_wp2
    go_ret
    exact ⟨rfl, Below.refl _ _⟩

theorem replyFields_any (p : Int) (fine : Bool) (w : World) : Calls Tryz.prog 11 #[.int .i64 p, .bool fine] w fun e w' => e = .returned (.string (bs (pFields p fine))) ∧ Below w.heap.size w w' := by
  cases fine
  · have hr := refused_any p w
    generalize pFields p false = l at *
    go_enter Tryz.func11, Tryz.ntmps11
    go_wp2_with fail
    refine hr.mono ?_
    rintro e w1 ⟨rfl, hb1⟩
    go_wp2
    go_ret
    exact ⟨rfl, hb1⟩
  · exact replyFieldsT_any p w
end Go.Proofs.YtapcjojlkeaadaaGreatDoor

/-
  Layer 8, walks: which statuses are known (written by wip/tools/genfields8.py). No condition.
-/
namespace Go.Proofs.YtapcjojlkeaadaaGreatDoor
open Go.RowKit
attribute [local go_sem ↓] Go.wp_at_zero Go.wp_at_succ
attribute [local go_sem] rowAt_ptr rowOf_drew rowOf_drewN rowOf_alloc_past rowOf_new

def statsP : List Int := [0, 1, 2, 13, 17, 20, 21, 22, 27, 28, 31, 63, 66, 69, 70, 10001, 10002, 10003, 10005, 10007]
/-- is a status known -/
def pKnown (s : Int) : Bool := statsP.contains s
def statsV (l : List Int) : List Value := l.map fun n => .int .i64 n
theorem pKnown_leaf {b : Bool} {s : Int} (h : b = pKnown s) : Ending.returned (.bool b) = .returned (.bool (pKnown s)) := by rw [h]

set_option maxHeartbeats 1600000 in
theorem replyKnown_any (s : Int) (w : World) : Calls Tryz.prog 16 #[.int .i64 s] w fun e w' => e = .returned (.bool (pKnown s)) ∧ Below w.heap.size w w' := by
  by_cases h : s ∈ statsP
  · have HV := Lib.hid (show pKnown s = true from List.contains_iff_mem.2 h)
    simp only [statsP, List.mem_cons, List.not_mem_nil, or_false] at h
    rcases h with rfl | rfl | rfl | rfl | rfl | rfl | rfl | rfl | rfl | rfl | rfl | rfl | rfl | rfl | rfl | rfl | rfl | rfl | rfl | rfl
    all_goals
      go_enter Tryz.func16, Tryz.ntmps16
      go_wp2
      go_ret
      rw [HV.out]
      exact ⟨rfl, Below.refl _ _⟩
  · have HV := Lib.hid (show pKnown s = false by rw [pKnown, ← Bool.not_eq_true, List.contains_iff_mem]; exact h)
    simp only [statsP, List.mem_cons, List.not_mem_nil, or_false, not_or] at h
    obtain ⟨n0, n1, n2, n3, n4, n5, n6, n7, n8, n9, n10, n11, n12, n13, n14, n15, n16, n17, n18, n19⟩ := h
    have b0 : (s == 0) = false := beq_false_of_ne n0
    have b1 : (s == 1) = false := beq_false_of_ne n1
    have b2 : (s == 2) = false := beq_false_of_ne n2
    have b3 : (s == 13) = false := beq_false_of_ne n3
    have b4 : (s == 17) = false := beq_false_of_ne n4
    have b5 : (s == 20) = false := beq_false_of_ne n5
    have b6 : (s == 21) = false := beq_false_of_ne n6
    have b7 : (s == 22) = false := beq_false_of_ne n7
    have b8 : (s == 27) = false := beq_false_of_ne n8
    have b9 : (s == 28) = false := beq_false_of_ne n9
    have b10 : (s == 31) = false := beq_false_of_ne n10
    have b11 : (s == 63) = false := beq_false_of_ne n11
    have b12 : (s == 66) = false := beq_false_of_ne n12
    have b13 : (s == 69) = false := beq_false_of_ne n13
    have b14 : (s == 70) = false := beq_false_of_ne n14
    have b15 : (s == 10001) = false := beq_false_of_ne n15
    have b16 : (s == 10002) = false := beq_false_of_ne n16
    have b17 : (s == 10003) = false := beq_false_of_ne n17
    have b18 : (s == 10005) = false := beq_false_of_ne n18
    have b19 : (s == 10007) = false := beq_false_of_ne n19
    clear n0 n1 n2 n3 n4 n5 n6 n7 n8 n9 n10 n11 n12 n13 n14 n15 n16 n17 n18 n19
    go_enter Tryz.func16, Tryz.ntmps16
    go_wp2
    go_ret
    rw [HV.out]
    exact ⟨rfl, Below.refl _ _⟩

set_option maxHeartbeats 1600000 in
theorem refKnown8_any (s : Int) (w : World) : Calls Tryz.prog 20 #[.int .i64 s] w fun e w' => e = .returned (.bool (pKnown s)) ∧ Below w.heap.size w w' := by
  have hA := Blk.new w 3 (statsV statsP)
  have hB : Below w.heap.size w (w.alloc (.cells (statsV statsP).toArray 3)) := (Below.refl _ _).alloc (Nat.le_refl _) _
  go_enter Tryz.func20, Tryz.ntmps20
  go_wp2
  change Code.wp _ _ _ _ (w.alloc (.cells (statsV statsP).toArray 3))
  generalize w.alloc (.cells (statsV statsP).toArray 3) = w1 at *
  have hcell : ∀ (k : Nat) (hk : k < statsP.length), w1.cell? ⟨w.heap.size, k, none⟩ = some (.int .i64 statsP[k]) := fun k hk => by
    rw [hA.cell k]
    simp [statsV, hk]
  have hll : statsP.length = 20 := rfl
  have HP := Lib.hid (show pKnown s = statsP.contains s from rfl)
  generalize statsP = L at *
  clear hA
  go_loopw [4] (fun iv wr => ∃ k : Nat, k ≤ 20 ∧ iv = .int .i64 k ∧ (∀ (j : Nat) (hj : j < L.length), j < k → L[j] ≠ s) ∧ wr = w1) (fun iv _ => 20 - (intOf iv).toNat)
  case atStart => exact ⟨0, by omega, rfl, fun _ _ h => absurd h (Nat.not_lt_zero _), rfl⟩
  case round =>
    obtain ⟨k, hk, rfl, hno, rfl⟩ := hrel
    by_cases hlt : k < 20
    · have hkl : k < L.length := by omega
      have hc := hcell k hkl
      by_cases he : L[k] = s
      · have HV := Lib.hid (show pKnown s = true by rw [HP.out, List.contains_iff_mem, ← he]; exact List.getElem_mem hkl)
        have hq : (L[k] == s) = true := by simpa using he
        clear hno hcell he
        generalize L[k] = x at *
        go_wp2
        go_ret
        rw [HV.out]
        exact ⟨rfl, hB⟩
      · have hq : (L[k] == s) = false := beq_false_of_ne he
        have HN := Lib.hid (show ∀ (j : Nat) (hj : j < L.length), j < k + 1 → L[j] ≠ s from fun j hj h => by
          rcases Nat.lt_or_ge j k with h3 | h3
          · exact hno j hj h3
          · obtain rfl : j = k := by omega
            exact he)
        clear hno hcell he
        generalize L[k] = x at *
        go_wp2
        go_roundw
        case rel => exact ⟨k + 1, by omega, by go_num, HN.out, trivial⟩
        case measure => simp [intOf]; omega
    · obtain rfl : k = 20 := by omega
      have HV := Lib.hid (show pKnown s = false by
        rw [HP.out, ← Bool.not_eq_true, List.contains_iff_mem]
        intro hm
        obtain ⟨j, hj, e⟩ := List.getElem_of_mem hm
        exact hno j hj (by omega) e)
      clear hno hcell
      go_wp2
      go_ret
      rw [HV.out]
      exact ⟨rfl, hB⟩
end Go.Proofs.YtapcjojlkeaadaaGreatDoor


/-
  Layer 1, walks: a reader takes numbers, truths and options. Conditions: a reader at a block of its own; texts are machine texts.
-/
namespace Go.Proofs.YtapcjojlkeaadaaGreatDoor
open Go.RowKit
attribute [local go_sem ↓] Go.wp_at_zero Go.wp_at_succ
attribute [local go_sem] rowAt_ptr rowOf_drew rowOf_drewN rowOf_alloc_past rowOf_new

theorem callNumber1 (args : Array Value) (w : World) : (callFunc 66 args).run Tryz.prog w = .ok (.enter 66 args) w := by kernel_rfl
theorem rNum_err {k : Nat} {r : Rs} (h : r.e ≠ 0) : rNum k r = (0, r) := by simp [rNum, h]
theorem rNum_short {k : Nat} {s : List UInt8} (h : s.length < k) : rNum k ⟨s, 0⟩ = (0, Rs.fail 10) := by simp [rNum, h]
theorem rNum_ok {k : Nat} {s : List UInt8} (h : k ≤ s.length) : rNum k ⟨s, 0⟩ = (beVal (s.take k), ⟨s.drop k, 0⟩) := by
  have : ¬ s.length < k := by omega
  simp [rNum, this]

set_option maxHeartbeats 1600000 in
theorem rNumber_any (g k : Nat) (r : Rs) (w : World) (hR : Rd w g r) (hk : k ≤ 8) (hl : r.s.length ≤ 9223372036854775807) :
    Calls Tryz.prog 34 #[.pointer (some ⟨g, 0, none⟩), .int .i64 k] w (Gave g (rNum k r).2 (.int .u64 (rNum k r).1) w) := by
  have hb := Blk.new w 78 [.int .u64 0]
  have hB : Below w.heap.size w (w.alloc (.cells #[.int .u64 0] 78)) := (Below.refl _ _).alloc (Nat.le_refl _) _
  have hR1 := hR.stays hB
  have hne : w.heap.size ≠ g := Nat.ne_of_gt hR.lt
  clear hR
  by_cases he : r.e = 0
  · obtain ⟨s, e⟩ := r
    simp only at he hl
    subst he
    by_cases hs : s.length < k
    · have HN := Lib.hid (rNum_short hs)
      go_enter Tryz.func34, Tryz.ntmps34
      go_wp2_with fail
      generalize w.alloc (.cells #[.int .u64 0] 78) = w0 at *
      refine (take_short g s k _ _ hR1 hs).mono ?_
      rintro e w1 ⟨rfl, hQ⟩
      have hb1 := hQ.keeps hb hne
      have hc := hb1.cell
      have HQ := Lib.hid (Reads.behind hB hQ)
      clear hQ hb hb1
      go_wp2
      go_ret
      rw [HN.out]
      exact ⟨rfl, HQ.out⟩
    · have HN := Lib.hid (rNum_ok (k := k) (s := s) (by omega))
      have hlt : (s.take k).length ≤ 8 := by simp; omega
      go_enter Tryz.func34, Tryz.ntmps34
      go_wp2_with fail
      generalize w.alloc (.cells #[.int .u64 0] 78) = w0 at *
      refine (take_ok g s k 66 #[.pointer (some ⟨w.heap.size, 0, none⟩)] _ hR1 (by omega) hl callNumber1 (fun w1 hQ => rNumber1_any w.heap.size (s.take k) w1 (hQ.keeps hb hne) hlt)).mono ?_
      rintro e w2 ⟨w1, rfl, hQ, hb2, hT2⟩
      have hc := hb2.cell
      have HQ := Lib.hid (show Reads g ⟨s.drop k, 0⟩ w w2 from ⟨hQ.1.touch hT2 (fun h => hne h.symm), ((Touch.of_below hB _).then_ hQ.2).trans hT2 (fun i hi h => by omega)⟩)
      clear hQ hb hb2 hT2
      go_wp2
      go_ret
      rw [HN.out]
      exact ⟨rfl, HQ.out⟩
  · have HN := Lib.hid (rNum_err (k := k) he)
    have HE := Lib.hid he
    clear he
    go_enter Tryz.func34, Tryz.ntmps34
    go_wp2_with fail
    generalize w.alloc (.cells #[.int .u64 0] 78) = w0 at *
    refine (take_err g r k _ _ hR1 HE.out).mono ?_
    rintro e w1 ⟨rfl, rfl⟩
    have hc := hb.cell
    have HQ := Lib.hid (Reads.behind hB (Reads.refl hR1))
    clear hb
    go_wp2
    go_ret
    rw [HN.out]
    exact ⟨rfl, HQ.out⟩

theorem rNum_lt {k : Nat} {r : Rs} (_h : r.s.length ≤ 9223372036854775807) : (rNum k r).1 < 256 ^ k ∧ (rNum k r).2.s.length ≤ r.s.length := by
  unfold rNum
  split
  · exact ⟨Nat.pow_pos (by omega), Nat.le_refl _⟩
  · split
    · exact ⟨Nat.pow_pos (by omega), by simp [Rs.fail]⟩
    · have := beVal_lt (r.s.take k)
      rw [List.length_take, Nat.min_eq_left (by omega)] at this
      exact ⟨this, by simp⟩

set_option maxHeartbeats 800000 in
theorem rU32_any (g : Nat) (r : Rs) (w : World) (hR : Rd w g r) (hl : r.s.length ≤ 9223372036854775807) :
    Calls Tryz.prog 14 #[.pointer (some ⟨g, 0, none⟩)] w (Gave g (rU32 r).2 (.int .i64 (rU32 r).1) w) := by
  have hlt : (rNum 4 r).1 < 4294967296 := (rNum_lt (k := 4) hl).1
  have hcv : IntKind.i64.wrap ((rNum 4 r).1 : Int) = (rNum 4 r).1 := IntWalk.i64_in _ (by omega)
  go_enter Tryz.func14, Tryz.ntmps14
  go_wp2_with fail
  refine (rNumber_any g 4 r _ hR (by omega) hl).mono ?_
  rintro e w1 ⟨rfl, hQ⟩
  go_wp2
  go_ret
  exact ⟨rfl, hQ⟩

set_option maxHeartbeats 800000 in
theorem rU64_any (g : Nat) (r : Rs) (w : World) (hR : Rd w g r) (hl : r.s.length ≤ 9223372036854775807) :
    Calls Tryz.prog 38 #[.pointer (some ⟨g, 0, none⟩)] w (Gave g (rU64 r).2 (.int .i64 (rU64 r).1) w) := by
  have hlt : (rNum 8 r).1 < 18446744073709551616 := (rNum_lt (k := 8) hl).1
  by_cases hb : 9223372036854775808 ≤ (rNum 8 r).1
  · have HN := Lib.hid (show rU64 r = (0, Rs.fail 3) by simp [rU64, hb])
    have h1 : (((rNum 8 r).1 : Int) / 9223372036854775808 != 0) = true := by rw [bne_iff_ne]; omega
    go_enter Tryz.func38, Tryz.ntmps38
    go_wp2_with fail
    refine (rNumber_any g 8 r _ hR (by omega) hl).mono ?_
    rintro e w1 ⟨rfl, hQ⟩
    go_wp2_with fail
    refine (rFail_any g (rNum 8 r).2 3 _ hQ.1).mono ?_
    rintro e w2 ⟨rfl, hQ2⟩
    have HQ := Lib.hid (hQ.trans hQ2)
    clear hQ hQ2
    go_wp2
    go_ret
    rw [HN.out]
    exact ⟨rfl, HQ.out⟩
  · have HN := Lib.hid (show rU64 r = rNum 8 r by simp [rU64, hb])
    have h1 : (((rNum 8 r).1 : Int) / 9223372036854775808 != 0) = false := by rw [bne_eq_false_iff_eq]; omega
    have hcv : IntKind.i64.wrap ((rNum 8 r).1 : Int) = (rNum 8 r).1 := IntWalk.i64_in _ (by omega)
    go_enter Tryz.func38, Tryz.ntmps38
    go_wp2_with fail
    refine (rNumber_any g 8 r _ hR (by omega) hl).mono ?_
    rintro e w1 ⟨rfl, hQ⟩
    go_wp2
    go_ret
    rw [HN.out]
    exact ⟨rfl, hQ⟩

theorem rU32_len {r : Rs} (h : r.s.length ≤ 9223372036854775807) : (rU32 r).2.s.length ≤ r.s.length := (rNum_lt (k := 4) h).2
theorem rU64_len {r : Rs} (h : r.s.length ≤ 9223372036854775807) : (rU64 r).2.s.length ≤ r.s.length := by
  unfold rU64
  split
  · simp [Rs.fail]
  · exact (rNum_lt (k := 8) h).2
theorem rBool_len {r : Rs} (h : r.s.length ≤ 9223372036854775807) : (rBool r).2.s.length ≤ r.s.length := by
  unfold rBool
  split
  · simp [Rs.fail]
  · exact rU32_len h
theorem rOpt_len {r : Rs} (h : r.s.length ≤ 9223372036854775807) : (rOpt r).2.s.length ≤ r.s.length := by
  have h1 := rBool_len h
  have h2 := rU64_len (r := (rBool r).2) (by omega)
  unfold rOpt
  split
  · split <;> (simp only; omega)
  · exact h1

set_option maxHeartbeats 800000 in
theorem rBool_any (g : Nat) (r : Rs) (w : World) (hR : Rd w g r) (hl : r.s.length ≤ 9223372036854775807) :
    Calls Tryz.prog 39 #[.pointer (some ⟨g, 0, none⟩)] w (Gave g (rBool r).2 (.bool (rBool r).1) w) := by
  by_cases hb : 1 < (rU32 r).1
  · have HN := Lib.hid (show rBool r = (false, Rs.fail 13) by simp [rBool, hb])
    go_enter Tryz.func39, Tryz.ntmps39
    go_wp2_with fail
    refine (rU32_any g r _ hR hl).mono ?_
    rintro e w1 ⟨rfl, hQ⟩
    go_wp2_with fail
    refine (rFail_any g (rU32 r).2 13 _ hQ.1).mono ?_
    rintro e w2 ⟨rfl, hQ2⟩
    have HQ := Lib.hid (hQ.trans hQ2)
    clear hQ hQ2
    go_wp2
    go_ret
    rw [HN.out]
    exact ⟨rfl, HQ.out⟩
  · have HN := Lib.hid (show rBool r = ((rU32 r).1 == 1, (rU32 r).2) by simp [rBool, hb])
    go_enter Tryz.func39, Tryz.ntmps39
    go_wp2_with fail
    refine (rU32_any g r _ hR hl).mono ?_
    rintro e w1 ⟨rfl, hQ⟩
    go_wp2
    go_ret
    rw [HN.out]
    refine ⟨ret_bool ?_, hQ⟩
    go_light
    grind

theorem infoOptR : (Tryz.prog.info? 29).map (fun i => (i.zero, i.size)) = some (some (.agg #[.bool false, .int .i64 0]), 2) := by kernel_rfl
/-- an option that was read -/
def optV (o : Bool × Nat) : List Value := [.bool o.1, .int .i64 o.2]

theorem optV_one (o : Bool × Nat) : ∀ v ∈ optV o, v.oneCell' = true := by
  intro v hv
  simp only [optV, List.mem_cons, List.not_mem_nil, or_false] at hv
  rcases hv with rfl | rfl <;> rfl

set_option maxHeartbeats 1600000 in
theorem rOpt_any (g : Nat) (r : Rs) (w : World) (hR : Rd w g r) (hl : r.s.length ≤ 9223372036854775807) :
    Calls Tryz.prog 98 #[.pointer (some ⟨g, 0, none⟩)] w (Gave g (rOpt r).2 (.agg (optV (rOpt r).1).toArray) w) := by
  have hb := Blk.new w 29 [.bool false, .int .i64 0]
  have hB : Below w.heap.size w (w.alloc (.cells #[.bool false, .int .i64 0] 29)) := (Below.refl _ _).alloc (Nat.le_refl _) _
  have hR1 := hR.stays hB
  have hne : w.heap.size ≠ g := Nat.ne_of_gt hR.lt
  have hl1 := rBool_len hl
  clear hR
  cases hq : (rBool r).1
  · have HN := Lib.hid (show rOpt r = ((false, 0), (rBool r).2) by simp [rOpt, hq])
    go_enter Tryz.func98, Tryz.ntmps98
    go_wp2_with fail
    generalize w.alloc (.cells #[.bool false, .int .i64 0] 29) = w0 at *
    refine (rBool_any g r _ hR1 hl).mono ?_
    rintro e w1 ⟨rfl, hQ⟩
    have hb1 := hQ.keeps hb hne
    have HQ := Lib.hid (Reads.lay (cs := optV (false, 0)) (Reads.behind hB hQ) hb1 rfl hne (Nat.le_refl _))
    clear hQ hb
    go_wp2_with (first | (refine wpList_store_whole (by rfl) 29 _ _ (by rfl) w.heap.size (optV (false, 0)) _ hb1 (by rfl) (by rfl) (by rfl) (by kernel_rfl) (by decide) ?_) | fail)
    refine ret_cells w.heap.size 0 (optV (false, 0)) Tryz.results98 Tryz.underlying29 rfl (by kernel_rfl) rfl HQ.out.2.range rfl ?_
    rw [HN.out]
    exact ⟨rfl, HQ.out.1⟩
  · have hl2 := rU64_len (r := (rBool r).2) (by omega)
    by_cases he : (rU64 (rBool r).2).2.e = 0
    · have HN := Lib.hid (show rOpt r = ((true, (rU64 (rBool r).2).1), (rU64 (rBool r).2).2) by simp [rOpt, hq, he])
      go_enter Tryz.func98, Tryz.ntmps98
      go_wp2_with fail
      generalize w.alloc (.cells #[.bool false, .int .i64 0] 29) = w0 at *
      refine (rBool_any g r _ hR1 hl).mono ?_
      rintro e w1 ⟨rfl, hQ⟩
      have hb1 := hQ.keeps hb hne
      go_wp2_with fail
      refine (rU64_any g (rBool r).2 _ hQ.1 (by omega)).mono ?_
      rintro e w2 ⟨rfl, hQ2⟩
      have hb2 := hQ2.keeps hb1 hne
      have hR2 := hQ2.1
      have HQ := Lib.hid (Reads.lay (cs := optV (true, (rU64 (rBool r).2).1)) (Reads.behind hB (hQ.trans hQ2)) hb2 rfl hne (Nat.le_refl _))
      clear hQ hb hb1 hQ2
      go_wp2_with fail
      refine (rErr_any g _ _ hR2).mono ?_
      rintro e w3 ⟨rfl, rfl⟩
      go_wp2_with (first | (refine wpList_store_whole (by rfl) 29 _ _ (by rfl) w.heap.size (optV (true, (rU64 (rBool r).2).1)) _ hb2 (by rfl) (by rfl) (by rfl) (by kernel_rfl) (optV_one _) ?_) | fail)
      refine ret_cells w.heap.size 0 (optV (true, (rU64 (rBool r).2).1)) Tryz.results98 Tryz.underlying29 rfl (by kernel_rfl) rfl HQ.out.2.range rfl ?_
      rw [HN.out]
      exact ⟨rfl, HQ.out.1⟩
    · have HN := Lib.hid (show rOpt r = ((false, 0), (rU64 (rBool r).2).2) by simp [rOpt, hq, he])
      have he' : ((rU64 (rBool r).2).2.e != 0) = true := by simpa using he
      go_enter Tryz.func98, Tryz.ntmps98
      go_wp2_with fail
      generalize w.alloc (.cells #[.bool false, .int .i64 0] 29) = w0 at *
      refine (rBool_any g r _ hR1 hl).mono ?_
      rintro e w1 ⟨rfl, hQ⟩
      have hb1 := hQ.keeps hb hne
      go_wp2_with fail
      refine (rU64_any g (rBool r).2 _ hQ.1 (by omega)).mono ?_
      rintro e w2 ⟨rfl, hQ2⟩
      have hb2 := hQ2.keeps hb1 hne
      have hR2 := hQ2.1
      have HQ := Lib.hid (Reads.lay (cs := optV (false, 0)) (Reads.behind hB (hQ.trans hQ2)) hb2 rfl hne (Nat.le_refl _))
      clear hQ hb hb1 hQ2
      go_wp2_with fail
      refine (rErr_any g _ _ hR2).mono ?_
      rintro e w3 ⟨rfl, rfl⟩
      go_wp2_with (first | (refine wpList_store_whole (by rfl) 29 _ _ (by rfl) w.heap.size (optV (false, 0)) _ hb2 (by rfl) (by rfl) (by rfl) (by kernel_rfl) (by decide) ?_) | fail)
      refine ret_cells w.heap.size 0 (optV (false, 0)) Tryz.results98 Tryz.underlying29 rfl (by kernel_rfl) rfl HQ.out.2.range rfl ?_
      rw [HN.out]
      exact ⟨rfl, HQ.out.1⟩
end Go.Proofs.YtapcjojlkeaadaaGreatDoor


/-
  Plain laws of lists: a search up to a number of elements. No condition.
-/
namespace Go.Proofs.YtapcjojlkeaadaaGreatDoor
variable {α : Type}

theorem take_next (l : List α) (k : Nat) (hk : k < l.length) : l.take (k + 1) = l.take k ++ [l[k]] := List.take_succ_eq_append_getElem hk
/-- among the first N some one is so, or there are more than N -/
def over (p : α → Bool) (N : Nat) (l : List α) : Bool := (l.take N).any p || decide (N < l.length)
theorem over_yes {p : α → Bool} {N : Nat} {l : List α} {k : Nat} (hk : k < l.length) (h7 : k < N) (h : p l[k] = true) : over p N l = true := by
  have h1 : l[k] ∈ l.take N := by
    have : (l.take N)[k]? = some l[k] := by rw [List.getElem?_take, if_pos h7]; exact List.getElem?_eq_getElem hk
    exact List.mem_of_getElem? this
  unfold over; rw [List.any_eq_true.2 ⟨_, h1, h⟩]; rfl
theorem over_step {p : α → Bool} {l : List α} {k : Nat} (hk : k < l.length) (hn : (l.take k).any p = false) (h : p l[k] = false) : (l.take (k + 1)).any p = false := by
  rw [take_next _ _ hk, List.any_append, hn]; simp [h]
theorem over_end {p : α → Bool} {N : Nat} {l : List α} {k : Nat} (hk : k ≤ l.length) (hkN : k ≤ N) (hn : (l.take k).any p = false) (he : ¬ (k < l.length ∧ k < N)) : over p N l = decide ((N : Int) < (l.length : Int)) := by
  unfold over
  have : (l.take N).any p = false := by
    rcases Nat.lt_or_ge k N with h | h
    · rw [List.take_of_length_le (by omega)]
      rw [List.take_of_length_le (by omega)] at hn
      exact hn
    · obtain rfl : k = N := by omega
      exact hn
  rw [this, Bool.false_or]
  exact decide_eq_decide.2 (by omega)
theorem over_no {p : α → Bool} {N : Nat} {l : List α} (h : over p N l = false) : l.length ≤ N ∧ ∀ x ∈ l, p x = false := by
  unfold over at h
  rw [Bool.or_eq_false_iff] at h
  obtain ⟨h1, h2⟩ := h
  have hl : l.length ≤ N := by simpa using h2
  refine ⟨hl, fun t ht => ?_⟩
  rw [List.take_of_length_le hl] at h1
  simpa using List.any_eq_false.1 h1 t ht
end Go.Proofs.YtapcjojlkeaadaaGreatDoor
