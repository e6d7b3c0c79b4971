/-
  Layer 21, walks: which limits may be, whether a user may have more. Conditions: at most 70 nodes, of at most 2000 bytes each; limits that may be.
-/
import Derived.Test.YteommanceipipaaSpaceWalkE
namespace Go.Proofs.Yteommanceipipaa
open Go.RowKit
attribute [local go_sem ↓] Go.wp_at_zero Go.wp_at_succ ldTree
attribute [local go_sem] rowAt_ptr rowOf_drew rowOf_drewN rowOf_alloc_at rowOf_alloc_past Tr.len

theorem Lim.cases (l : Lim) : (0 ≤ l.space ∧ l.space ≤ 1073741824 ∧ 0 ≤ l.quota ∧ l.quota ≤ 1073741824 ∧ 1 ≤ l.nodes ∧ l.nodes ≤ 64) ∨ (l.space < 0) ∨ (0 ≤ l.space ∧ 1073741824 < l.space) ∨ (0 ≤ l.space ∧ l.space ≤ 1073741824 ∧ l.quota < 0) ∨
    (0 ≤ l.space ∧ l.space ≤ 1073741824 ∧ 0 ≤ l.quota ∧ 1073741824 < l.quota) ∨ (0 ≤ l.space ∧ l.space ≤ 1073741824 ∧ 0 ≤ l.quota ∧ l.quota ≤ 1073741824 ∧ l.nodes < 1) ∨
    (0 ≤ l.space ∧ l.space ≤ 1073741824 ∧ 0 ≤ l.quota ∧ l.quota ≤ 1073741824 ∧ 1 ≤ l.nodes ∧ 64 < l.nodes) := by omega
theorem Lim.ok_iff (l : Lim) : l.ok = decide (0 ≤ l.space ∧ l.space ≤ 1073741824 ∧ 0 ≤ l.quota ∧ l.quota ≤ 1073741824 ∧ 1 ≤ l.nodes ∧ l.nodes ≤ 64) := by
  rw [Bool.eq_iff_iff]; simp only [Lim.ok, Bool.and_eq_true, decide_eq_true_eq]; omega
/-- OK, or an error -/
def errv (c : Int) (ok : Bool) : Int := if ok then 0 else c
theorem Lim.yes {l : Lim} (h : 0 ≤ l.space ∧ l.space ≤ 1073741824 ∧ 0 ≤ l.quota ∧ l.quota ≤ 1073741824 ∧ 1 ≤ l.nodes ∧ l.nodes ≤ 64) : l.ok = true := by rw [Lim.ok_iff]; exact decide_eq_true h
theorem Lim.no {l : Lim} (h : ¬ (0 ≤ l.space ∧ l.space ≤ 1073741824 ∧ 0 ≤ l.quota ∧ l.quota ≤ 1073741824 ∧ 1 ≤ l.nodes ∧ l.nodes ≤ 64)) : l.ok = false := by rw [Lim.ok_iff]; exact decide_eq_false h

set_option maxHeartbeats 1600000 in
theorem refCheck_any (l : Lim) (w : World) :
    Calls Try.prog 6 #[.agg l.vals.toArray] w fun e w' => e = .returned (.bool l.ok) ∧ Below w.heap.size w w' := by
  have hcr := range_new w l.vals 23
  have c0 := hcr 0 _ rfl
  have c1 := hcr 1 _ rfl
  have c2 := hcr 2 _ rfl
  have hB1 : Below w.heap.size w (w.alloc (.cells l.vals.toArray 23)) := (Below.refl _ _).alloc (Nat.le_refl _) _
  clear hcr
  rcases Lim.cases l with h | h | h | h | h | h | h
  · have hr := Lib.hid (Lim.yes h)
    go_enter Try.func6, Try.ntmps6
    go_wp2
    go_ret
    exact ⟨ret_bool (by rw [hr.out]; first | done | rfl | (simp; done) | (simp; omega)), hB1⟩
  all_goals
    have hr := Lib.hid (Lim.no (l := l) (by omega))
    go_enter Try.func6, Try.ntmps6
    go_wp2
    go_ret
    exact ⟨ret_bool (by rw [hr.out]; first | done | rfl | (simp; done) | (simp; omega)), hB1⟩

set_option maxHeartbeats 1600000 in
theorem check_any (l : Lim) (w : World) :
    Calls Try.prog 10 #[.agg l.vals.toArray] w fun e w' => e = .returned (.int .i64 (errv 3 l.ok)) ∧ Below w.heap.size w w' := by
  have hcr := range_new w l.vals 23
  have c0 := hcr 0 _ rfl
  have c1 := hcr 1 _ rfl
  have c2 := hcr 2 _ rfl
  have hB1 : Below w.heap.size w (w.alloc (.cells l.vals.toArray 23)) := (Below.refl _ _).alloc (Nat.le_refl _) _
  clear hcr
  rcases Lim.cases l with h | h | h | h | h | h | h
  · have hr := Lib.hid (Lim.yes h)
    go_enter Try.func10, Try.ntmps10
    go_wp2
    go_ret
    exact ⟨ret_int (by rw [hr.out]; rfl), hB1⟩
  all_goals
    have hr := Lib.hid (Lim.no (l := l) (by omega))
    go_enter Try.func10, Try.ntmps10
    go_wp2
    go_ret
    exact ⟨ret_int (by rw [hr.out]; rfl), hB1⟩

set_option maxHeartbeats 1600000 in
theorem room_any (t : Tr) (uid more : Int) (w : World) (hs : small t.ns) (ho : t.lim.ok = true) (hA : At w 15 t.na (t.ns.map Nd.vals)) :
    Calls Try.prog 8 #[t.val, .int .i64 uid, .int .i64 more] w fun e w' => e = .returned (.int .i64 (room t uid more)) ∧ Below w.heap.size w w' := by
  have hrow := rowOf_of (range_new w t.vals 26) (Tr.len t) (by omega)
  have hA1 := hA.alloc (.cells t.vals.toArray 26)
  have hB1 : Below w.heap.size w (w.alloc (.cells t.vals.toArray 26)) := (Below.refl _ _).alloc (Nat.le_refl _) _
  have hz : w.heap.size < (w.alloc (.cells t.vals.toArray 26)).heap.size := by simp
  have HO := Lib.hid ho
  clear ho
  have HS := Lib.hid hs
  clear hs
  unfold Tr.val
  go_enter Try.func8, Try.ntmps8
  by_cases h1 : more < 1
  · have hR := Lib.hid (show room t uid more = 0 by unfold room; rw [if_pos h1])
    go_wp2
    go_ret
    exact ⟨ret_int hR.out.symm, hB1⟩
  · go_wp2_with fail
    generalize w.alloc (.cells t.vals.toArray 26) = w1 at *
    refine (free_any t _ HS.out HO.out hA1).mono ?_
    rintro e w2 ⟨rfl, hb2⟩
    have hA2 := hA1.below hb2
    have hrow2 : rowOf w2 w.heap.size 0 6 = some t.vals.toArray := (rowOf_below hb2 hz _ _).trans hrow
    have hB2 := below_then hB1 (hb2.mono (Nat.le_refl _))
    by_cases h2 : free t < more
    · have hR := Lib.hid (show room t uid more = 28 by unfold room; rw [if_neg (by omega), if_pos h2])
      go_wp2
      go_ret
      exact ⟨ret_int hR.out.symm, hB2⟩
    · go_wp2_with fail
      refine (left_any t uid _ HS.out HO.out hA2).mono ?_
      rintro e w3 ⟨rfl, hb3⟩
      have hB3 := below_then hB2 (hb3.mono (Nat.le_refl _))
      have hR := Lib.hid (show room t uid more = if left t uid < more then 69 else 0 by unfold room; rw [if_neg (by omega), if_neg (by omega)])
      by_cases h3 : left t uid < more
      all_goals
        go_wp2
        go_ret
        exact ⟨ret_int (by rw [hR.out]; first | rw [if_pos h3] | rw [if_neg (by omega)]), hB3⟩

set_option maxHeartbeats 1600000 in
theorem refRoom_any (t : Tr) (uid more : Int) (w : World) (hs : small t.ns) (ho : t.lim.ok = true) (hA : At w 15 t.na (t.ns.map Nd.vals)) :
    Calls Try.prog 9 #[t.val, .int .i64 uid, .int .i64 more] w fun e w' => e = .returned (.int .i64 (rroom t uid more)) ∧ Below w.heap.size w w' := by
  have hu := used_small hs
  have hu2 := owned_small hs uid
  have hlb := Lim.bounds ho
  have hcr := range_new w t.vals 26
  have c0 := hcr 0 _ rfl
  have c1 := hcr 1 _ rfl
  have c5 := hcr 5 _ rfl
  have hA1 := hA.alloc (.cells t.vals.toArray 26)
  have hB1 : Below w.heap.size w (w.alloc (.cells t.vals.toArray 26)) := (Below.refl _ _).alloc (Nat.le_refl _) _
  have hz : w.heap.size < (w.alloc (.cells t.vals.toArray 26)).heap.size := by simp
  have hwr : IntKind.i64.wrap (t.lim.quota - (owned t.ns uid : Int)) = t.lim.quota - (owned t.ns uid : Int) := IntWalk.i64_in _ (by omega)
  have hwr2 : IntKind.i64.wrap (t.lim.space - (used t.ns : Int)) = t.lim.space - (used t.ns : Int) := IntWalk.i64_in _ (by omega)
  clear hcr ho hu hu2
  have HS := Lib.hid hs
  clear hs
  unfold Tr.val
  go_enter Try.func9, Try.ntmps9
  by_cases h1 : more < 1
  · have hR := Lib.hid (show rroom t uid more = 0 by unfold rroom; rw [if_pos h1])
    go_wp2
    go_ret
    exact ⟨ret_int hR.out.symm, hB1⟩
  · go_wp2_with fail
    generalize w.alloc (.cells t.vals.toArray 26) = w1 at *
    go_region_held3 (fun W => Stb w1 W) (first | exact Stb.start | assumption | (exact Stb.alloc (by assumption) _) | (exact Stb.call (by assumption) (by assumption))) (first | (go_at_call 12; refine (refUsed_any _ _ t.ns _ HS.out (hA1.stb (by assumption))).mono ?_; rintro e w2 ⟨rfl, hb⟩))
    have hst : Stb w1 w2 := by assumption
    have hB2 : Below w.heap.size w w2 := hB1.trans (hst.below.mono hB1.size)
    by_cases h2 : t.lim.space - used t.ns < more
    · have hR := Lib.hid (show rroom t uid more = 28 by unfold rroom; rw [if_neg (by omega), if_pos h2])
      go_wp2
      go_ret
      exact ⟨ret_int hR.out.symm, hB2⟩
    · by_cases h0 : uid = 0
      · have hR := Lib.hid (show rroom t uid more = 0 by unfold rroom; rw [if_neg (by omega), if_neg (by omega), if_neg (by omega)])
        have h0' : (uid != 0) = false := by simp [h0]
        clear h0 hst hb
        go_wp2_with fail
        go_quiet (fail)
        go_wp2
        go_ret
        exact ⟨ret_int hR.out.symm, bdN hB2 _⟩
      · have hR := Lib.hid (show rroom t uid more = if t.lim.quota - owned t.ns uid < more then 69 else 0 by unfold rroom; rw [if_neg (by omega), if_neg (by omega)]; simp [h0])
        have h0' : (uid != 0) = true := by simp [h0]
        have hA2 := hA1.below hst.below
        have c1' : w2.cell? ⟨w.heap.size, 0 + 1, none⟩ = some (.int .i64 t.lim.quota) := (hst.below.cell (p := ⟨w.heap.size, 1, none⟩) hz).trans c1
        have c5' : w2.cell? ⟨w.heap.size, 0 + 5, none⟩ = some (.slice t.na t.ns.length t.nc) := (hst.below.cell (p := ⟨w.heap.size, 5, none⟩) hz).trans c5
        have hz2 := Nat.lt_of_lt_of_le hz hst.below.size
        clear h0 hst hb c0 c1 c5 hA1 hA hz
        go_wp2_with fail
        go_region_held3 (fun W => Stb w2 W) (first | exact Stb.start | assumption | (exact Stb.call (by assumption) (by assumption))) (first | (go_at_call 14; refine (refOwned_any _ _ t.ns _ _ HS.out (hA2.stb (by assumption))).mono ?_; rintro e w3 ⟨rfl, hb3⟩))
        have hst3 : Stb w2 w3 := by assumption
        have hB3 : Below w.heap.size w w3 := hB2.trans (hst3.below.mono hB2.size)
        by_cases h3 : t.lim.quota - owned t.ns uid < more
        all_goals
          go_wp2
          go_ret
          exact ⟨ret_int (by rw [hR.out]; first | rw [if_pos h3] | rw [if_neg (by omega)]), hB3⟩
end Go.Proofs.Yteommanceipipaa
