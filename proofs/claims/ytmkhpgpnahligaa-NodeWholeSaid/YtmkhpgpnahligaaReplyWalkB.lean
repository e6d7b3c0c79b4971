/-
  Layer 8, walks of the document's own: which letters a procedure's results have. No condition.
-/
import Derived.Test.YtmkhpgpnahligaaReplyWalkA
namespace Go.Proofs.Ytmkhpgpnahligaa
open Go.RowKit
attribute [local go_sem ↓] Go.wp_at_zero Go.wp_at_succ
attribute [local go_sem] rowAt_ptr rowOf_drew rowOf_drewN rowOf_alloc_past rowOf_new

def strsV (l : List (List UInt8)) : List Value := l.map fun s => .string (bs s)
theorem strsV_at {w : World} {h : Nat} {T : TypeId} {l : List (List UInt8)} (hB : Blk w h T (strsV l)) {k : Nat} (hk : k < l.length) : w.cell? ⟨h, k, none⟩ = some (.string (bs (l.getD k []))) := by
  rw [hB.cell]; simp [strsV, List.getD, hk]
theorem pFields_nat (k : Nat) (fine : Bool) : pFields (k : Int) fine = (lettersPQ fine).getD k [] := by
  unfold pFields; rw [if_neg (by omega), Int.toNat_natCast]

set_option maxRecDepth 20000 in
set_option maxHeartbeats 800000 in
theorem refFields8_any (p : Int) (fine : Bool) (w : World) : Calls Try.prog 14 #[.int .i64 p, .bool fine] w fun e w' => e = .returned (.string (bs (pFields p fine))) ∧ Below w.heap.size w w' := by
  have hP := Blk.new w 9 (strsV lettersP)
  have hB1 : Below w.heap.size w (w.alloc (.cells (strsV lettersP).toArray 9)) := (Below.refl _ _).alloc (Nat.le_refl _) _
  have hs1 : (w.alloc (.cells (strsV lettersP).toArray 9)).heap.size = w.heap.size + 1 := by simp
  obtain ⟨w1, hw1⟩ : ∃ u, u = w.alloc (.cells (strsV lettersP).toArray 9) := ⟨_, rfl⟩
  rw [← hw1] at hP hB1 hs1
  have hP2 := hP.alloc (.cells (strsV lettersQ).toArray 9)
  have hQ2 := Blk.new w1 9 (strsV lettersQ)
  rw [hs1] at hQ2
  have hB2 := hB1.alloc hB1.size (.cells (strsV lettersQ).toArray 9)
  obtain ⟨w2, hw2⟩ : ∃ u, u = w1.alloc (.cells (strsV lettersQ).toArray 9) := ⟨_, rfl⟩
  rw [← hw2] at hP2 hQ2 hB2
  have hcP := fun k hk => strsV_at hP2 (k := k) hk
  have hcQ := fun k hk => strsV_at hQ2 (k := k) hk
  have HW := Lib.hid (And.intro hw1 hw2)
  have HB := Lib.hid hB2
  clear hP hB1 hs1 hw1 hw2 hP2 hQ2 hB2
  go_enter Try.func14, Try.ntmps14
  go_upto_region 3 with fail
  change Code.wp _ _ _ _ ((w.alloc (.cells (strsV lettersP).toArray 9)).alloc (.cells (strsV lettersQ).toArray 9))
  rw [← HW.out.1, ← HW.out.2]
  clear HW
  by_cases h1 : p < 0
  · have HV := Lib.hid (pFields_low (fine := fine) h1)
    clear hcP hcQ
    go_wp2
    go_ret
    rw [HV.out]
    exact ⟨rfl, HB.out⟩
  · by_cases h2 : 22 ≤ p
    · have HV := Lib.hid (pFields_high (fine := fine) h2)
      clear hcP hcQ
      go_wp2
      go_ret
      rw [HV.out]
      exact ⟨rfl, HB.out⟩
    · obtain ⟨k, rfl⟩ : ∃ k : Nat, p = k := ⟨p.toNat, by omega⟩
      have hk0 : (0 : Int) ≤ (k : Int) := Int.natCast_nonneg _
      have hk1 : (k : Int) < 22 := by omega
      have hcp := hcP k (show k < 22 by omega)
      have hcq := hcQ k (show k < 22 by omega)
      cases fine with
      | true =>
        have HV := Lib.hid (show pFields (k : Int) true = lettersP.getD k [] from pFields_nat k true)
        generalize lettersP.getD k [] = l at *
        clear hcP hcQ hcq
        go_wp2
        go_ret
        rw [HV.out]
        exact ⟨rfl, HB.out⟩
      | false =>
        have HV := Lib.hid (show pFields (k : Int) false = lettersQ.getD k [] from pFields_nat k false)
        generalize lettersQ.getD k [] = l at *
        clear hcP hcQ hcp
        go_wp2
        go_ret
        rw [HV.out]
        exact ⟨rfl, HB.out⟩
end Go.Proofs.Ytmkhpgpnahligaa
