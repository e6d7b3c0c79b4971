/-
  Layer 3, walks: a handle's text, the document's and the program's. Condition: machine numbers; for the program's: the parts of no handle are noughts, and the table of tens' powers.
-/
import Derived.Test.YtlblenojhfeboaaDoorFhWalkE
import Derived.Test.YtlblenojhfeboaaDoorFhWalkC
import Derived.Test.YtlblenojhfeboaaDoorFhShelf
import Derived.Test.YtlblenojhfeboaaDoorFhTextPure
namespace Go.Proofs.YtlblenojhfeboaaDoor
open Go.RowKit
attribute [local go_sem ↓] Go.wp_at_zero Go.wp_at_succ
attribute [local go_sem] rowAt_ptr rowOf_drew rowOf_drewN rowOf_alloc_past rowOf_new
attribute [local go_sem] Parts.at0 Parts.lat0 Parts.at1 Parts.lat1 Parts.at2 Parts.lat2 Parts.sub0_3 Parts.lsub0_3 Parts.len

attribute [local go_sem ↓] ldRaw ldParts

theorem op3_cut {k : Nat} (hk : k = 1 ∨ k = 2) : (bs [63, 111, 112]).extract k (k + 1) = bs [if (k : Int) = 1 then 111 else 112] := by
  rcases hk with rfl | rfl
  · decide +kernel
  · decide +kernel
theorem op2_cut {k : Nat} (hk : k = 1 ∨ k = 2) : (bs [111, 112]).extract (k - 1) k = bs [if (k : Int) = 1 then 111 else 112] := by
  rcases hk with rfl | rfl
  · decide +kernel
  · decide +kernel

set_option maxRecDepth 20000 in
set_option maxHeartbeats 800000 in
theorem refText3_any (k a b : Nat) (w : World) (hk : k = 1 ∨ k = 2) (ha : (a : Int) ≤ 9223372036854775807) (hb : (b : Int) ≤ 9223372036854775807) :
    Calls Tryd.prog 16 #[.agg (Parts.mk (k : Int) (a : Int) (b : Int)).vals.toArray] w fun e w' => e = .returned (.string (bs (fhTx ⟨(k : Int), (a : Int), (b : Int)⟩))) ∧ Below w.heap.size w w' := by
  have hP := Blk.new w 24 (Parts.mk (k : Int) (a : Int) (b : Int)).vals
  have hB : Below w.heap.size w (w.alloc (.cells (Parts.mk (k : Int) (a : Int) (b : Int)).vals.toArray 24)) := (Below.refl _ _).alloc (Nat.le_refl _) _
  have f0 : (w.alloc (.cells (Parts.mk (k : Int) (a : Int) (b : Int)).vals.toArray 24)).cell? ⟨w.heap.size, 0, none⟩ = some (.int .i64 (k : Int)) := hP.cell 0
  have f1 : (w.alloc (.cells (Parts.mk (k : Int) (a : Int) (b : Int)).vals.toArray 24)).cell? ⟨w.heap.size, 1, none⟩ = some (.int .i64 (a : Int)) := hP.cell 1
  have f2 : (w.alloc (.cells (Parts.mk (k : Int) (a : Int) (b : Int)).vals.toArray 24)).cell? ⟨w.heap.size, 2, none⟩ = some (.int .i64 (b : Int)) := hP.cell 2
  have hsz : w.heap.size < (w.alloc (.cells (Parts.mk (k : Int) (a : Int) (b : Int)).vals.toArray 24)).heap.size := by simp
  have HR := Lib.hid (show bs [if (k : Int) = 1 then 111 else 112] ++ bs (Lib.decDigits a) ++ bs [46] ++ bs (Lib.decDigits b) = bs (fhTx ⟨(k : Int), (a : Int), (b : Int)⟩) by
    rw [bs_append, bs_append, bs_append]; rfl)
  have hcut : ({ data := #[63, 111, 112] } : ByteArray).extract k (k + 1) = bs [if (k : Int) = 1 then 111 else 112] := op3_cut hk
  have HB := Lib.hid hB
  generalize fhTx ⟨(k : Int), (a : Int), (b : Int)⟩ = R at *
  generalize (if (k : Int) = 1 then (111 : UInt8) else 112) = X at *
  have K1 := Lib.hid (fun W => digits3_any a W ha)
  have K2 := Lib.hid (fun W => digits3_any b W hb)
  have l1 := decDigits_len ha
  have l2 := decDigits_len hb
  generalize Lib.decDigits a = A at *
  generalize Lib.decDigits b = B at *
  have z1 := bs_size A
  have z2 := bs_size B
  have e3 : IntKind.i64.wrap ((k : Int) + 1) = (k : Int) + 1 := IntWalk.i64_in _ (by omega)
  have p1 : (0 : Int) ≤ (k : Int) + 1 := by omega
  have p2 : (k : Int) + 1 ≤ 3 := by omega
  have p3 : (0 : Int) ≤ (k : Int) := by omega
  have p4 : (k : Int) ≤ (k : Int) + 1 := by omega
  have p5 : ((k : Int) + 1).toNat = k + 1 := by omega
  have p6 : (k : Int).toNat = k := rfl
  have p7 : (bs [X]).size = 1 := rfl
  have t1 : ¬ 9223372036854775807 < 1 + A.length := by omega
  have t2 : ¬ 9223372036854775807 < 1 + A.length + 1 := by omega
  have t3 : ¬ 9223372036854775806 < 1 + A.length := by omega
  have t4 : ¬ 9223372036854775807 < 1 + A.length + 1 + B.length := by omega
  clear hP hB hk ha hb
  go_enter Tryd.func16, Tryd.ntmps16
  go_upto_region 1 with fail
  change Code.wp _ _ _ _ (w.alloc (.cells (Parts.mk (k : Int) (a : Int) (b : Int)).vals.toArray 24))
  generalize w.alloc (.cells (Parts.mk (k : Int) (a : Int) (b : Int)).vals.toArray 24) = w1 at *
  go_region_held3 (fun W => Stb w1 W) (first | exact Stb.start | assumption) (first
    | (go_at_call_of 38 (a); refine (K1.out _).mono ?_; rintro e w2 ⟨rfl, rfl⟩)
    | (go_at_call_of 38 (b); refine (K2.out _).mono ?_; rintro e w2 ⟨rfl, rfl⟩))
  all_goals
    go_wp2
    go_ret
    exact ⟨by rw [← HR.out]; rfl, below_then HB.out (by assumption : Stb _ _).2.2⟩
end Go.Proofs.YtlblenojhfeboaaDoor
