/-
  Layer 3, walks: the program's laid, Make and what makes handles. Condition: machine numbers.
-/
import Derived.Test.YtgifmpobokaejaaGreatDoorF06
import Derived.Test.YtgifmpobokaejaaGreatDoorF18
import Derived.Test.YtgifmpobokaejaaGreatDoorF09
import Derived.Test.YtgifmpobokaejaaGreatDoorF04
import Derived.Deep.CutRange
import Derived.Laws.Cover3
namespace Go.Proofs.YtgifmpobokaejaaGreatDoor
open Go.RowKit
attribute [local go_sem ↓] Go.wp_at_zero Go.wp_at_succ
attribute [local go_sem] rowAt_ptr rowOf_drew rowOf_drewN rowOf_alloc_past rowOf_new
attribute [local go_sem] Parts.at0 Parts.lat0 Parts.at1 Parts.lat1 Parts.at2 Parts.lat2 Parts.sub0_3 Parts.lsub0_3 Parts.len

theorem BlkM.row {w : World} {g : Nat} {t : TypeId} {cs : List Value} (h : BlkM w g t cs) (o n : Nat) (hn : o + n ≤ cs.length) : rowOf w g o n = some ((cs.drop o).take n).toArray := by
  obtain ⟨m, _, h⟩ := h
  unfold rowOf
  simp only [h]
  rw [if_pos (by simpa using hn)]
  simp
/-- a handle's bytes, as an array's cells -/
def rawV (l : List UInt8) : List Value := l.map u8
theorem rawV_one (l : List UInt8) : ∀ v ∈ rawV l, v.oneCell' = true := u8_one l
def z16 : List UInt8 := List.replicate 16 0
def rawF (p : Parts) : List UInt8 := if p.mayF then fhB p else z16
theorem rawF_len (p : Parts) : (rawF p).length = 16 := by
  unfold rawF
  split
  · exact fhB_len p
  · rfl
def LaidP (p : Parts) (w : World) (e : Ending) (w' : World) : Prop := e = .returned (.tuple #[.agg (rawV (rawF p)).toArray, .bool p.mayF]) ∧ Below w.heap.size w w'
theorem LaidP.no {p : Parts} {w w' : World} (h : p.mayF = false) (hb : Below w.heap.size w w') : LaidP p w (.returned (.tuple #[.agg (rawV z16).toArray, .bool false])) w' := by
  refine ⟨?_, hb⟩
  rw [h, rawF, if_neg (by rw [h]; exact Bool.false_ne_true)]
theorem LaidP.yes {p : Parts} {w w' : World} (h : p.mayF = true) (hb : Below w.heap.size w w') : LaidP p w (.returned (.tuple #[.agg (rawV (fhB p)).toArray, .bool true])) w' := by
  refine ⟨?_, hb⟩
  rw [h, rawF, if_pos h]

theorem fhB_nat {p : Parts} {k a b : Nat} (hk : p.kind = (k : Int)) (ha : p.a = (a : Int)) (hb : p.b = (b : Int)) : [] ++ num (k * 16777216) 4 ++ num a 4 ++ num b 8 = fhB p := by
  unfold fhB
  rw [hk, ha, hb, Int.toNat_natCast, Int.toNat_natCast, Int.toNat_natCast, List.nil_append]
end Go.Proofs.YtgifmpobokaejaaGreatDoor

/-
  Layer 3, walks: the program's Make and what makes handles. Condition: machine numbers.
-/
namespace Go.Proofs.YtgifmpobokaejaaGreatDoor
open Go.RowKit
attribute [local go_sem ↓] Go.wp_at_zero Go.wp_at_succ
attribute [local go_sem] rowAt_ptr rowOf_drew rowOf_drewN rowOf_alloc_past rowOf_new
attribute [local go_sem] Parts.at0 Parts.lat0 Parts.at1 Parts.lat1 Parts.at2 Parts.lat2 Parts.sub0_3 Parts.lsub0_3 Parts.len

/-- parts that a machine holds -/
def Parts.mach (p : Parts) : Prop := (-9223372036854775808 ≤ p.a ∧ p.a ≤ 9223372036854775807) ∧ p.b ≤ 9223372036854775807
theorem rawV_len (l : List UInt8) : (rawV l).length = l.length := by simp [rawV]
def fhIssued (p : Parts) : List UInt8 := if p.a < 1 ∨ p.b < 1 then [] else fhMake p
def rootL : List UInt8 := [1, 0, 0, 0, 0, 0, 0, 1, 0, 0, 0, 0, 0, 0, 0, 1]
def neverL : List UInt8 := [2, 0, 0, 0, 0, 0, 0, 0, 0, 0, 0, 0, 0, 0, 0, 0]
end Go.Proofs.YtgifmpobokaejaaGreatDoor
