/-
  Layer 33, walks: a new client. No condition.
-/
import Derived.Test.YtfjflkmhhbhceaaGreatDoorW33
import Derived.Test.YtfjflkmhhbhceaaGreatDoorW40
import Derived.Deep.RegionWith
namespace Go.Proofs.YtfjflkmhhbhceaaGreatDoor
open Go.RowKit
attribute [local go_sem ↓] Go.wp_at_zero Go.wp_at_succ
attribute [local go_sem] rowAt_ptr rowOf_drew rowOf_drewN rowOf_alloc_past rowOf_new
attribute [local go_sem ↓] st33Place

attribute [local go_sem] thereB_drew thereB_drewN thereB_new thereB_past putsW_drew putsW_new putsW_past rowOf_far rowOf_putsFar ptrAt blkAt offAt allV33 oneV33

attribute [local go_sem low] rowV33_agg

/-- a client while it is made: its first k places are -/
def newZ33 (id self server : Int) (k : Nat) : Clnt :=
  ⟨id, self, server, if 0 < k then ⟨rootL, 1, 0, []⟩ else placeZ33, if 1 < k then ⟨rootL, 1, 0, []⟩ else placeZ33, if 2 < k then ⟨rootL, 1, 0, []⟩ else placeZ33, if 3 < k then ⟨rootL, 1, 0, []⟩ else placeZ33, none, 0, 0, partZ33, false, packetZ33, 0, 0, none, 0, 0⟩
theorem newZ33_next (id self server : Int) {k : Nat} (hk : k < 4) : setAt (newZ33 id self server k).vals (3 + k * 4) (CPlace.mk rootL 1 0 []).vals = (newZ33 id self server (k + 1)).vals := by
  rcases (show k = 0 ∨ k = 1 ∨ k = 2 ∨ k = 3 by omega) with rfl | rfl | rfl | rfl <;> rfl
set_option maxRecDepth 20000 in
set_option maxHeartbeats 1600000 in
theorem new33_any (id self server : Int) (w : World) (hid : 1 ≤ id ∧ id ≤ 4) :
    Calls Tryz.prog 8 #[.int .i64 id, .int .i64 self, .int .i64 server] w fun e w' => ∃ g, e = .returned (.tuple #[.pointer (some ⟨g, 0, none⟩), .int .i64 0]) ∧ w.heap.size ≤ g ∧ g < w'.heap.size ∧ ClAt (fun k => k = g) w' g (clNew id self server rootL) (newZ33 id self server 4) [] ∧ Below w.heap.size w w' := by
  have KR := Lib.hid fhRoot_any
  have b0 := Blk.new w 93 (newZ33 id self server 0).vals
  have hB0 : Below w.heap.size w (w.alloc (.cells (newZ33 id self server 0).vals.toArray 93)) := (Below.refl _ _).alloc (Nat.le_refl _) _
  obtain ⟨w0, hw0⟩ : ∃ V, V = w.alloc (.cells (newZ33 id self server 0).vals.toArray 93) := ⟨_, rfl⟩
  rw [← hw0] at b0 hB0
  have HW := Lib.hid hw0
  have HB0 := Lib.hid hB0
  have Hb0 := Lib.hid b0
  clear hw0 b0 hB0
  go_enter Tryz.func8, Tryz.ntmps8
  go_upto_region 4 with fail
  change Code.wp _ _ _ _ (w.alloc (.cells (newZ33 id self server 0).vals.toArray 93))
  rw [← HW.out]
  go_wp2
  go_loopw [21] (fun i wr => ∃ k : Nat, k ≤ 4 ∧ i = .int .i64 k ∧ Blk wr w.heap.size 93 (newZ33 id self server k).vals ∧ Below w.heap.size w wr) (fun i _ => 4 - (intOf i).toNat)
  case atStart => exact ⟨0, Nat.zero_le _, rfl, Hb0.out, HB0.out⟩
  case round =>
    obtain ⟨k, hk, rfl, hb, hB⟩ := hrel
    by_cases hlt : k < 4
    · have hk0 : (0 : Int) ≤ (k : Int) := Int.natCast_nonneg _
      have hk1 : (k : Int) < 4 := by omega
      have htB := fun (W : World) (h : Below wr.heap.size wr W) => (hb.stays h).thereB (3 + k * 4) 4 (by show 3 + k * 4 + 4 ≤ 56; omega)
      have Hb := Lib.hid hb
      have HB := Lib.hid hB
      clear hb hB
      go_wp2_with fail
      go_region_with (go_at_call 27; refine (KR.out _).mono ?_; rintro e w5 ⟨rfl, hb5⟩; have hb6 := below_then (Below.refl wr.heap.size wr).drew hb5; have t5 := htB _ hb6)
      go_wp2
      go_roundw
      case rel =>
        have bw := (Hb.out.stays hb6).puts (3 + k * 4) (CPlace.mk rootL 1 0 []).vals
        rw [newZ33_next id self server hlt] at bw
        refine ⟨k + 1, by omega, by go_num, bw, ?_⟩
        rw [putsW_eq]
        exact Below.setCells (Nat.le_refl _) _ _ _ (below_then HB.out hb6)
      case measure => simp [intOf]; omega
    · obtain rfl : k = 4 := by omega
      have hlt := hb.lt
      have HC := Lib.hid (show ClAt (fun k => k = w.heap.size) wr w.heap.size (clNew id self server rootL) (newZ33 id self server 4) [] from
        ⟨hb, ⟨rfl, rfl, rfl, rfl, rfl, rfl, rfl, rfl, rfl⟩, PartsAt.none_ _ _ rfl, ⟨RowS.none_, fun k hk => (by cases hk), rfl, fun i h => absurd h (Nat.not_lt_zero _)⟩, rfl, fun k hk => by subst hk; exact hlt⟩)
      have HB := Lib.hid hB
      clear hb hB
      go_wp2
      go_ret2
      exact ⟨_, rfl, Nat.le_refl _, hlt, HC.out, HB.out⟩
end Go.Proofs.YtfjflkmhhbhceaaGreatDoor
