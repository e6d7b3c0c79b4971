/-
  Layer 21, walks: what is told of a tree's room, and the law SpaceCounts. No condition but that lengths are machine numbers.
-/
import Derived.Test.YtgifmpobokaejaaGreatDoorF09
namespace Go.Proofs.YtgifmpobokaejaaGreatDoor
open Go.RowKit
attribute [local go_sem ↓] Go.wp_at_zero Go.wp_at_succ ldTree

attribute [local go_sem] rowAt_ptr rowOf_drew rowOf_drewN rowOf_alloc_at rowOf_alloc_past Tr.len

def nums (t : Tr) (uid : Int) : List Int := [t.lim.space, free t, left t uid, t.lim.nodes, max 0 (t.lim.nodes - t.ns.length), max 0 (t.lim.nodes - t.ns.length)]
/-- a slice of these numbers comes back; all that was there is as it was -/
def GivesInts (l : List Int) (w : World) (e : Ending) (w' : World) : Prop := ∃ A c, e = .returned (.slice A l.length c) ∧ At w' 1 A (ints l) ∧ Below w.heap.size w w'

theorem ints_cast {w : World} {A : Option Addr} {l l' : List Int} (h : l = l') (hA : At w 1 A (ints l')) : At w 1 A (ints l) := h ▸ hA

set_option maxRecDepth 20000 in
set_option maxHeartbeats 1600000 in
theorem nums_any (t : Tr) (uid : Int) (w : World) (hs : small t.ns) (ho : t.lim.ok = true) (hA : At w 15 t.na (t.ns.map Nd.vals)) :
    Calls Tryz.prog 109 #[t.val, .int .i64 uid] w (GivesInts (nums t uid) w) := by
  have hl := hs.1
  have hlb := Lim.bounds ho
  have hcr := range_new w t.vals 26
  have hrow := rowOf_of hcr (Tr.len t) (by omega)
  have c0 := hcr 0 _ rfl
  have c2 := hcr 2 _ rfl
  have c5 := hcr 5 _ rfl
  have hA1 := hA.alloc (.cells t.vals.toArray 26)
  have hB1 : Below w.heap.size w (w.alloc (.cells t.vals.toArray 26)) := (Below.refl _ _).alloc (Nat.le_refl _) _
  have hz1 : w.heap.size < (w.alloc (.cells t.vals.toArray 26)).heap.size := by simp
  clear hcr
  have HO := Lib.hid ho
  clear ho
  have HS := Lib.hid hs
  clear hs
  unfold Tr.val
  by_cases hm : (t.ns.length : Int) < t.lim.nodes
  all_goals
    go_enter Tryz.func109, Tryz.ntmps109
    go_wp2_with fail
    generalize w.alloc (.cells t.vals.toArray 26) = w1 at *
    go_region_held3 (fun W => Stb w1 W) (first | exact Stb.start | assumption | (exact Stb.alloc (by assumption) _) | (exact Stb.call (by assumption) (by assumption))) (first | (go_at_call 131; refine (free_any t _ HS.out HO.out (hA1.stb (by assumption))).mono ?_; rintro e w2 ⟨rfl, hb⟩) | (go_at_call 132; refine (left_any t uid _ HS.out HO.out (hA1.stb (by assumption))).mono ?_; rintro e w3 ⟨rfl, hb⟩))
    go_wp2
    go_ret
    refine ⟨_, 6, rfl, ints_cast ?_ (ints_new [_, _, _, _, _, _] _ _), hB1.trans ((by assumption : Stb w1 _).below.mono hB1.size)⟩
    simp only [nums, List.cons.injEq, and_true]
    repeat' (first | apply And.intro | trivial | rfl | omega)

set_option maxRecDepth 20000 in
set_option maxHeartbeats 3200000 in
theorem refNums_any (t : Tr) (uid : Int) (w : World) (hs : small t.ns) (ho : t.lim.ok = true) (hA : At w 15 t.na (t.ns.map Nd.vals)) :
    Calls Tryz.prog 89 #[t.val, .int .i64 uid] w (GivesInts (nums t uid) w) := by
  have hl := hs.1
  have hlb := Lim.bounds ho
  have hu := used_small hs
  have hu2 := owned_small hs uid
  have hcr := range_new w t.vals 26
  have c0 := hcr 0 _ rfl
  have c1 := hcr 1 _ rfl
  have c2 := hcr 2 _ rfl
  have c5 := hcr 5 _ rfl
  have hA1 := hA.alloc (.cells t.vals.toArray 26)
  have hB1 : Below w.heap.size w (w.alloc (.cells t.vals.toArray 26)) := (Below.refl _ _).alloc (Nat.le_refl _) _
  have hz1 : w.heap.size < (w.alloc (.cells t.vals.toArray 26)).heap.size := by simp
  have hwr : IntKind.i64.wrap (t.lim.quota - (owned t.ns uid : Int)) = t.lim.quota - (owned t.ns uid : Int) := IntWalk.i64_in _ (by omega)
  have hwr2 : IntKind.i64.wrap (t.lim.space - (used t.ns : Int)) = t.lim.space - (used t.ns : Int) := IntWalk.i64_in _ (by omega)
  clear hcr ho
  have HS := Lib.hid hs
  clear hs
  unfold Tr.val
  by_cases h0 : uid = 0
  · have hL := Lib.hid (show left t uid = free t by unfold left; rw [if_pos (by simp [h0])])
    have h0' : (uid != 0) = false := by simp [h0]
    clear h0
    by_cases hm : (t.ns.length : Int) < t.lim.nodes
    all_goals
      by_cases hq : (used t.ns : Int) < t.lim.space
      all_goals
        go_enter Tryz.func89, Tryz.ntmps89
        go_wp2_with fail
        generalize w.alloc (.cells t.vals.toArray 26) = w1 at *
        go_region_held3 (fun W => Stb w1 W) (first | exact Stb.start | assumption | (exact Stb.alloc (by assumption) _) | (exact Stb.call (by assumption) (by assumption))) (first | (go_at_call 116; refine (refUsed_any _ _ t.ns _ HS.out (hA1.stb (by assumption))).mono ?_; rintro e w2 ⟨rfl, hb⟩))
        have hst : Stb w1 w2 := by assumption
        have hB2 : Below w.heap.size w w2 := hB1.trans (hst.below.mono hB1.size)
        have hz2 := Nat.lt_of_lt_of_le hz1 hst.below.size
        clear hb hA1 hA hB1
        go_wp2
        go_ret
        refine ⟨_, 6, rfl, ints_cast ?_ (ints_new [_, _, _, _, _, _] _ _), hB2.alloc hB2.size _⟩
        have e := hL.out
        have e2 : free t = max 0 (t.lim.space - (used t.ns : Int)) := rfl
        simp only [nums, List.cons.injEq, and_true]
        repeat' (first | apply And.intro | trivial | rfl | omega)
  · have hL := Lib.hid (show left t uid = min (free t) (max 0 (t.lim.quota - owned t.ns uid)) by unfold left; rw [if_neg (by simp [h0])])
    have h0' : (uid != 0) = true := by simp [h0]
    clear h0
    by_cases hm : (t.ns.length : Int) < t.lim.nodes
    all_goals
      by_cases hq : (used t.ns : Int) < t.lim.space
      all_goals
        by_cases hq2 : (owned t.ns uid : Int) < t.lim.quota
        all_goals
          by_cases hq3 : t.lim.quota - (owned t.ns uid : Int) < t.lim.space - (used t.ns : Int)
          all_goals
            go_enter Tryz.func89, Tryz.ntmps89
            go_wp2_with fail
            generalize w.alloc (.cells t.vals.toArray 26) = w1 at *
            go_region_held3 (fun W => Stb w1 W) (first | exact Stb.start | assumption | (exact Stb.alloc (by assumption) _) | (exact Stb.call (by assumption) (by assumption))) (first | (go_at_call 116; refine (refUsed_any _ _ t.ns _ HS.out (hA1.stb (by assumption))).mono ?_; rintro e w2 ⟨rfl, hb⟩))
            have hst : Stb w1 w2 := by assumption
            have hB2 : Below w.heap.size w w2 := hB1.trans (hst.below.mono hB1.size)
            have hA2 := hA1.stb hst
            have hz2 := Nat.lt_of_lt_of_le hz1 hst.below.size
            clear hb hA1 hA hB1
            go_wp2_with fail
            all_goals
              go_region_held3 (fun W => Stb w2 W) (first | exact Stb.start | assumption | (exact Stb.alloc (by assumption) _) | (exact Stb.call (by assumption) (by assumption))) (first | (go_at_call 117; refine (refOwned_any _ _ t.ns _ _ HS.out (hA2.stb (by assumption))).mono ?_; rintro e w3 ⟨rfl, hb⟩))
              have hst3 : Stb w2 w3 := by assumption
              have hB3 : Below w.heap.size w w3 := hB2.trans (hst3.below.mono hB2.size)
              clear hb
              go_wp2
              all_goals
                go_ret
                refine ⟨_, 6, rfl, ints_cast ?_ (ints_new [_, _, _, _, _, _] _ _), hB3.alloc hB3.size _⟩
                have e := hL.out
                have e2 : free t = max 0 (t.lim.space - (used t.ns : Int)) := rfl
                simp only [nums, List.cons.injEq, and_true]
                repeat' (first | apply And.intro | trivial | rfl | omega)
end Go.Proofs.YtgifmpobokaejaaGreatDoor
