/-
  Layer 21, walks: the fixed calls, and the law SpaceRoom. No condition but that lengths are machine numbers.
-/
import Derived.Test.YteommanceipipaaSpaceWalkF
namespace Go.Proofs.Yteommanceipipaa
open Go.RowKit
attribute [local go_sem ↓] Go.wp_at_zero Go.wp_at_succ ldTree
attribute [local go_sem] rowAt_ptr rowOf_drew rowOf_drewN rowOf_alloc_at rowOf_alloc_past Tr.len

def knownNd : Nd := { attr := ⟨0, 0, 0, 1, 0, 0, 1, 0, 0, 0⟩, data := ⟨#[97, 98, 99, 100, 101]⟩, verf := 0, parent := 0, last := 0, ea := none, en := 0, ec := 0 }
def knownTr (g : Nat) : Tr := { lim := ⟨10, 6, 4⟩, now := 0, gens := 0, na := some ⟨g, 0, none⟩, nc := 1, ns := [knownNd] }
theorem known_at (w : World) : At (w.alloc (.cells knownNd.vals.toArray 45)) 15 (some ⟨w.heap.size, 0, none⟩) ((knownTr w.heap.size).ns.map Nd.vals) := by
  intro i r hr
  match i, hr with
  | 0, hr =>
    have : r = knownNd.vals := by simpa [knownTr] using hr.symm
    subst this
    exact ⟨w.heap.size, 0, rfl, by simp, range_new w knownNd.vals 45⟩
theorem known_small (g : Nat) : small (knownTr g).ns := ⟨by show 1 ≤ 70; omega, fun n hn => by
  have : n = knownNd := by simpa [knownTr] using hn
  subst this; decide⟩

theorem known_row (w : World) : rowOf ((w.alloc (.cells knownNd.vals.toArray 45)).alloc (.cells (knownTr w.heap.size).vals.toArray 26)) (w.heap.size + 1) 0 6 = some (knownTr w.heap.size).vals.toArray :=
  rowOf_alloc_at _ _ _ _ _ (by simp) rfl
theorem known_lim (g : Nat) : (knownTr g).lim.ok = true := rfl
theorem known_r1 (g : Nat) : room (knownTr g) 1 2 = 69 := by rfl
theorem known_r2 (g : Nat) : room (knownTr g) 2 6 = 28 := by rfl
theorem known_r3 (g : Nat) : room (knownTr g) 1 1 = 0 := by rfl
theorem known_free (g id : Nat) (h : Free (knownTr g).ns id) : id = 2 :=
  Free.unique h ⟨by omega, rfl, fun j h1 h2 => by obtain rfl : j = 1 := by omega
                                                  rfl⟩

set_option maxHeartbeats 1600000 in
theorem known_any (w : World) : Calls Try.prog 7 #[] w fun e w' => e = .returned (.bool true) ∧ Below w.heap.size w w' := by
  go_enter Try.func7, Try.ntmps7
  go_wp2_with fail
  refine (room_any (knownTr w.heap.size) 1 2 _ (known_small _) (known_lim _) ((known_at w).alloc _)).mono ?_
  rintro e w3 ⟨he, hb3⟩
  rw [known_r1] at he
  subst he
  have hA3 := ((known_at w).alloc (.cells (knownTr w.heap.size).vals.toArray 26)).below hb3
  have hrow3 := (rowOf_below hb3 (by simp) _ _).trans (known_row w)
  have c3 := (rowOf_range hrow3).1 5 _ rfl
  have hB3 : Below w.heap.size w w3 := below_then (((Below.refl _ _).alloc (Nat.le_refl _) _).alloc (by simp) _) hb3
  have hz3 : w.heap.size + 1 < w3.heap.size := by have := hb3.size; simp at this; omega
  clear hb3
  go_wp2_with fail
  refine (room_any (knownTr w.heap.size) 2 6 _ (known_small _) (known_lim _) hA3).mono ?_
  rintro e w4 ⟨he, hb4⟩
  rw [known_r2] at he
  subst he
  have hA4 := hA3.below hb4
  have hrow4 := (rowOf_below hb4 hz3 _ _).trans hrow3
  have hB4 := below_then hB3 hb4
  have hz4 := Nat.lt_of_lt_of_le hz3 hb4.size
  clear hb4 hrow3 c3 hA3 hB3 hz3
  go_wp2_with fail
  refine (room_any (knownTr w.heap.size) 1 1 _ (known_small _) (known_lim _) hA4).mono ?_
  rintro e w5 ⟨he, hb5⟩
  rw [known_r3] at he
  subst he
  have hA5 := hA4.below hb5
  have hrow5 := (rowOf_below hb5 hz4 _ _).trans hrow4
  have c5 := (rowOf_range hrow5).1 5 _ rfl
  have hB5 := below_then hB4 hb5
  clear hb5 hrow4 hA4 hB4 hz4
  go_wp2_with fail
  refine (id_any _ _ _ _ (by show 1 ≤ 1000000000000; omega) hA5).mono ?_
  rintro e w6 ⟨⟨id, rfl, hf⟩, hb6⟩
  obtain rfl := known_free _ _ hf
  go_wp2
  go_ret
  exact ⟨rfl, below_then hB5 hb6⟩

/-- what is read of a tree's nodes: lengths are machine numbers -/
def sized (ns : List Nd) : Prop := ns.length ≤ 9223372036854775807 ∧ ∀ n ∈ ns, n.data.size ≤ 9223372036854775807 ∧ n.en ≤ 9223372036854775807

set_option maxHeartbeats 1600000 in
theorem spaceRoom_any (t : Tr) (uid more less : Int) (w : World) (hz : sized t.ns) (hA : At w 15 t.na (t.ns.map Nd.vals)) :
    Calls Try.prog 3 #[t.val, .int .i64 uid, .int .i64 more, .int .i64 less] w fun e w' => e = .returned (.bool true) ∧ Below w.heap.size w w' := by
  have hcr := range_new w t.vals 26
  have hrow := rowOf_of hcr (Tr.len t) (by omega)
  have c0 := hcr 0 _ rfl
  have c1 := hcr 1 _ rfl
  have c2 := hcr 2 _ rfl
  have c5 := hcr 5 _ rfl
  have hA1 := hA.alloc (.cells t.vals.toArray 26)
  have hB1 : Below w.heap.size w (w.alloc (.cells t.vals.toArray 26)) := (Below.refl _ _).alloc (Nat.le_refl _) _
  have hz1 : w.heap.size < (w.alloc (.cells t.vals.toArray 26)).heap.size := by simp
  clear hcr
  unfold Tr.val
  go_enter Try.func3, Try.ntmps3
  go_wp2_with fail
  generalize w.alloc (.cells t.vals.toArray 26) = w1 at *
  refine (large_any _ _ t.ns _ hz.1 hz.2 hA1).mono ?_
  rintro e w2 ⟨he, rfl⟩
  cases hl : large t.ns
  case true =>
    rw [hl] at he
    subst he
    go_wp2_with fail
    refine (known_any _).mono ?_
    rintro e w3 ⟨rfl, hb3⟩
    go_wp2
    go_ret
    exact ⟨rfl, below_then hB1 hb3⟩
  case false =>
    rw [hl] at he
    subst he
    have HS := Lib.hid (small_of hl)
    clear hl
    go_wp2_with fail
    refine (refCheck_any t.lim _).mono ?_
    rintro e w3 ⟨he, hb3⟩
    have hA3 := hA1.below hb3
    have hrow3 := (rowOf_below hb3 hz1 _ _).trans hrow
    have hB3 := below_then hB1 hb3
    have hz3 := Nat.lt_of_lt_of_le hz1 hb3.size
    clear hb3 hrow hA1 hB1 hz1 c0 c1 c2 c5
    cases ho : t.lim.ok
    case false =>
      rw [ho] at he
      subst he
      clear ho
      go_wp2_with fail
      refine (known_any _).mono ?_
      rintro e w4 ⟨rfl, hb4⟩
      go_wp2
      go_ret
      exact ⟨rfl, below_then hB3 hb4⟩
    case true =>
      rw [ho] at he
      subst he
      have HO := Lib.hid ho
      clear ho
      go_wp2_with fail
      refine (room_any t uid more _ HS.out HO.out hA3).mono ?_
      rintro e w4 ⟨rfl, hb4⟩
      have hA4 := hA3.below hb4
      have hrow4 := (rowOf_below hb4 hz3 _ _).trans hrow3
      have hB4 := below_then hB3 hb4
      have hz4 := Nat.lt_of_lt_of_le hz3 hb4.size
      clear hb4 hrow3 hA3 hB3 hz3
      go_wp2_with fail
      refine (refRoom_any t uid more _ HS.out HO.out hA4).mono ?_
      rintro e w5 ⟨he, hb5⟩
      rw [← room_same] at he
      subst he
      have hA5 := hA4.below hb5
      have hrow5 := (rowOf_below hb5 hz4 _ _).trans hrow4
      have hB5 := below_then hB4 hb5
      clear hb5 hrow4 hA4 hB4
      by_cases h0 : room t uid more = 0
      · by_cases hlt : more < less
        · have h0' : (room t uid more != 0) = false := by simp [h0]
          clear h0
          go_wp2_with fail
          refine (known_any _).mono ?_
          rintro e w6 ⟨rfl, hb6⟩
          go_wp2
          go_ret
          exact ⟨rfl, below_then hB5 hb6⟩
        · have h2 : room t uid less = 0 := room_less h0 (by omega)
          have h0' : (room t uid more != 0) = false := by simp [h0]
          clear h0
          go_wp2_with fail
          refine (room_any t uid less _ HS.out HO.out hA5).mono ?_
          rintro e w6 ⟨he, hb6⟩
          rw [h2] at he
          subst he
          have hB6 := below_then hB5 hb6
          clear hb6 h2
          go_wp2_with fail
          refine (known_any _).mono ?_
          rintro e w7 ⟨rfl, hb7⟩
          go_wp2
          go_ret
          exact ⟨rfl, below_then hB6 hb7⟩
      · have h0' : (room t uid more != 0) = true := by simp [h0]
        clear h0
        go_wp2_with fail
        refine (known_any _).mono ?_
        rintro e w6 ⟨rfl, hb6⟩
        go_wp2
        go_ret
        exact ⟨rfl, below_then hB5 hb6⟩
end Go.Proofs.Yteommanceipipaa
