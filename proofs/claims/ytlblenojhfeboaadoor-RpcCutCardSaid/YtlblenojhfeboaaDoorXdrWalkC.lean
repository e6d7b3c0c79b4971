/-
  Layer 1, walks: a writer's texts and options, its bytes. Conditions: at most 2^40 bytes so far.
-/
import Derived.Test.YtlblenojhfeboaaDoorXdrWalkB
namespace Go.Proofs.YtlblenojhfeboaaDoor
open Go.RowKit
attribute [local go_sem ↓] Go.wp_at_zero Go.wp_at_succ

set_option maxRecDepth 20000 in
set_option maxHeartbeats 1600000 in
theorem wFixed_any (g : Nat) (sv : Value) (l s : List UInt8) (w : World) (hW : Wr w g sv l) (hs : s.length ≤ 1048576) (hl : l.length ≤ 1000000000000) :
    Calls Tryd.prog 64 #[ptr g, .string (bs s)] w (Wrote g sv (l ++ filled s) (.int .i64 0) w) := by
  obtain ⟨i0, hi0, hz0, hz1, hz2⟩ := info_parts infoU8
  have hsz := bs_size s
  have hc : w.cell? ⟨g, 0, none⟩ = some sv := hW.1.cell 0
  have hf := hW.1.frozen 0
  have hp := padn_lt s.length
  go_enter Tryd.func64, Tryd.ntmps64
  go_wp2_with (refine wpList_append_by (by rfl) (.tmp 16) (.tmp 17) #[59, 9] (by rfl) _ _ (by rfl) (by rfl) (run_append_bytes_at 0 59 9 _ 5 i0 Tryd.underlying59 Tryd.underlying9 hi0 hz0 hz1 hz2 sv l.length (l.map u8) hW.2 s (by omega) (Nat.zero_le _)) ?_; rintro sv1 w1 ⟨hown1, hgrow1, hat1, A1, c1, rfl⟩; have hB1 := (wr_row_ne hW (Below.refl _ _) hgrow1 hown1).1; have hc1 : w1.cell? ⟨g, 0, none⟩ = some sv := hB1.cell 0; have hf1 := hB1.frozen 0)
  have hM := moved_append (sv := sv) (m := s) hW (fun _ h => .inl h) (Touch.refl _ _) (Below.refl _ _) hgrow1 hown1 (fun k hk => by
    rcases hat1 with h | h
    · left; rw [← h]; exact hk
    · right; rw [h] at hk; simp at hk; omega)
  generalize hsv : Value.slice A1 (l.length + s.length) c1 = sv1 at *
  have HSV := Lib.hid hsv
  generalize w1.setCell ⟨g, 0, none⟩ sv1 = w2 at *
  obtain ⟨hW2, hrow2, hT2⟩ := hM
  have hc2 : w2.cell? ⟨g, 0, none⟩ = some sv1 := hW2.1.cell 0
  have hf2 := hW2.1.frozen 0
  clear hown1 hgrow1 hat1 hB1 hc1 hf1 hc hf hsv
  have HW2 := Lib.hid hW2
  have HR2 := Lib.hid hrow2
  clear hW2 hrow2
  go_region_law (first | (refine step_append_by (by rfl) (.tmp 25) (.tmp 28) #[59, 3] (by rfl) sv1 (.int .i64 (padn s.length)) (by simp [Act.eval]) (by simp [Act.eval]) (run_append_zeros_at 0 59 3 _ 5 i0 Tryd.underlying59 Tryd.underlying3 hi0 hz0 hz1 hz2 sv1 (l ++ s).length ((l ++ s).map u8) HW2.out.2.drew (padn s.length) (by simp; omega) (Nat.zero_le _)) ?_; rintro sv3 w3 ⟨hown3, hgrow3, hat3, A3, c3, rfl⟩; have hB3 := (wr_row_ne HW2.out ((Below.refl _ _).drew) hgrow3 hown3).1; have hc3 : w3.cell? ⟨g, 0, none⟩ = some sv1 := hB3.cell 0; have hf3 := hB3.frozen 0) | (go_simp; go_at_call 79; refine (pad_any _ _ (by omega)).mono ?_; rintro e w3 ⟨rfl, rfl⟩))
  all_goals
    have hM3 := moved_append (sv := sv) (m := List.replicate (padn s.length) 0) HW2.out HR2.out hT2 ((Below.refl _ _).drew) hgrow3 (by rw [← zcells_u8, List.length_replicate]; exact hown3) (fun k hk => by
      rcases hat3 with h | h
      · left; rw [← h]; exact hk
      · right; rw [h] at hk; simp at hk; simp; omega)
    go_wp2
    go_ret
    refine ⟨rfl, ?_⟩
    have e : l ++ filled s = l ++ s ++ List.replicate (padn s.length) 0 := by unfold filled; simp
    rw [e]
    simp only [List.length_append] at hM3
    exact ⟨_, hM3⟩

theorem wText_any (g : Nat) (sv : Value) (l : List UInt8) (w : World) (hW : Wr w g sv l) :
    Calls Tryd.prog 59 #[ptr g] w fun e w' => e = .returned (.string (bs l)) ∧ w = w' := by
  have hc : w.cell? ⟨g, 0, none⟩ = some sv := hW.1.cell 0
  have hcv := run_row_string (P := Tryd.prog) (dst := 9) Tryd.underlying59 Tryd.underlying5 Tryd.underlying9 hW.2
  go_enter Tryd.func59, Tryd.ntmps59
  go_wp2
  go_ret
  exact ⟨rfl, rfl⟩
end Go.Proofs.YtlblenojhfeboaaDoor
