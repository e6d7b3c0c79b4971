/-
  Layer 5, walks: the options of what is to be set, in order; whether there are none; what is to be set is put. No condition.
-/
import Derived.Test.YthfhdighniiodaaDoorC05
import Derived.Test.YthfhdighniiodaaDoorC07
namespace Go.Proofs.YthfhdighniiodaaDoor
open Go.RowKit
attribute [local go_sem ↓] Go.wp_at_zero Go.wp_at_succ ldOpt ldSet

attribute [local go_sem] rowAt_ptr rowOf_drew rowOf_drewN

def optPtrs (g : Nat) : List Value := [.pointer (some ⟨g, 0, none⟩), .pointer (some ⟨g, 2, none⟩), .pointer (some ⟨g, 4, none⟩), .pointer (some ⟨g, 6, none⟩), .pointer (some ⟨g, 8, none⟩)]

set_option maxHeartbeats 1600000 in
theorem options_any (g : Nat) (w : World) :
    Calls Tryd.prog 132 #[ptr g] w fun e w' => ∃ h, e = .returned (.slice (some ⟨h, 0, none⟩) 5 5) ∧ Blk w' h 157 (optPtrs g) ∧ Below w.heap.size w w' ∧ w.heap.size ≤ h := by
  go_enter Tryd.func132, Tryd.ntmps132
  go_wp2
  go_region
  go_wp2
  go_ret
  exact ⟨_, rfl, (Blk.new _ _ _).drew, ((Below.refl _ _).alloc (Nat.le_refl _) _).drew, Nat.le_refl _⟩

theorem optPtr_at {w : World} {h g k : Nat} (hB : Blk w h 157 (optPtrs g)) (hk : k < 5) : w.cell? ⟨h, k, none⟩ = some (.pointer (some ⟨g, 2 * k, none⟩)) := by
  rw [hB.cell]
  match k, hk with
  | 0, _ | 1, _ | 2, _ | 3, _ | 4, _ => rfl
theorem opt_at {w : World} {g k : Nat} {s : Sett} (hB : Blk w g 55 s.vals) (hk : k < 5) : w.cell? ⟨g, 2 * k, none⟩ = some (.bool (s.opt k).is) ∧ rowOf w g (2 * k) 2 = some (s.opt k).vals.toArray := by
  obtain ⟨-, r0, r1, r2, r3, r4⟩ := settRows hB
  rw [hB.cell]
  match k, hk with
  | 0, _ => exact ⟨rfl, r0⟩
  | 1, _ => exact ⟨rfl, r1⟩
  | 2, _ => exact ⟨rfl, r2⟩
  | 3, _ => exact ⟨rfl, r3⟩
  | 4, _ => exact ⟨rfl, r4⟩

theorem putSet_nil (s : Sett) (w : World) :
    Calls Tryd.prog 106 #[.pointer none, .agg s.vals.toArray] w fun e w' => e = .returned (.int .i64 1) ∧ Below w.heap.size w w' := by
  go_enter Tryd.func106, Tryd.ntmps106
  go_wp2
  go_ret
  exact ⟨rfl, (Below.refl _ _).alloc (Nat.le_refl _) _⟩

set_option maxHeartbeats 800000 in
theorem putSet_bad (g : Nat) (s : Sett) (w : World) (hs : s.ok = false) :
    Calls Tryd.prog 106 #[ptr g, .agg s.vals.toArray] w fun e w' => e = .returned (.int .i64 14) ∧ Below w.heap.size w w' := by
  have hb0 := Blk.new w 55 s.vals
  have hB0 : Below w.heap.size w (w.alloc (.cells s.vals.toArray 55)) := (Below.refl _ _).alloc (Nat.le_refl _) _
  obtain ⟨r0, -⟩ := settRows hb0
  go_enter Tryd.func106, Tryd.ntmps106
  go_wp2_with fail
  refine (set_any s _).mono ?_
  rintro e w1 ⟨he, hb⟩
  rw [hs] at he
  subst he
  have hB1 := below_then hB0 hb
  clear hb hb0 r0 hB0
  go_wp2
  go_ret
  exact ⟨rfl, hB1⟩

set_option maxHeartbeats 3200000 in
theorem putSet_any (g : Nat) (sv : Value) (l : List UInt8) (s : Sett) (w : World) (hW : Wr w g sv l) (hs : s.ok = true) (hg : s.good) (hl : l.length ≤ 900000000000) :
    Calls Tryd.prog 106 #[ptr g, .agg s.vals.toArray] w (Wrote g sv (l ++ s.bytes) (.int .i64 0) w) := by
  have hb0 := Blk.new w 55 s.vals
  have hB0 : Below w.heap.size w (w.alloc (.cells s.vals.toArray 55)) := (Below.refl _ _).alloc (Nat.le_refl _) _
  obtain ⟨r0, -⟩ := settRows hb0
  go_enter Tryd.func106, Tryd.ntmps106
  go_wp2_with fail
  generalize w.alloc (.cells s.vals.toArray 55) = w0 at *
  refine (set_any s _).mono ?_
  rintro e w1 ⟨he, hb⟩
  rw [hs] at he
  subst he
  have hb1 := hb0.stays hb
  have hB1 := below_then hB0 hb
  clear hb hb0 r0 hB0
  go_wp2_with fail
  refine (options_any _ _).mono ?_
  rintro e w2 ⟨h, rfl, hp, hb, -⟩
  have hb2 := hb1.stays hb
  have hB2 := below_then hB1 hb
  have hW2 := hW.stays hB2
  have hT2 : Touch (foot g sv) w w2 := Touch.of_below hB2 _
  clear hb hb1 hB1
  go_wp2
  go_loopw [16] (fun i wr => ∃ (k : Nat) (sv' : Value), k ≤ 5 ∧ i = .int .i64 k ∧ MovedTo g sv sv' (l ++ s.upto k) w wr ∧ Blk wr h 157 (optPtrs w.heap.size) ∧ Blk wr w.heap.size 55 s.vals) (fun i _ => 5 - (intOf i).toNat)
  case atStart => exact ⟨0, sv, by omega, rfl, by unfold Sett.upto; rw [List.append_nil]; exact ⟨hW2, fun _ h => .inl h, hT2⟩, hp, hb2⟩
  case round =>
    obtain ⟨k, sv', hk, rfl, ⟨hW3, hr3, hT3⟩, hp3, hb3⟩ := hrel
    have HR3 := Lib.hid hr3
    have HT3 := Lib.hid hT3
    clear hr3 hT3
    by_cases hlt : k < 5
    · have hc := optPtr_at hp3 hlt
      obtain ⟨-, hd⟩ := opt_at hb3 hlt
      have hlen := s.upto_len k
      have hpos := Sett.opt_pos hs hlt
      have hgood := Go.bounds_i64 (Sett.opt_good hg hlt)
      go_wp2_with fail
      refine (wOpt_any g sv' _ (s.opt k).is (s.opt k).n _ hW3 hpos (by omega) (by rw [List.length_append]; omega)).mono ?_
      rintro e w4 ⟨rfl, sv4, hM4⟩
      have hp4 := hW3.keeps hp3 (by decide) (by decide) hM4.2.2
      have hb4 := hW3.keeps hb3 (by decide) (by decide) hM4.2.2
      have HM := Lib.hid (MovedTo.next HR3.out HT3.out hM4)
      clear hM4 hp3 hb3 hc hd hW3
      go_wp2
      go_roundw
      case rel => exact ⟨k + 1, sv4, by omega, by go_num, by have := HM.out; rw [List.append_assoc] at this; exact this, hp4, hb4⟩
      case measure => simp [intOf]; omega
    · obtain rfl : k = 5 := by omega
      go_wp2
      go_ret
      exact ⟨rfl, sv', by rw [← Sett.upto_five]; exact ⟨hW3, HR3.out, HT3.out⟩⟩

theorem refOptO_any (o : Opt) (w : World) (hn : o.is = true → 0 ≤ o.n) (hi : o.n ≤ 9223372036854775807) :
    Calls Tryd.prog 82 #[.agg o.vals.toArray] w fun e w' => e = .returned (.string (bs o.bytes)) ∧ Below w.heap.size w w' := refOpt_any o.is o.n w hn hi

end Go.Proofs.YthfhdighniiodaaDoor
