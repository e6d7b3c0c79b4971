/-
  Layer 1, walks: a thing's bytes by the reference; a thing put to a writer. Condition: texts of at most 2^20 bytes.
-/
import Derived.Test.YtfjflkmhhbhceaaGreatDoorW09
import Derived.Test.YtfjflkmhhbhceaaGreatDoorW12
import Derived.Test.YtfjflkmhhbhceaaGreatDoorW02
namespace Go.Proofs.YtfjflkmhhbhceaaGreatDoor
open Go.RowKit
attribute [local go_sem ↓] Go.wp_at_zero Go.wp_at_succ

set_option maxHeartbeats 800000 in
theorem refOpt_any (b : Bool) (n : Int) (w : World) (hn : b = true → 0 ≤ n) (hi : n ≤ 9223372036854775807) :
    Calls Tryz.prog 117 #[.agg #[.bool b, .int .i64 n]] w fun e w' => e = .returned (.string (bs (optB b n))) ∧ Below w.heap.size w w' := by
  have hr := range_new w [.bool b, .int .i64 n] 32
  have hc0 := hr 0 _ rfl
  have hc1 := hr 1 _ rfl
  have hB0 : Below w.heap.size w (w.alloc (.cells #[.bool b, .int .i64 n] 32)) := (Below.refl _ _).alloc (Nat.le_refl _) _
  have hz1 : w.heap.size < (w.alloc (.cells #[.bool b, .int .i64 n] 32)).heap.size := by simp
  clear hr
  cases b
  · go_enter Tryz.func117, Tryz.ntmps117
    go_wp2_with fail
    refine (refTruth_any false _).mono ?_
    rintro e w2 ⟨rfl, hb⟩
    have hB := below_then hB0 hb
    go_wp2
    go_ret
    exact ⟨ret_string (by simp [optB]), hB⟩
  · obtain ⟨m, rfl⟩ := Int.eq_ofNat_of_zero_le (hn rfl)
    have hZ : (num m 8).length = 8 := num_len _ _
    have hZ2 : (truth true).length = 4 := num_len _ _
    have hs1 := bs_size (truth true)
    have hs2 := bs_size (num m 8)
    go_enter Tryz.func117, Tryz.ntmps117
    go_wp2_with fail
    generalize w.alloc (.cells #[.bool true, .int .i64 m] 32) = w1 at *
    go_region_held3 (fun W => Stb w1 W) (first | exact Stb.start | assumption | (exact Stb.alloc (by assumption) _) | (exact Stb.call (by assumption) (by assumption))) (first
      | (go_at_call 71; refine (refTruth_any true _).mono ?_; rintro e w2 ⟨rfl, hb⟩)
      | (go_at_call 60; refine (refNum_any m 8 _ (by omega) (by omega)).mono ?_; rintro e w3 ⟨rfl, hb3⟩))
    have hs3 : Stb w1 w3 := by assumption
    go_wp2
    go_ret
    exact ⟨ret_string (by simp [optB]), below_then hB0 hs3.below⟩

end Go.Proofs.YtfjflkmhhbhceaaGreatDoor

/-
  Layer 1, walks: a thing put to a writer; whether things are too many or too long; the fixed calls. Condition: texts of at most 2^20 bytes.
-/
namespace Go.Proofs.YtfjflkmhhbhceaaGreatDoor
open Go.RowKit
attribute [local go_sem ↓] Go.wp_at_zero Go.wp_at_succ

theorem refused {g : Nat} {sv : Value} {l : List UInt8} {B : Nat} {w w' : World} (hW : Wr w g sv l) (hb : Below B w w') (hB : w.heap.size ≤ B) : Moved g sv (l ++ []) w w' := by
  rw [List.append_nil]
  have hb' : Below w.heap.size w w' := hb.mono hB
  exact ⟨sv, hW.stays hb', fun _ e => .inl e, Touch.of_below hb' _⟩

end Go.Proofs.YtfjflkmhhbhceaaGreatDoor


/-
  Layer 5, walks: the options of what is to be set, in order; whether there are none; what is to be set is put. No condition.
-/
namespace Go.Proofs.YtfjflkmhhbhceaaGreatDoor
open Go.RowKit
attribute [local go_sem ↓] Go.wp_at_zero Go.wp_at_succ ldOpt ldSet

attribute [local go_sem] rowAt_ptr rowOf_drew rowOf_drewN

def optPtrs (g : Nat) : List Value := [.pointer (some ⟨g, 0, none⟩), .pointer (some ⟨g, 2, none⟩), .pointer (some ⟨g, 4, none⟩), .pointer (some ⟨g, 6, none⟩), .pointer (some ⟨g, 8, none⟩)]

set_option maxHeartbeats 1600000 in
theorem options_any (g : Nat) (w : World) :
    Calls Tryz.prog 182 #[ptr g] w fun e w' => ∃ h, e = .returned (.slice (some ⟨h, 0, none⟩) 5 5) ∧ Blk w' h 243 (optPtrs g) ∧ Below w.heap.size w w' ∧ w.heap.size ≤ h := by
  go_enter Tryz.func182, Tryz.ntmps182
  go_wp2
  go_region
  go_wp2
  go_ret
  exact ⟨_, rfl, (Blk.new _ _ _).drew, ((Below.refl _ _).alloc (Nat.le_refl _) _).drew, Nat.le_refl _⟩

theorem optPtr_at {w : World} {h g k : Nat} (hB : Blk w h 243 (optPtrs g)) (hk : k < 5) : w.cell? ⟨h, k, none⟩ = some (.pointer (some ⟨g, 2 * k, none⟩)) := by
  rw [hB.cell]
  match k, hk with
  | 0, _ | 1, _ | 2, _ | 3, _ | 4, _ => rfl
theorem opt_at {w : World} {g k : Nat} {s : Sett} (hB : Blk w g 34 s.vals) (hk : k < 5) : w.cell? ⟨g, 2 * k, none⟩ = some (.bool (s.opt k).is) ∧ rowOf w g (2 * k) 2 = some (s.opt k).vals.toArray := by
  obtain ⟨-, r0, r1, r2, r3, r4⟩ := settRows hB
  rw [hB.cell]
  match k, hk with
  | 0, _ => exact ⟨rfl, r0⟩
  | 1, _ => exact ⟨rfl, r1⟩
  | 2, _ => exact ⟨rfl, r2⟩
  | 3, _ => exact ⟨rfl, r3⟩
  | 4, _ => exact ⟨rfl, r4⟩

set_option maxHeartbeats 3200000 in
theorem putSet_any (g : Nat) (sv : Value) (l : List UInt8) (s : Sett) (w : World) (hW : Wr w g sv l) (hs : s.ok = true) (hg : s.good) (hl : l.length ≤ 900000000000) :
    Calls Tryz.prog 163 #[ptr g, .agg s.vals.toArray] w (Wrote g sv (l ++ s.bytes) (.int .i64 0) w) := by
  have hb0 := Blk.new w 34 s.vals
  have hB0 : Below w.heap.size w (w.alloc (.cells s.vals.toArray 34)) := (Below.refl _ _).alloc (Nat.le_refl _) _
  obtain ⟨r0, -⟩ := settRows hb0
  go_enter Tryz.func163, Tryz.ntmps163
  go_wp2_with fail
  generalize w.alloc (.cells s.vals.toArray 34) = w0 at *
  refine (set_any s _).mono ?_
  rintro e w1 ⟨he, hb⟩
  rw [hs] at he
  subst he
  have hb1 := hb0.stays hb
  have hB1 := below_then hB0 hb
  clear hb hb0 r0 hB0
  go_wp2_with fail
  refine (options_any _ _).mono ?_
  rintro e w2 ⟨h, rfl, hp, hb, -⟩
  have hb2 := hb1.stays hb
  have hB2 := below_then hB1 hb
  have hW2 := hW.stays hB2
  have hT2 : Touch (foot g sv) w w2 := Touch.of_below hB2 _
  clear hb hb1 hB1
  go_wp2
  go_loopw [16] (fun i wr => ∃ (k : Nat) (sv' : Value), k ≤ 5 ∧ i = .int .i64 k ∧ MovedTo g sv sv' (l ++ s.upto k) w wr ∧ Blk wr h 243 (optPtrs w.heap.size) ∧ Blk wr w.heap.size 34 s.vals) (fun i _ => 5 - (intOf i).toNat)
  case atStart => exact ⟨0, sv, by omega, rfl, by unfold Sett.upto; rw [List.append_nil]; exact ⟨hW2, fun _ h => .inl h, hT2⟩, hp, hb2⟩
  case round =>
    obtain ⟨k, sv', hk, rfl, ⟨hW3, hr3, hT3⟩, hp3, hb3⟩ := hrel
    have HR3 := Lib.hid hr3
    have HT3 := Lib.hid hT3
    clear hr3 hT3
    by_cases hlt : k < 5
    · have hc := optPtr_at hp3 hlt
      obtain ⟨-, hd⟩ := opt_at hb3 hlt
      have hlen := s.upto_len k
      have hpos := Sett.opt_pos hs hlt
      have hgood := Go.bounds_i64 (Sett.opt_good hg hlt)
      go_wp2_with fail
      refine (wOpt_any g sv' _ (s.opt k).is (s.opt k).n _ hW3 hpos (by omega) (by rw [List.length_append]; omega)).mono ?_
      rintro e w4 ⟨rfl, sv4, hM4⟩
      have hp4 := hW3.keeps hp3 (by decide) (by decide) hM4.2.2
      have hb4 := hW3.keeps hb3 (by decide) (by decide) hM4.2.2
      have HM := Lib.hid (MovedTo.next HR3.out HT3.out hM4)
      clear hM4 hp3 hb3 hc hd hW3
      go_wp2
      go_roundw
      case rel => exact ⟨k + 1, sv4, by omega, by go_num, by have := HM.out; rw [List.append_assoc] at this; exact this, hp4, hb4⟩
      case measure => simp [intOf]; omega
    · obtain rfl : k = 5 := by omega
      go_wp2
      go_ret
      exact ⟨rfl, sv', by rw [← Sett.upto_five]; exact ⟨hW3, HR3.out, HT3.out⟩⟩

theorem refOptO_any (o : Opt) (w : World) (hn : o.is = true → 0 ≤ o.n) (hi : o.n ≤ 9223372036854775807) :
    Calls Tryz.prog 117 #[.agg o.vals.toArray] w fun e w' => e = .returned (.string (bs o.bytes)) ∧ Below w.heap.size w w' := refOpt_any o.is o.n w hn hi

end Go.Proofs.YtfjflkmhhbhceaaGreatDoor


/-
  Layer 1, walks: whether things are too many or too long; the laws XdrPads and XdrWrites. No condition.
-/
namespace Go.Proofs.YtfjflkmhhbhceaaGreatDoor
open Go.RowKit
attribute [local go_sem ↓] Go.wp_at_zero Go.wp_at_succ

def long (t : Thing) : Bool := decide (200 < t.s.length)
end Go.Proofs.YtfjflkmhhbhceaaGreatDoor


/-
  Layer 5, walks: the bytes of what is to be set. No condition.
-/
namespace Go.Proofs.YtfjflkmhhbhceaaGreatDoor
open Go.RowKit
attribute [local go_sem ↓] Go.wp_at_zero Go.wp_at_succ ldOpt ldSet

attribute [local go_sem] rowAt_ptr rowOf_drew rowOf_drewN

theorem add_bs (a b : List UInt8) (h : a.length + b.length ≤ 9223372036854775807) : Op.stringOp .add (bs a) (bs b) = pure (.string (bs (a ++ b))) := by
  have h2 : ¬ (((bs a).size + (bs b).size : Nat) : Int) > IntKind.i64.max := by
    rw [bs_size, bs_size]
    show ¬ (((a.length + b.length : Nat) : Int) > 9223372036854775807)
    omega
  simp only [Op.stringOp]
  rw [if_neg h2, bs_append]
attribute [local go_sem ↓] add_bs

end Go.Proofs.YtfjflkmhhbhceaaGreatDoor
