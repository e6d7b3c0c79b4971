/-
  Layer 1, walks: the reference's bytes of numbers and texts; what fills up. Conditions: numbers from 0 on; texts below 2^40 bytes.
-/
import Derived.Test.YthfhdighniiodaaDoorProg
import Derived.Test.YthfhdighniiodaaDoorC06
import Derived.Deep.RegionLaw
namespace Go.Proofs.YthfhdighniiodaaDoor
open Go.RowKit
attribute [local go_sem ↓] Go.wp_at_zero Go.wp_at_succ

set_option maxHeartbeats 400000 in
theorem pad_any (n : Int) (w : World) (hn : n ≤ 9223372036854775807) :
    Calls Tryd.prog 120 #[.int .i64 n] w fun e w' => e = .returned (.int .i64 (padn n.toNat)) ∧ w = w' := by
  by_cases h : n < 1
  · have hr := Lib.hid (show padn n.toNat = 0 by rw [show n.toNat = 0 by omega]; rfl)
    go_enter Tryd.func120, Tryd.ntmps120
    go_wp2
    go_ret
    exact ⟨ret_int (by rw [hr.out]; rfl), rfl⟩
  · have hr := Lib.hid (show (padn n.toNat : Int) = (4 - n % 4) % 4 by unfold padn; omega)
    go_enter Tryd.func120, Tryd.ntmps120
    go_wp2
    go_ret
    exact ⟨ret_int (by have := hr.out; omega), rfl⟩

theorem one_string (x : Int) (W : World) : (convert 85 9 (.slice (some ⟨W.heap.size, 0, none⟩) 1 1)).run Tryd.prog (W.alloc (.cells #[.int .u8 x] 5)) = .ok (.string (bs [UInt8.ofNat x.toNat])) (W.alloc (.cells #[.int .u8 x] 5)) :=
  run_one_string Tryd.underlying85 Tryd.underlying5 Tryd.underlying9 x W
attribute [local go_sem] one_string

set_option maxRecDepth 20000 in
set_option maxHeartbeats 800000 in
theorem refNum_any (n k : Nat) (w : World) (hn : (n : Int) ≤ 9223372036854775807) (hk : k ≤ 8) :
    Calls Tryd.prog 62 #[.int .i64 n, .int .i64 k] w fun e w' => e = .returned (.string (bs (num n k))) ∧ Below w.heap.size w w' := by
  go_enter Tryd.func62, Tryd.ntmps62
  go_wp2
  go_loopg [0, 5, 6] k (fun g m s i wr => ∃ (j q : Nat) (l : List UInt8), i = .int .i64 j ∧ j + g = k ∧ m = .int .i64 q ∧ (q : Int) ≤ 9223372036854775807 ∧ s = .string (bs l) ∧ l.length = j ∧ num q g ++ l = num n k ∧ Below w.heap.size w wr)
  case atStart => exact ⟨0, n, [], rfl, by omega, rfl, hn, rfl, rfl, by simp, Below.refl _ _⟩
  case round =>
    obtain ⟨j, q, l, rfl, hj, rfl, hq, rfl, hl, hnum, hB⟩ := hrel
    have HN := Lib.hid hnum
    clear hnum
    by_cases hlt : j < k
    · have HS := Lib.hid (show num (q / 256) (gk - 1) ++ (UInt8.ofNat (q % 256) :: l) = num n k by
        rw [ofNat_mod, ← HN.out, show gk = gk - 1 + 1 by omega, num]; simp)
      go_wp2
      go_roundg (gk - 1)
      case measure => omega
      case rel => exact ⟨j + 1, q / 256, UInt8.ofNat (q % 256) :: l, by go_num, by omega, by go_num, by omega, by rw [bs_append]; rfl, by simp [hl], HS.out, hB.alloc hB.size _⟩
    · have HS := Lib.hid (show l = num n k by rw [← HN.out, show gk = 0 by omega]; rfl)
      go_wp2
      go_ret
      exact ⟨by show Ending.returned (.string (bs l)) = _; rw [HS.out], hB⟩

theorem ret_string {a b : List UInt8} (h : a = b) : Ending.returned (.string (bs a)) = .returned (.string (bs b)) := by rw [h]

theorem refTruth_any (b : Bool) (w : World) : Calls Tryd.prog 118 #[.bool b] w fun e w' => e = .returned (.string (bs (truth b))) ∧ Below w.heap.size w w' := by
  cases b
  · go_enter Tryd.func118, Tryd.ntmps118
    go_wp2_with (go_at_call 62; refine (refNum_any 0 4 _ (by omega) (by omega)).mono ?_; rintro e w' ⟨rfl, hb⟩)
    go_ret
    exact ⟨rfl, hb⟩
  · go_enter Tryd.func118, Tryd.ntmps118
    go_wp2_with (go_at_call 62; refine (refNum_any 1 4 _ (by omega) (by omega)).mono ?_; rintro e w' ⟨rfl, hb⟩)
    go_ret
    exact ⟨rfl, hb⟩

theorem filled_step {l m : List UInt8} (h : filled l = filled m) (hn : m.length % 4 ≠ 0) : filled l = filled (m ++ [0]) := by
  rw [h]
  unfold filled
  have : padn m.length = padn (m ++ [0]).length + 1 := by simp [padn]; omega
  rw [this, List.append_assoc]
  rfl
theorem filled_end {m : List UInt8} (hn : m.length % 4 = 0) : filled m = m := by
  unfold filled
  rw [show padn m.length = 0 by unfold padn; omega]
  simp

set_option maxRecDepth 20000 in
set_option maxHeartbeats 800000 in
theorem refFilled_any (l : List UInt8) (w : World) (hl : l.length ≤ 1000000000) :
    Calls Tryd.prog 104 #[.string (bs l)] w fun e w' => e = .returned (.string (bs (filled l))) ∧ Below w.heap.size w w' := by
  go_enter Tryd.func104, Tryd.ntmps104
  go_wp2
  go_loopg [0] 4 (fun g s wr => ∃ m : List UInt8, s = .string (bs m) ∧ filled l = filled m ∧ (m.length % 4 ≠ 0 → 4 - m.length % 4 ≤ g) ∧ m.length ≤ 1000000010 - g ∧ g ≤ 4 ∧ Below w.heap.size w wr)
  case atStart => exact ⟨l, rfl, rfl, fun _ => by omega, by omega, by omega, Below.refl _ _⟩
  case round =>
    obtain ⟨m, rfl, hf, hg, hm, hg4, hB⟩ := hrel
    have hsz := bs_size m
    by_cases hn : m.length % 4 = 0
    · have HS := Lib.hid (show m = filled l by rw [hf, filled_end hn])
      have h1 : ((m.length : Int) % 4 != 0) = false := by simp; omega
      clear hf hg hn
      go_wp2
      go_ret
      exact ⟨ret_string HS.out, hB⟩
    · have HS := Lib.hid (filled_step hf hn)
      have h1 : ((m.length : Int) % 4 != 0) = true := by simp; omega
      have hg' := hg hn
      have hlen : (m ++ [(0 : UInt8)]).length = m.length + 1 := by simp
      clear hf hg
      go_wp2
      go_roundg (gk - 1)
      case measure => omega
      case rel => exact ⟨m ++ [0], by rw [← bs_append], HS.out, fun h => by omega, by omega, by omega, hB⟩

set_option maxHeartbeats 800000 in
theorem refText_any (l : List UInt8) (w : World) (hl : l.length ≤ 1000000000) :
    Calls Tryd.prog 63 #[.string (bs l)] w fun e w' => e = .returned (.string (bs (opq l))) ∧ Below w.heap.size w w' := by
  have hsz := bs_size l
  have hf := filled_len l
  have hp := padn_lt l.length
  have hn := num_len l.length 4
  go_enter Tryd.func63, Tryd.ntmps63
  go_wp2_with fail
  refine (refNum_any l.length 4 _ (by omega) (by omega)).mono ?_
  rintro e w1 ⟨rfl, hb1⟩
  go_wp2_with fail
  refine (refFilled_any l _ hl).mono ?_
  rintro e w2 ⟨rfl, hb2⟩
  go_wp2
  go_ret
  exact ⟨by show Ending.returned (.string (bs _ ++ bs _)) = _; rw [bs_append]; rfl, below_then hb1 hb2⟩
end Go.Proofs.YthfhdighniiodaaDoor

/-
  Layer 1, walks: a writer's number. Conditions: a number from 0 on, in 4 or 8 bytes; at most 2^40 bytes so far.
-/
namespace Go.Proofs.YthfhdighniiodaaDoor
open Go.RowKit
attribute [local go_sem ↓] Go.wp_at_zero Go.wp_at_succ

theorem infoU8 : (Tryd.prog.info? 5).map (fun i => (i.zero, i.size, i.bytes)) = some (some (.int .u8 0), 1, 1) := by kernel_rfl

set_option maxRecDepth 20000 in
set_option maxHeartbeats 1600000 in
theorem number_any (g : Nat) (sv : Value) (l : List UInt8) (n k : Nat) (w : World) (hW : Wr w g sv l) (_hn : (n : Int) ≤ 9223372036854775807) (hk : k ≤ 8) (hl : l.length ≤ 1000000000000) :
    Calls Tryd.prog 92 #[.pointer (some ⟨g, 0, none⟩), .int .i64 n, .int .i64 k] w (Wrote g sv (l ++ num n k) (.tuple #[]) w) := by
  obtain ⟨i0, hi0, hz0, hz1, hz2⟩ := info_parts infoU8
  go_enter Tryd.func92, Tryd.ntmps92
  go_wp2
  go_loopg [6] k (fun m i wr => i = .int .i64 ((m : Int) - 1) ∧ m ≤ k ∧ Moved g sv (l ++ (num n k).take (k - m)) w wr)
  case atStart => exact ⟨rfl, Nat.le_refl _, by simpa using Moved.refl hW⟩
  case round =>
    obtain ⟨rfl, hm, hM⟩ := hrel
    by_cases h0 : gk = 0
    · subst h0
      have HM := Lib.hid hM
      clear hM
      go_wp2
      go_end0
      exact ⟨rfl, by have := HM.out; rw [Nat.sub_zero, List.take_of_length_le (by rw [num_len]; omega)] at this; exact this⟩
    · obtain ⟨sv1, hW1, hrow, hT⟩ := hM
      have hm1 : 1 ≤ gk := by omega
      have hlen : (l ++ (num n k).take (k - gk)).length ≤ 1000000000100 := by simp [num_len]; omega
      have HN := Lib.hid (num_take n k gk hm1 hm)
      generalize hl1 : (l ++ (num n k).take (k - gk)) = l1 at *
      have HL := Lib.hid hl1
      clear hl1
      have HR := Lib.hid hrow
      clear hrow
      have hc := (hW1.1.cell 0)
      simp only [List.getElem?_cons_zero] at hc
      have hf := hW1.1.frozen 0
      have hsh := shr_byte n gk hm1 (by omega)
      generalize n / 256 ^ (gk - 1) = b at *
      have hcv := u8_wrap b
      have hOwn := Lib.hid hW1.2
      have hBlk := Lib.hid hW1.1
      go_wp2_with fail
      have hLen := Lib.hid hlen
      have hglt := hW1.1.lt
      clear hlen hW1 hl
      go_region_law ((refine step_append_lies _ (by rfl) (.tmp 17) (.tmp 23) 85 (by rfl) 0 5 i0 _ 1 1 Tryd.underlying85 hi0 hz0 hz1 hz2 rfl (by omega) sv1 l1.length (l1.map u8) (by simp [Act.eval]) ((hOwn.out.alloc _).drew) ⟨wr.heap.size, 0, none⟩ 1 1 [u8 (UInt8.ofNat b)] (by simp [Act.eval]) rfl (cell_one_new _ _ _) (u8_one [UInt8.ofNat b]) (by omega) (by have := hLen.out; unfold maxLen; omega) (by have := hLen.out; omega) (Nat.zero_le _) (wr.heap.size + 1) (by simp) ?_; intro g1 cap w1 hown1 hgrow1 hat1 hlt1; have hB1 := (wr_row_ne ⟨hBlk.out, hOwn.out⟩ (((Below.refl _ _).alloc (Nat.le_refl _) _).drew) hgrow1 hown1).1; have hc1 : w1.cell? ⟨g, 0, none⟩ = some sv1 := hB1.cell 0; have hf1 := hB1.frozen 0))
      all_goals
        go_wp2
        go_roundg (gk - 1)
        case measure => omega
        case rel =>
          refine ⟨by go_num, by omega, ?_⟩
          rw [HN.out, ← List.append_assoc]
          rw [HL.out]
          exact ⟨_, moved_append (m := [UInt8.ofNat b]) ⟨hBlk.out, hOwn.out⟩ HR.out hT (((Below.refl _ _).alloc (Nat.le_refl _) _).drew) hgrow1 hown1 (fun k hk => by
            have hk' : g1 = k := by simpa [Value.ownBlock] using hk
            rcases hat1 with h | h
            · left; rw [h, hk']
            · right; simp; omega)⟩

/-- a pointer to a writer, or none -/
abbrev ptr (g : Nat) : Value := .pointer (some ⟨g, 0, none⟩)

set_option maxHeartbeats 800000 in
theorem wU32_any (g : Nat) (sv : Value) (l : List UInt8) (n : Nat) (w : World) (hW : Wr w g sv l) (hn : n < 4294967296) (hl : l.length ≤ 1000000000000) :
    Calls Tryd.prog 48 #[ptr g, .int .i64 n] w (Wrote g sv (l ++ num n 4) (.int .i64 0) w) := by
  have hsh : Op.shift .shr .i64 (n : Int) .u64 32 = pure (.int .i64 0) := by
    rw [shift_shr .i64 .u64 _ _ (by omega) (by show (32 : Int) ≤ 64; omega)]
    congr 2
    have : (2 : Int) ^ ((32 : Int).toNat) = 4294967296 := by rfl
    rw [this]; omega
  go_enter Tryd.func48, Tryd.ntmps48
  go_wp2_with fail
  refine (number_any g sv l n 4 _ hW (by omega) (by omega) hl).mono ?_
  rintro e w1 ⟨rfl, hM⟩
  go_wp2
  go_ret
  exact ⟨rfl, hM⟩

set_option maxHeartbeats 800000 in
theorem wU32_bad (g : Nat) (n : Int) (w : World) (hn : n < 0 ∨ 4294967296 ≤ n) (hi : -9223372036854775808 ≤ n ∧ n ≤ 9223372036854775807) :
    Calls Tryd.prog 48 #[ptr g, .int .i64 n] w fun e w' => e = .returned (.int .i64 3) ∧ w = w' := by
  have hsh : Op.shift .shr .i64 n .u64 32 = pure (.int .i64 (n / 4294967296)) := by
    rw [shift_shr .i64 .u64 _ _ (by omega) (by show (32 : Int) ≤ 64; omega)]
    rfl
  have hb : 0 ≤ n → ((n / 4294967296 != 0) = true) := fun h0 => by rw [bne_iff_ne]; omega
  rcases hn with hn | hn
  · go_enter Tryd.func48, Tryd.ntmps48
    go_wp2
    go_ret
    exact ⟨rfl, rfl⟩
  · have h0 : 0 ≤ n := by omega
    have hb' := hb h0
    go_enter Tryd.func48, Tryd.ntmps48
    go_wp2
    go_ret
    exact ⟨rfl, rfl⟩

theorem wU64_any (g : Nat) (sv : Value) (l : List UInt8) (n : Nat) (w : World) (hW : Wr w g sv l) (hn : (n : Int) ≤ 9223372036854775807) (hl : l.length ≤ 1000000000000) :
    Calls Tryd.prog 93 #[ptr g, .int .i64 n] w (Wrote g sv (l ++ num n 8) (.int .i64 0) w) := by
  go_enter Tryd.func93, Tryd.ntmps93
  go_wp2_with fail
  refine (number_any g sv l n 8 _ hW (by omega) (by omega) hl).mono ?_
  rintro e w1 ⟨rfl, hM⟩
  go_wp2
  go_ret
  exact ⟨rfl, hM⟩
theorem wU64_bad (g : Nat) (n : Int) (w : World) (hn : n < 0) :
    Calls Tryd.prog 93 #[ptr g, .int .i64 n] w fun e w' => e = .returned (.int .i64 3) ∧ w = w' := by
  go_enter Tryd.func93, Tryd.ntmps93
  go_wp2
  go_ret
  exact ⟨rfl, rfl⟩

theorem wBool_any (g : Nat) (sv : Value) (l : List UInt8) (b : Bool) (w : World) (hW : Wr w g sv l) (hl : l.length ≤ 1000000000000) :
    Calls Tryd.prog 133 #[ptr g, .bool b] w (Wrote g sv (l ++ truth b) (.int .i64 0) w) := by
  cases b
  · go_enter Tryd.func133, Tryd.ntmps133
    go_wp2_with fail
    refine (wU32_any g sv l 0 _ hW (by omega) hl).mono ?_
    rintro e w1 ⟨rfl, hM⟩
    go_wp2
    go_ret
    exact ⟨rfl, hM⟩
  · go_enter Tryd.func133, Tryd.ntmps133
    go_wp2_with fail
    refine (wU32_any g sv l 1 _ hW (by omega) hl).mono ?_
    rintro e w1 ⟨rfl, hM⟩
    go_wp2
    go_ret
    exact ⟨rfl, hM⟩
end Go.Proofs.YthfhdighniiodaaDoor


/-
  Layer 1, walks: a writer's texts and options, its bytes. Conditions: at most 2^40 bytes so far.
-/
namespace Go.Proofs.YthfhdighniiodaaDoor
open Go.RowKit
attribute [local go_sem ↓] Go.wp_at_zero Go.wp_at_succ

set_option maxRecDepth 20000 in
set_option maxHeartbeats 1600000 in
theorem wFixed_any (g : Nat) (sv : Value) (l s : List UInt8) (w : World) (hW : Wr w g sv l) (hs : s.length ≤ 1048576) (hl : l.length ≤ 1000000000000) :
    Calls Tryd.prog 85 #[ptr g, .string (bs s)] w (Wrote g sv (l ++ filled s) (.int .i64 0) w) := by
  obtain ⟨i0, hi0, hz0, hz1, hz2⟩ := info_parts infoU8
  have hsz := bs_size s
  have hc : w.cell? ⟨g, 0, none⟩ = some sv := hW.1.cell 0
  have hf := hW.1.frozen 0
  have hp := padn_lt s.length
  go_enter Tryd.func85, Tryd.ntmps85
  go_wp2_with (refine wpList_append_by (by rfl) (.tmp 16) (.tmp 17) #[85, 9] (by rfl) _ _ (by rfl) (by rfl) (run_append_bytes_at 0 85 9 _ 5 i0 Tryd.underlying85 Tryd.underlying9 hi0 hz0 hz1 hz2 sv l.length (l.map u8) hW.2 s (by omega) (Nat.zero_le _)) ?_; rintro sv1 w1 ⟨hown1, hgrow1, hat1, A1, c1, rfl⟩; have hB1 := (wr_row_ne hW (Below.refl _ _) hgrow1 hown1).1; have hc1 : w1.cell? ⟨g, 0, none⟩ = some sv := hB1.cell 0; have hf1 := hB1.frozen 0)
  have hM := moved_append (sv := sv) (m := s) hW (fun _ h => .inl h) (Touch.refl _ _) (Below.refl _ _) hgrow1 hown1 (fun k hk => by
    rcases hat1 with h | h
    · left; rw [← h]; exact hk
    · right; rw [h] at hk; simp at hk; omega)
  generalize hsv : Value.slice A1 (l.length + s.length) c1 = sv1 at *
  have HSV := Lib.hid hsv
  generalize w1.setCell ⟨g, 0, none⟩ sv1 = w2 at *
  obtain ⟨hW2, hrow2, hT2⟩ := hM
  have hc2 : w2.cell? ⟨g, 0, none⟩ = some sv1 := hW2.1.cell 0
  have hf2 := hW2.1.frozen 0
  clear hown1 hgrow1 hat1 hB1 hc1 hf1 hc hf hsv
  have HW2 := Lib.hid hW2
  have HR2 := Lib.hid hrow2
  clear hW2 hrow2
  go_region_law (first | (refine step_append_by (by rfl) (.tmp 25) (.tmp 28) #[85, 3] (by rfl) sv1 (.int .i64 (padn s.length)) (by simp [Act.eval]) (by simp [Act.eval]) (run_append_zeros_at 0 85 3 _ 5 i0 Tryd.underlying85 Tryd.underlying3 hi0 hz0 hz1 hz2 sv1 (l ++ s).length ((l ++ s).map u8) HW2.out.2.drew (padn s.length) (by simp; omega) (Nat.zero_le _)) ?_; rintro sv3 w3 ⟨hown3, hgrow3, hat3, A3, c3, rfl⟩; have hB3 := (wr_row_ne HW2.out ((Below.refl _ _).drew) hgrow3 hown3).1; have hc3 : w3.cell? ⟨g, 0, none⟩ = some sv1 := hB3.cell 0; have hf3 := hB3.frozen 0) | (go_simp; go_at_call 120; refine (pad_any _ _ (by omega)).mono ?_; rintro e w3 ⟨rfl, rfl⟩))
  all_goals
    have hM3 := moved_append (sv := sv) (m := List.replicate (padn s.length) 0) HW2.out HR2.out hT2 ((Below.refl _ _).drew) hgrow3 (by rw [← zcells_u8, List.length_replicate]; exact hown3) (fun k hk => by
      rcases hat3 with h | h
      · left; rw [← h]; exact hk
      · right; rw [h] at hk; simp at hk; simp; omega)
    go_wp2
    go_ret
    refine ⟨rfl, ?_⟩
    have e : l ++ filled s = l ++ s ++ List.replicate (padn s.length) 0 := by unfold filled; simp
    rw [e]
    simp only [List.length_append] at hM3
    exact ⟨_, hM3⟩

set_option maxHeartbeats 800000 in
theorem wOpaque_any (g : Nat) (sv : Value) (l s : List UInt8) (w : World) (hW : Wr w g sv l) (hs : s.length ≤ 1048576) (hl : l.length ≤ 999999999990) :
    Calls Tryd.prog 94 #[ptr g, .string (bs s)] w (Wrote g sv (l ++ opq s) (.int .i64 0) w) := by
  have hsz := bs_size s
  go_enter Tryd.func94, Tryd.ntmps94
  go_wp2_with fail
  refine (number_any g sv l s.length 4 _ hW (by omega) (by omega) (by omega)).mono ?_
  rintro e w1 ⟨rfl, sv1, hW1, hr1, hT1⟩
  have hR1 := Lib.hid hr1
  clear hr1
  go_wp2_with fail
  refine (wFixed_any g sv1 _ s _ hW1 hs (by simp [num_len]; omega)).mono ?_
  rintro e w2 ⟨rfl, hM⟩
  have HM := Lib.hid (Moved.next hR1.out hT1 hM)
  clear hM
  go_wp2
  go_ret
  exact ⟨rfl, by have := HM.out; rw [List.append_assoc] at this; exact this⟩

/-- an option's cells -/
theorem wOpt_any (g : Nat) (sv : Value) (l : List UInt8) (b : Bool) (n : Int) (w : World) (hW : Wr w g sv l) (hn : b = true → 0 ≤ n) (hi : n ≤ 9223372036854775807) (hl : l.length ≤ 999999999990) :
    Calls Tryd.prog 107 #[ptr g, .agg #[.bool b, .int .i64 n]] w (Wrote g sv (l ++ optB b n) (.int .i64 0) w) := by
  have hW0 := hW.alloc (.cells #[.bool b, .int .i64 n] 53)
  have hT0 : Touch (foot g sv) w (w.alloc (.cells #[.bool b, .int .i64 n] 53)) := (Touch.refl _ _).alloc _
  have hb0 : Blk (w.alloc (.cells #[.bool b, .int .i64 n] 53)) w.heap.size 53 [.bool b, .int .i64 n] := Blk.new _ _ _
  cases b
  · go_enter Tryd.func107, Tryd.ntmps107
    go_wp2_with fail
    refine (wBool_any g sv l false _ hW0 (by omega)).mono ?_
    rintro e w1 ⟨rfl, sv1, hW1, hr1, hT1⟩
    have hb1 := hW0.keeps hb0 (by decide) (by decide) hT1
    have hc1 := hb1.cell 0
    simp only [List.getElem?_cons_zero] at hc1
    have HM := Lib.hid (Moved.next (fun _ h => .inl h) hT0 ⟨sv1, hW1, hr1, hT1⟩)
    clear hr1
    go_wp2
    go_ret
    exact ⟨rfl, by unfold optB; simpa using HM.out⟩
  · have hn0 := hn rfl
    obtain ⟨m, rfl⟩ := Int.eq_ofNat_of_zero_le hn0
    go_enter Tryd.func107, Tryd.ntmps107
    go_wp2_with fail
    refine (wBool_any g sv l true _ hW0 (by omega)).mono ?_
    rintro e w1 ⟨rfl, sv1, hW1, hr1, hT1⟩
    have hb1 := hW0.keeps hb0 (by decide) (by decide) hT1
    have hc1 := hb1.cell 0
    have hc2 := hb1.cell 1
    simp only [List.getElem?_cons_zero, List.getElem?_cons_succ] at hc1 hc2
    have HR1 := Lib.hid hr1
    clear hr1
    go_wp2_with fail
    refine (wU64_any g sv1 _ m _ hW1 (by omega) (by simp [truth, num_len]; omega)).mono ?_
    rintro e w2 ⟨rfl, hM⟩
    have HM := Lib.hid (Moved.next (fun _ h => .inl h) hT0 (Moved.next HR1.out hT1 hM))
    clear hM
    go_wp2
    go_ret
    exact ⟨rfl, by unfold optB; have := HM.out; rw [List.append_assoc] at this; simpa using this⟩
theorem wOpt_bad (g : Nat) (n : Int) (w : World) (hn : n < 0) :
    Calls Tryd.prog 107 #[ptr g, .agg #[.bool true, .int .i64 n]] w fun e w' => e = .returned (.int .i64 3) ∧ Below w.heap.size w w' := by
  go_enter Tryd.func107, Tryd.ntmps107
  go_wp2
  go_ret
  exact ⟨rfl, (Below.refl _ _).alloc (Nat.le_refl _) _⟩

theorem wText_any (g : Nat) (sv : Value) (l : List UInt8) (w : World) (hW : Wr w g sv l) :
    Calls Tryd.prog 51 #[ptr g] w fun e w' => e = .returned (.string (bs l)) ∧ w = w' := by
  have hc : w.cell? ⟨g, 0, none⟩ = some sv := hW.1.cell 0
  have hcv := run_row_string (P := Tryd.prog) (dst := 9) Tryd.underlying85 Tryd.underlying5 Tryd.underlying9 hW.2
  go_enter Tryd.func51, Tryd.ntmps51
  go_wp2
  go_ret
  exact ⟨rfl, rfl⟩
end Go.Proofs.YthfhdighniiodaaDoor


/-
  Layer 1, walks: a thing's bytes by the reference; a thing put to a writer. Condition: texts of at most 2^20 bytes.
-/
namespace Go.Proofs.YthfhdighniiodaaDoor
open Go.RowKit
attribute [local go_sem ↓] Go.wp_at_zero Go.wp_at_succ

set_option maxHeartbeats 800000 in
theorem refOpt_any (b : Bool) (n : Int) (w : World) (hn : b = true → 0 ≤ n) (hi : n ≤ 9223372036854775807) :
    Calls Tryd.prog 82 #[.agg #[.bool b, .int .i64 n]] w fun e w' => e = .returned (.string (bs (optB b n))) ∧ Below w.heap.size w w' := by
  have hr := range_new w [.bool b, .int .i64 n] 53
  have hc0 := hr 0 _ rfl
  have hc1 := hr 1 _ rfl
  have hB0 : Below w.heap.size w (w.alloc (.cells #[.bool b, .int .i64 n] 53)) := (Below.refl _ _).alloc (Nat.le_refl _) _
  have hz1 : w.heap.size < (w.alloc (.cells #[.bool b, .int .i64 n] 53)).heap.size := by simp
  clear hr
  cases b
  · go_enter Tryd.func82, Tryd.ntmps82
    go_wp2_with fail
    refine (refTruth_any false _).mono ?_
    rintro e w2 ⟨rfl, hb⟩
    have hB := below_then hB0 hb
    go_wp2
    go_ret
    exact ⟨ret_string (by simp [optB]), hB⟩
  · obtain ⟨m, rfl⟩ := Int.eq_ofNat_of_zero_le (hn rfl)
    have hZ : (num m 8).length = 8 := num_len _ _
    have hZ2 : (truth true).length = 4 := num_len _ _
    have hs1 := bs_size (truth true)
    have hs2 := bs_size (num m 8)
    go_enter Tryd.func82, Tryd.ntmps82
    go_wp2_with fail
    generalize w.alloc (.cells #[.bool true, .int .i64 m] 53) = w1 at *
    go_region_held3 (fun W => Stb w1 W) (first | exact Stb.start | assumption | (exact Stb.alloc (by assumption) _) | (exact Stb.call (by assumption) (by assumption))) (first
      | (go_at_call 118; refine (refTruth_any true _).mono ?_; rintro e w2 ⟨rfl, hb⟩)
      | (go_at_call 62; refine (refNum_any m 8 _ (by omega) (by omega)).mono ?_; rintro e w3 ⟨rfl, hb3⟩))
    have hs3 : Stb w1 w3 := by assumption
    go_wp2
    go_ret
    exact ⟨ret_string (by simp [optB]), below_then hB0 hs3.below⟩

end Go.Proofs.YthfhdighniiodaaDoor


/-
  Layer 1, walks: a thing put to a writer; whether things are too many or too long; the fixed calls. Condition: texts of at most 2^20 bytes.
-/
namespace Go.Proofs.YthfhdighniiodaaDoor
open Go.RowKit
attribute [local go_sem ↓] Go.wp_at_zero Go.wp_at_succ

theorem refused {g : Nat} {sv : Value} {l : List UInt8} {B : Nat} {w w' : World} (hW : Wr w g sv l) (hb : Below B w w') (hB : w.heap.size ≤ B) : Moved g sv (l ++ []) w w' := by
  rw [List.append_nil]
  have hb' : Below w.heap.size w w' := hb.mono hB
  exact ⟨sv, hW.stays hb', fun _ e => .inl e, Touch.of_below hb' _⟩

end Go.Proofs.YthfhdighniiodaaDoor
