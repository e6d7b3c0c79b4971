/-
  Layer 8, walks of the document's own: which letters a procedure's results have. No condition.
-/
import Derived.Test.YtmkhpgpnahligaaP04
import Derived.Test.YtmkhpgpnahligaaProg
import Derived.Test.YtmkhpgpnahligaaP05
import Derived.Test.YtmkhpgpnahligaaP06
import Derived.Deep.RegionLaw
import Derived.Test.YtmkhpgpnahligaaP02
import Derived.Laws.RangeString
namespace Go.Proofs.Ytmkhpgpnahligaa
open Go.RowKit
attribute [local go_sem ↓] Go.wp_at_zero Go.wp_at_succ
attribute [local go_sem] rowAt_ptr rowOf_drew rowOf_drewN rowOf_alloc_past rowOf_new

def strsV (l : List (List UInt8)) : List Value := l.map fun s => .string (bs s)
theorem strsV_at {w : World} {h : Nat} {T : TypeId} {l : List (List UInt8)} (hB : Blk w h T (strsV l)) {k : Nat} (hk : k < l.length) : w.cell? ⟨h, k, none⟩ = some (.string (bs (l.getD k []))) := by
  rw [hB.cell]; simp [strsV, List.getD, hk]
theorem pFields_nat (k : Nat) (fine : Bool) : pFields (k : Int) fine = (lettersPQ fine).getD k [] := by
  unfold pFields; rw [if_neg (by omega), Int.toNat_natCast]

set_option maxRecDepth 20000 in
set_option maxHeartbeats 800000 in
theorem refFields8_any (p : Int) (fine : Bool) (w : World) : Calls Try.prog 14 #[.int .i64 p, .bool fine] w fun e w' => e = .returned (.string (bs (pFields p fine))) ∧ Below w.heap.size w w' := by
  have hP := Blk.new w 9 (strsV lettersP)
  have hB1 : Below w.heap.size w (w.alloc (.cells (strsV lettersP).toArray 9)) := (Below.refl _ _).alloc (Nat.le_refl _) _
  have hs1 : (w.alloc (.cells (strsV lettersP).toArray 9)).heap.size = w.heap.size + 1 := by simp
  obtain ⟨w1, hw1⟩ : ∃ u, u = w.alloc (.cells (strsV lettersP).toArray 9) := ⟨_, rfl⟩
  rw [← hw1] at hP hB1 hs1
  have hP2 := hP.alloc (.cells (strsV lettersQ).toArray 9)
  have hQ2 := Blk.new w1 9 (strsV lettersQ)
  rw [hs1] at hQ2
  have hB2 := hB1.alloc hB1.size (.cells (strsV lettersQ).toArray 9)
  obtain ⟨w2, hw2⟩ : ∃ u, u = w1.alloc (.cells (strsV lettersQ).toArray 9) := ⟨_, rfl⟩
  rw [← hw2] at hP2 hQ2 hB2
  have hcP := fun k hk => strsV_at hP2 (k := k) hk
  have hcQ := fun k hk => strsV_at hQ2 (k := k) hk
  have HW := Lib.hid (And.intro hw1 hw2)
  have HB := Lib.hid hB2
  clear hP hB1 hs1 hw1 hw2 hP2 hQ2 hB2
  go_enter Try.func14, Try.ntmps14
  go_upto_region 3 with fail
  change Code.wp _ _ _ _ ((w.alloc (.cells (strsV lettersP).toArray 9)).alloc (.cells (strsV lettersQ).toArray 9))
  rw [← HW.out.1, ← HW.out.2]
  clear HW
  by_cases h1 : p < 0
  · have HV := Lib.hid (pFields_low (fine := fine) h1)
    clear hcP hcQ
    go_wp2
    go_ret
    rw [HV.out]
    exact ⟨rfl, HB.out⟩
  · by_cases h2 : 22 ≤ p
    · have HV := Lib.hid (pFields_high (fine := fine) h2)
      clear hcP hcQ
      go_wp2
      go_ret
      rw [HV.out]
      exact ⟨rfl, HB.out⟩
    · obtain ⟨k, rfl⟩ : ∃ k : Nat, p = k := ⟨p.toNat, by omega⟩
      have hk0 : (0 : Int) ≤ (k : Int) := Int.natCast_nonneg _
      have hk1 : (k : Int) < 22 := by omega
      have hcp := hcP k (show k < 22 by omega)
      have hcq := hcQ k (show k < 22 by omega)
      cases fine with
      | true =>
        have HV := Lib.hid (show pFields (k : Int) true = lettersP.getD k [] from pFields_nat k true)
        generalize lettersP.getD k [] = l at *
        clear hcP hcQ hcq
        go_wp2
        go_ret
        rw [HV.out]
        exact ⟨rfl, HB.out⟩
      | false =>
        have HV := Lib.hid (show pFields (k : Int) false = lettersQ.getD k [] from pFields_nat k false)
        generalize lettersQ.getD k [] = l at *
        clear hcP hcQ hcp
        go_wp2
        go_ret
        rw [HV.out]
        exact ⟨rfl, HB.out⟩
end Go.Proofs.Ytmkhpgpnahligaa

/-
  Layer 1, walks: the reference's bytes of numbers and texts; what fills up. Conditions: numbers from 0 on; texts below 2^40 bytes.
-/
namespace Go.Proofs.Ytmkhpgpnahligaa
open Go.RowKit
attribute [local go_sem ↓] Go.wp_at_zero Go.wp_at_succ

set_option maxHeartbeats 400000 in
theorem pad_any (n : Int) (w : World) (hn : n ≤ 9223372036854775807) :
    Calls Try.prog 80 #[.int .i64 n] w fun e w' => e = .returned (.int .i64 (padn n.toNat)) ∧ w = w' := by
  by_cases h : n < 1
  · have hr := Lib.hid (show padn n.toNat = 0 by rw [show n.toNat = 0 by omega]; rfl)
    go_enter Try.func80, Try.ntmps80
    go_wp2
    go_ret
    exact ⟨ret_int (by rw [hr.out]; rfl), rfl⟩
  · have hr := Lib.hid (show (padn n.toNat : Int) = (4 - n % 4) % 4 by unfold padn; omega)
    go_enter Try.func80, Try.ntmps80
    go_wp2
    go_ret
    exact ⟨ret_int (by have := hr.out; omega), rfl⟩

theorem one_string (x : Int) (W : World) : (convert 75 9 (.slice (some ⟨W.heap.size, 0, none⟩) 1 1)).run Try.prog (W.alloc (.cells #[.int .u8 x] 5)) = .ok (.string (bs [UInt8.ofNat x.toNat])) (W.alloc (.cells #[.int .u8 x] 5)) :=
  run_one_string Try.underlying75 Try.underlying5 Try.underlying9 x W
attribute [local go_sem] one_string

theorem ret_string {a b : List UInt8} (h : a = b) : Ending.returned (.string (bs a)) = .returned (.string (bs b)) := by rw [h]

theorem filled_step {l m : List UInt8} (h : filled l = filled m) (hn : m.length % 4 ≠ 0) : filled l = filled (m ++ [0]) := by
  rw [h]
  unfold filled
  have : padn m.length = padn (m ++ [0]).length + 1 := by simp [padn]; omega
  rw [this, List.append_assoc]
  rfl
theorem filled_end {m : List UInt8} (hn : m.length % 4 = 0) : filled m = m := by
  unfold filled
  rw [show padn m.length = 0 by unfold padn; omega]
  simp

end Go.Proofs.Ytmkhpgpnahligaa


/-
  Layer 1, walks: a writer's number. Conditions: a number from 0 on, in 4 or 8 bytes; at most 2^40 bytes so far.
-/
namespace Go.Proofs.Ytmkhpgpnahligaa
open Go.RowKit
attribute [local go_sem ↓] Go.wp_at_zero Go.wp_at_succ

theorem infoU8 : (Try.prog.info? 5).map (fun i => (i.zero, i.size, i.bytes)) = some (some (.int .u8 0), 1, 1) := by kernel_rfl

set_option maxRecDepth 20000 in
set_option maxHeartbeats 1600000 in
theorem number_any (g : Nat) (sv : Value) (l : List UInt8) (n k : Nat) (w : World) (hW : Wr w g sv l) (_hn : (n : Int) ≤ 9223372036854775807) (hk : k ≤ 8) (hl : l.length ≤ 1000000000000) :
    Calls Try.prog 46 #[.pointer (some ⟨g, 0, none⟩), .int .i64 n, .int .i64 k] w (Wrote g sv (l ++ num n k) (.tuple #[]) w) := by
  obtain ⟨i0, hi0, hz0, hz1, hz2⟩ := info_parts infoU8
  go_enter Try.func46, Try.ntmps46
  go_wp2
  go_loopg [6] k (fun m i wr => i = .int .i64 ((m : Int) - 1) ∧ m ≤ k ∧ Moved g sv (l ++ (num n k).take (k - m)) w wr)
  case atStart => exact ⟨rfl, Nat.le_refl _, by simpa using Moved.refl hW⟩
  case round =>
    obtain ⟨rfl, hm, hM⟩ := hrel
    by_cases h0 : gk = 0
    · subst h0
      have HM := Lib.hid hM
      clear hM
      go_wp2
      go_end0
      exact ⟨rfl, by have := HM.out; rw [Nat.sub_zero, List.take_of_length_le (by rw [num_len]; omega)] at this; exact this⟩
    · obtain ⟨sv1, hW1, hrow, hT⟩ := hM
      have hm1 : 1 ≤ gk := by omega
      have hlen : (l ++ (num n k).take (k - gk)).length ≤ 1000000000100 := by simp [num_len]; omega
      have HN := Lib.hid (num_take n k gk hm1 hm)
      generalize hl1 : (l ++ (num n k).take (k - gk)) = l1 at *
      have HL := Lib.hid hl1
      clear hl1
      have HR := Lib.hid hrow
      clear hrow
      have hc := (hW1.1.cell 0)
      simp only [List.getElem?_cons_zero] at hc
      have hf := hW1.1.frozen 0
      have hsh := shr_byte n gk hm1 (by omega)
      generalize n / 256 ^ (gk - 1) = b at *
      have hcv := u8_wrap b
      have hOwn := Lib.hid hW1.2
      have hBlk := Lib.hid hW1.1
      go_wp2_with fail
      have hLen := Lib.hid hlen
      have hglt := hW1.1.lt
      clear hlen hW1 hl
      go_region_law ((refine step_append_lies _ (by rfl) (.tmp 17) (.tmp 23) 75 (by rfl) 0 5 i0 _ 1 1 Try.underlying75 hi0 hz0 hz1 hz2 rfl (by omega) sv1 l1.length (l1.map u8) (by simp [Act.eval]) ((hOwn.out.alloc _).drew) ⟨wr.heap.size, 0, none⟩ 1 1 [u8 (UInt8.ofNat b)] (by simp [Act.eval]) rfl (cell_one_new _ _ _) (u8_one [UInt8.ofNat b]) (by omega) (by have := hLen.out; unfold maxLen; omega) (by have := hLen.out; omega) (Nat.zero_le _) (wr.heap.size + 1) (by simp) ?_; intro g1 cap w1 hown1 hgrow1 hat1 hlt1; have hB1 := (wr_row_ne ⟨hBlk.out, hOwn.out⟩ (((Below.refl _ _).alloc (Nat.le_refl _) _).drew) hgrow1 hown1).1; have hc1 : w1.cell? ⟨g, 0, none⟩ = some sv1 := hB1.cell 0; have hf1 := hB1.frozen 0))
      all_goals
        go_wp2
        go_roundg (gk - 1)
        case measure => omega
        case rel =>
          refine ⟨by go_num, by omega, ?_⟩
          rw [HN.out, ← List.append_assoc]
          rw [HL.out]
          exact ⟨_, moved_append (m := [UInt8.ofNat b]) ⟨hBlk.out, hOwn.out⟩ HR.out hT (((Below.refl _ _).alloc (Nat.le_refl _) _).drew) hgrow1 hown1 (fun k hk => by
            have hk' : g1 = k := by simpa [Value.ownBlock] using hk
            rcases hat1 with h | h
            · left; rw [h, hk']
            · right; simp; omega)⟩

/-- a pointer to a writer, or none -/
abbrev ptr (g : Nat) : Value := .pointer (some ⟨g, 0, none⟩)

set_option maxHeartbeats 800000 in
theorem wU32_any (g : Nat) (sv : Value) (l : List UInt8) (n : Nat) (w : World) (hW : Wr w g sv l) (hn : n < 4294967296) (hl : l.length ≤ 1000000000000) :
    Calls Try.prog 39 #[ptr g, .int .i64 n] w (Wrote g sv (l ++ num n 4) (.int .i64 0) w) := by
  have hsh : Op.shift .shr .i64 (n : Int) .u64 32 = pure (.int .i64 0) := by
    rw [shift_shr .i64 .u64 _ _ (by omega) (by show (32 : Int) ≤ 64; omega)]
    congr 2
    have : (2 : Int) ^ ((32 : Int).toNat) = 4294967296 := by rfl
    rw [this]; omega
  go_enter Try.func39, Try.ntmps39
  go_wp2_with fail
  refine (number_any g sv l n 4 _ hW (by omega) (by omega) hl).mono ?_
  rintro e w1 ⟨rfl, hM⟩
  go_wp2
  go_ret
  exact ⟨rfl, hM⟩

set_option maxHeartbeats 800000 in
theorem wU32_bad (g : Nat) (n : Int) (w : World) (hn : n < 0 ∨ 4294967296 ≤ n) (hi : -9223372036854775808 ≤ n ∧ n ≤ 9223372036854775807) :
    Calls Try.prog 39 #[ptr g, .int .i64 n] w fun e w' => e = .returned (.int .i64 3) ∧ w = w' := by
  have hsh : Op.shift .shr .i64 n .u64 32 = pure (.int .i64 (n / 4294967296)) := by
    rw [shift_shr .i64 .u64 _ _ (by omega) (by show (32 : Int) ≤ 64; omega)]
    rfl
  have hb : 0 ≤ n → ((n / 4294967296 != 0) = true) := fun h0 => by rw [bne_iff_ne]; omega
  rcases hn with hn | hn
  · go_enter Try.func39, Try.ntmps39
    go_wp2
    go_ret
    exact ⟨rfl, rfl⟩
  · have h0 : 0 ≤ n := by omega
    have hb' := hb h0
    go_enter Try.func39, Try.ntmps39
    go_wp2
    go_ret
    exact ⟨rfl, rfl⟩

theorem wU64_any (g : Nat) (sv : Value) (l : List UInt8) (n : Nat) (w : World) (hW : Wr w g sv l) (hn : (n : Int) ≤ 9223372036854775807) (hl : l.length ≤ 1000000000000) :
    Calls Try.prog 50 #[ptr g, .int .i64 n] w (Wrote g sv (l ++ num n 8) (.int .i64 0) w) := by
  go_enter Try.func50, Try.ntmps50
  go_wp2_with fail
  refine (number_any g sv l n 8 _ hW (by omega) (by omega) hl).mono ?_
  rintro e w1 ⟨rfl, hM⟩
  go_wp2
  go_ret
  exact ⟨rfl, hM⟩
theorem wU64_bad (g : Nat) (n : Int) (w : World) (hn : n < 0) :
    Calls Try.prog 50 #[ptr g, .int .i64 n] w fun e w' => e = .returned (.int .i64 3) ∧ w = w' := by
  go_enter Try.func50, Try.ntmps50
  go_wp2
  go_ret
  exact ⟨rfl, rfl⟩

theorem wBool_any (g : Nat) (sv : Value) (l : List UInt8) (b : Bool) (w : World) (hW : Wr w g sv l) (hl : l.length ≤ 1000000000000) :
    Calls Try.prog 51 #[ptr g, .bool b] w (Wrote g sv (l ++ truth b) (.int .i64 0) w) := by
  cases b
  · go_enter Try.func51, Try.ntmps51
    go_wp2_with fail
    refine (wU32_any g sv l 0 _ hW (by omega) hl).mono ?_
    rintro e w1 ⟨rfl, hM⟩
    go_wp2
    go_ret
    exact ⟨rfl, hM⟩
  · go_enter Try.func51, Try.ntmps51
    go_wp2_with fail
    refine (wU32_any g sv l 1 _ hW (by omega) hl).mono ?_
    rintro e w1 ⟨rfl, hM⟩
    go_wp2
    go_ret
    exact ⟨rfl, hM⟩
end Go.Proofs.Ytmkhpgpnahligaa


/-
  Layer 1, walks: a writer's texts and options, its bytes. Conditions: at most 2^40 bytes so far.
-/
namespace Go.Proofs.Ytmkhpgpnahligaa
open Go.RowKit
attribute [local go_sem ↓] Go.wp_at_zero Go.wp_at_succ

set_option maxRecDepth 20000 in
set_option maxHeartbeats 1600000 in
theorem wFixed_any (g : Nat) (sv : Value) (l s : List UInt8) (w : World) (hW : Wr w g sv l) (hs : s.length ≤ 1048576) (hl : l.length ≤ 1000000000000) :
    Calls Try.prog 70 #[ptr g, .string (bs s)] w (Wrote g sv (l ++ filled s) (.int .i64 0) w) := by
  obtain ⟨i0, hi0, hz0, hz1, hz2⟩ := info_parts infoU8
  have hsz := bs_size s
  have hc : w.cell? ⟨g, 0, none⟩ = some sv := hW.1.cell 0
  have hf := hW.1.frozen 0
  have hp := padn_lt s.length
  go_enter Try.func70, Try.ntmps70
  go_wp2_with (refine wpList_append_by (by rfl) (.tmp 16) (.tmp 17) #[75, 9] (by rfl) _ _ (by rfl) (by rfl) (run_append_bytes_at 0 75 9 _ 5 i0 Try.underlying75 Try.underlying9 hi0 hz0 hz1 hz2 sv l.length (l.map u8) hW.2 s (by omega) (Nat.zero_le _)) ?_; rintro sv1 w1 ⟨hown1, hgrow1, hat1, A1, c1, rfl⟩; have hB1 := (wr_row_ne hW (Below.refl _ _) hgrow1 hown1).1; have hc1 : w1.cell? ⟨g, 0, none⟩ = some sv := hB1.cell 0; have hf1 := hB1.frozen 0)
  have hM := moved_append (sv := sv) (m := s) hW (fun _ h => .inl h) (Touch.refl _ _) (Below.refl _ _) hgrow1 hown1 (fun k hk => by
    rcases hat1 with h | h
    · left; rw [← h]; exact hk
    · right; rw [h] at hk; simp at hk; omega)
  generalize hsv : Value.slice A1 (l.length + s.length) c1 = sv1 at *
  have HSV := Lib.hid hsv
  generalize w1.setCell ⟨g, 0, none⟩ sv1 = w2 at *
  obtain ⟨hW2, hrow2, hT2⟩ := hM
  have hc2 : w2.cell? ⟨g, 0, none⟩ = some sv1 := hW2.1.cell 0
  have hf2 := hW2.1.frozen 0
  clear hown1 hgrow1 hat1 hB1 hc1 hf1 hc hf hsv
  have HW2 := Lib.hid hW2
  have HR2 := Lib.hid hrow2
  clear hW2 hrow2
  go_region_law (first | (refine step_append_by (by rfl) (.tmp 25) (.tmp 28) #[75, 3] (by rfl) sv1 (.int .i64 (padn s.length)) (by simp [Act.eval]) (by simp [Act.eval]) (run_append_zeros_at 0 75 3 _ 5 i0 Try.underlying75 Try.underlying3 hi0 hz0 hz1 hz2 sv1 (l ++ s).length ((l ++ s).map u8) HW2.out.2.drew (padn s.length) (by simp; omega) (Nat.zero_le _)) ?_; rintro sv3 w3 ⟨hown3, hgrow3, hat3, A3, c3, rfl⟩; have hB3 := (wr_row_ne HW2.out ((Below.refl _ _).drew) hgrow3 hown3).1; have hc3 : w3.cell? ⟨g, 0, none⟩ = some sv1 := hB3.cell 0; have hf3 := hB3.frozen 0) | (go_simp; go_at_call 80; refine (pad_any _ _ (by omega)).mono ?_; rintro e w3 ⟨rfl, rfl⟩))
  all_goals
    have hM3 := moved_append (sv := sv) (m := List.replicate (padn s.length) 0) HW2.out HR2.out hT2 ((Below.refl _ _).drew) hgrow3 (by rw [← zcells_u8, List.length_replicate]; exact hown3) (fun k hk => by
      rcases hat3 with h | h
      · left; rw [← h]; exact hk
      · right; rw [h] at hk; simp at hk; simp; omega)
    go_wp2
    go_ret
    refine ⟨rfl, ?_⟩
    have e : l ++ filled s = l ++ s ++ List.replicate (padn s.length) 0 := by unfold filled; simp
    rw [e]
    simp only [List.length_append] at hM3
    exact ⟨_, hM3⟩

set_option maxHeartbeats 800000 in
theorem wOpaque_any (g : Nat) (sv : Value) (l s : List UInt8) (w : World) (hW : Wr w g sv l) (hs : s.length ≤ 1048576) (hl : l.length ≤ 999999999990) :
    Calls Try.prog 47 #[ptr g, .string (bs s)] w (Wrote g sv (l ++ opq s) (.int .i64 0) w) := by
  have hsz := bs_size s
  go_enter Try.func47, Try.ntmps47
  go_wp2_with fail
  refine (number_any g sv l s.length 4 _ hW (by omega) (by omega) (by omega)).mono ?_
  rintro e w1 ⟨rfl, sv1, hW1, hr1, hT1⟩
  have hR1 := Lib.hid hr1
  clear hr1
  go_wp2_with fail
  refine (wFixed_any g sv1 _ s _ hW1 hs (by simp [num_len]; omega)).mono ?_
  rintro e w2 ⟨rfl, hM⟩
  have HM := Lib.hid (Moved.next hR1.out hT1 hM)
  clear hM
  go_wp2
  go_ret
  exact ⟨rfl, by have := HM.out; rw [List.append_assoc] at this; exact this⟩

/-- an option's cells -/
theorem wOpt_any (g : Nat) (sv : Value) (l : List UInt8) (b : Bool) (n : Int) (w : World) (hW : Wr w g sv l) (hn : b = true → 0 ≤ n) (hi : n ≤ 9223372036854775807) (hl : l.length ≤ 999999999990) :
    Calls Try.prog 74 #[ptr g, .agg #[.bool b, .int .i64 n]] w (Wrote g sv (l ++ optB b n) (.int .i64 0) w) := by
  have hW0 := hW.alloc (.cells #[.bool b, .int .i64 n] 41)
  have hT0 : Touch (foot g sv) w (w.alloc (.cells #[.bool b, .int .i64 n] 41)) := (Touch.refl _ _).alloc _
  have hb0 : Blk (w.alloc (.cells #[.bool b, .int .i64 n] 41)) w.heap.size 41 [.bool b, .int .i64 n] := Blk.new _ _ _
  cases b
  · go_enter Try.func74, Try.ntmps74
    go_wp2_with fail
    refine (wBool_any g sv l false _ hW0 (by omega)).mono ?_
    rintro e w1 ⟨rfl, sv1, hW1, hr1, hT1⟩
    have hb1 := hW0.keeps hb0 (by decide) (by decide) hT1
    have hc1 := hb1.cell 0
    simp only [List.getElem?_cons_zero] at hc1
    have HM := Lib.hid (Moved.next (fun _ h => .inl h) hT0 ⟨sv1, hW1, hr1, hT1⟩)
    clear hr1
    go_wp2
    go_ret
    exact ⟨rfl, by unfold optB; simpa using HM.out⟩
  · have hn0 := hn rfl
    obtain ⟨m, rfl⟩ := Int.eq_ofNat_of_zero_le hn0
    go_enter Try.func74, Try.ntmps74
    go_wp2_with fail
    refine (wBool_any g sv l true _ hW0 (by omega)).mono ?_
    rintro e w1 ⟨rfl, sv1, hW1, hr1, hT1⟩
    have hb1 := hW0.keeps hb0 (by decide) (by decide) hT1
    have hc1 := hb1.cell 0
    have hc2 := hb1.cell 1
    simp only [List.getElem?_cons_zero, List.getElem?_cons_succ] at hc1 hc2
    have HR1 := Lib.hid hr1
    clear hr1
    go_wp2_with fail
    refine (wU64_any g sv1 _ m _ hW1 (by omega) (by simp [truth, num_len]; omega)).mono ?_
    rintro e w2 ⟨rfl, hM⟩
    have HM := Lib.hid (Moved.next (fun _ h => .inl h) hT0 (Moved.next HR1.out hT1 hM))
    clear hM
    go_wp2
    go_ret
    exact ⟨rfl, by unfold optB; have := HM.out; rw [List.append_assoc] at this; simpa using this⟩
theorem wOpt_bad (g : Nat) (n : Int) (w : World) (hn : n < 0) :
    Calls Try.prog 74 #[ptr g, .agg #[.bool true, .int .i64 n]] w fun e w' => e = .returned (.int .i64 3) ∧ Below w.heap.size w w' := by
  go_enter Try.func74, Try.ntmps74
  go_wp2
  go_ret
  exact ⟨rfl, (Below.refl _ _).alloc (Nat.le_refl _) _⟩

theorem wText_any (g : Nat) (sv : Value) (l : List UInt8) (w : World) (hW : Wr w g sv l) :
    Calls Try.prog 41 #[ptr g] w fun e w' => e = .returned (.string (bs l)) ∧ w = w' := by
  have hc : w.cell? ⟨g, 0, none⟩ = some sv := hW.1.cell 0
  have hcv := run_row_string (P := Try.prog) (dst := 9) Try.underlying75 Try.underlying5 Try.underlying9 hW.2
  go_enter Try.func41, Try.ntmps41
  go_wp2
  go_ret
  exact ⟨rfl, rfl⟩
end Go.Proofs.Ytmkhpgpnahligaa


/-
  A text that is ranged over, its iterator anywhere in memory: plain letters alone (below 128). No other condition.
-/
namespace Go.Proofs.Ytmkhpgpnahligaa
open Go.RowKit

/-- block b is the iterator of a text, at a place -/
def Itr (w : World) (b : Nat) (l : List UInt8) (pos : Nat) : Prop := w.heap[b]? = some (.stringIter (bs l) pos)
/-- an iterator is set to a place -/
def _root_.Go.World.setIter (w : World) (b : Nat) (l : List UInt8) (pos : Nat) : World := { w with heap := w.heap.setIfInBounds b (.stringIter (bs l) pos) }
section
variable {w w' : World} {b : Nat} {l : List UInt8} {pos : Nat}
theorem Itr.lt (h : Itr w b l pos) : b < w.heap.size := by
  rcases Nat.lt_or_ge b w.heap.size with hlt | hge
  · exact hlt
  · unfold Itr at h; rw [Array.getElem?_eq_none hge] at h; cases h
theorem Itr.new (w : World) (l : List UInt8) : Itr (w.iter (bs l) 0) w.heap.size l 0 := World.iter_heap w (bs l) 0
theorem Itr.below {B : Nat} (h : Itr w b l pos) (hb : Below B w w') (hg : b < B) : Itr w' b l pos := (hb.block b hg).trans h
theorem Itr.stays (h : Itr w b l pos) (hb : Below w.heap.size w w') : Itr w' b l pos := h.below hb h.lt
theorem Itr.touch {F : Nat → Prop} (h : Itr w b l pos) (hb : Touch F w w') (hn : ¬ F b) : Itr w' b l pos := (hb.block b h.lt hn).trans h
theorem Itr.set_ (h : Itr w b l pos) (p : Nat) : Itr (w.setIter b l p) b l p := by
  have hl := h.lt
  unfold Itr World.setIter
  simp [hl]
theorem heap_setIter (w : World) (b : Nat) (l : List UInt8) (p k : Nat) (h : k ≠ b) : (w.setIter b l p).heap[k]? = w.heap[k]? := by
  unfold World.setIter
  simp [Ne.symm h]
theorem Below.setIter {B : Nat} {a : World} (h : Below B a w) (hb : B ≤ b) (l : List UInt8) (p : Nat) : Below B a (w.setIter b l p) :=
  ⟨h.os, h.tape, h.output, by have := h.size; simpa [World.setIter] using this, fun k hk => (heap_setIter w b l p k (by omega)).trans (h.block k hk)⟩
theorem Blk.farIter {g : Nat} {T : TypeId} {cs : List Value} (h : Blk w g T cs) (hg : g ≠ b) (l : List UInt8) (p : Nat) : Blk (w.setIter b l p) g T cs := (heap_setIter w b l p g hg).trans h
theorem Touch.setIter {F : Nat → Prop} {a : World} (h : Touch F a w) (hb : F b ∨ a.heap.size ≤ b) (l : List UInt8) (p : Nat) : Touch F a (w.setIter b l p) :=
  ⟨h.os, h.tape, h.output, by have := h.size; simpa [World.setIter] using this, fun k hk hn => (heap_setIter w b l p k (fun e => by subst e; rcases hb with hb | hb; exact hn hb; omega)).trans (h.block k hk hn)⟩
variable {P : Program}
theorem run_next_itr (h : Itr w b l pos) (hp : pos < l.length) (ha : l[pos].toNat < 128) (ty : TypeId) :
    (Instr.next (.pointer (some ⟨b, 0, none⟩)) true ty).run P w = .ok (.tuple #[.bool true, .int .i64 pos, .int .i32 l[pos].toNat]) (w.setIter b l (pos + 1)) := by
  have hd := decode_ascii (bs l) pos hp ha
  have hs : pos < (bs l).size := hp
  unfold Itr at h
  simp only [Instr.next, getObj, setObj, Sem.run_bind, Sem.run, h, Result.andThen, hs, if_true, hd]
  simp [goInt, World.setIter, bs_get]
theorem run_next_itr_end (h : Itr w b l pos) (hp : ¬ pos < l.length) (ty : TypeId) :
    (Instr.next (.pointer (some ⟨b, 0, none⟩)) true ty).run P w = .ok (.tuple #[.bool false]) w := by
  have hs : ¬ pos < (bs l).size := hp
  unfold Itr at h
  simp [Instr.next, getObj, Sem.run, h, hs]
end
end Go.Proofs.Ytmkhpgpnahligaa
