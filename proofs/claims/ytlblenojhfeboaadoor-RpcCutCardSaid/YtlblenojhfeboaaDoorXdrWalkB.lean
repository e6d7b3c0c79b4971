/-
  Layer 1, walks: a writer's number. Conditions: a number from 0 on, in 4 or 8 bytes; at most 2^40 bytes so far.
-/
import Derived.Test.YtlblenojhfeboaaDoorXdrMem
import Derived.Test.YtlblenojhfeboaaDoorXdrWalkA
import Derived.Deep.RegionLaw
namespace Go.Proofs.YtlblenojhfeboaaDoor
open Go.RowKit
attribute [local go_sem ↓] Go.wp_at_zero Go.wp_at_succ

theorem infoU8 : (Tryd.prog.info? 5).map (fun i => (i.zero, i.size, i.bytes)) = some (some (.int .u8 0), 1, 1) := by kernel_rfl

set_option maxRecDepth 20000 in
set_option maxHeartbeats 1600000 in
theorem number_any (g : Nat) (sv : Value) (l : List UInt8) (n k : Nat) (w : World) (hW : Wr w g sv l) (_hn : (n : Int) ≤ 9223372036854775807) (hk : k ≤ 8) (hl : l.length ≤ 1000000000000) :
    Calls Tryd.prog 73 #[.pointer (some ⟨g, 0, none⟩), .int .i64 n, .int .i64 k] w (Wrote g sv (l ++ num n k) (.tuple #[]) w) := by
  obtain ⟨i0, hi0, hz0, hz1, hz2⟩ := info_parts infoU8
  go_enter Tryd.func73, Tryd.ntmps73
  go_wp2
  go_loopg [6] k (fun m i wr => i = .int .i64 ((m : Int) - 1) ∧ m ≤ k ∧ Moved g sv (l ++ (num n k).take (k - m)) w wr)
  case atStart => exact ⟨rfl, Nat.le_refl _, by simpa using Moved.refl hW⟩
  case round =>
    obtain ⟨rfl, hm, hM⟩ := hrel
    by_cases h0 : gk = 0
    · subst h0
      have HM := Lib.hid hM
      clear hM
      go_wp2
      go_end0
      exact ⟨rfl, by have := HM.out; rw [Nat.sub_zero, List.take_of_length_le (by rw [num_len]; omega)] at this; exact this⟩
    · obtain ⟨sv1, hW1, hrow, hT⟩ := hM
      have hm1 : 1 ≤ gk := by omega
      have hlen : (l ++ (num n k).take (k - gk)).length ≤ 1000000000100 := by simp [num_len]; omega
      have HN := Lib.hid (num_take n k gk hm1 hm)
      generalize hl1 : (l ++ (num n k).take (k - gk)) = l1 at *
      have HL := Lib.hid hl1
      clear hl1
      have HR := Lib.hid hrow
      clear hrow
      have hc := (hW1.1.cell 0)
      simp only [List.getElem?_cons_zero] at hc
      have hf := hW1.1.frozen 0
      have hsh := shr_byte n gk hm1 (by omega)
      generalize n / 256 ^ (gk - 1) = b at *
      have hcv := u8_wrap b
      have hOwn := Lib.hid hW1.2
      have hBlk := Lib.hid hW1.1
      go_wp2_with fail
      have hLen := Lib.hid hlen
      have hglt := hW1.1.lt
      clear hlen hW1 hl
      go_region_law ((refine step_append_lies _ (by rfl) (.tmp 17) (.tmp 23) 59 (by rfl) 0 5 i0 _ 1 1 Tryd.underlying59 hi0 hz0 hz1 hz2 rfl (by omega) sv1 l1.length (l1.map u8) (by simp [Act.eval]) ((hOwn.out.alloc _).drew) ⟨wr.heap.size, 0, none⟩ 1 1 [u8 (UInt8.ofNat b)] (by simp [Act.eval]) rfl (cell_one_new _ _ _) (u8_one [UInt8.ofNat b]) (by omega) (by have := hLen.out; unfold maxLen; omega) (by have := hLen.out; omega) (Nat.zero_le _) (wr.heap.size + 1) (by simp) ?_; intro g1 cap w1 hown1 hgrow1 hat1 hlt1; have hB1 := (wr_row_ne ⟨hBlk.out, hOwn.out⟩ (((Below.refl _ _).alloc (Nat.le_refl _) _).drew) hgrow1 hown1).1; have hc1 : w1.cell? ⟨g, 0, none⟩ = some sv1 := hB1.cell 0; have hf1 := hB1.frozen 0))
      all_goals
        go_wp2
        go_roundg (gk - 1)
        case measure => omega
        case rel =>
          refine ⟨by go_num, by omega, ?_⟩
          rw [HN.out, ← List.append_assoc]
          rw [HL.out]
          exact ⟨_, moved_append (m := [UInt8.ofNat b]) ⟨hBlk.out, hOwn.out⟩ HR.out hT (((Below.refl _ _).alloc (Nat.le_refl _) _).drew) hgrow1 hown1 (fun k hk => by
            have hk' : g1 = k := by simpa [Value.ownBlock] using hk
            rcases hat1 with h | h
            · left; rw [h, hk']
            · right; simp; omega)⟩

/-- a pointer to a writer, or none -/
abbrev ptr (g : Nat) : Value := .pointer (some ⟨g, 0, none⟩)

set_option maxHeartbeats 800000 in
theorem wU32_any (g : Nat) (sv : Value) (l : List UInt8) (n : Nat) (w : World) (hW : Wr w g sv l) (hn : n < 4294967296) (hl : l.length ≤ 1000000000000) :
    Calls Tryd.prog 57 #[ptr g, .int .i64 n] w (Wrote g sv (l ++ num n 4) (.int .i64 0) w) := by
  have hsh : Op.shift .shr .i64 (n : Int) .u64 32 = pure (.int .i64 0) := by
    rw [shift_shr .i64 .u64 _ _ (by omega) (by show (32 : Int) ≤ 64; omega)]
    congr 2
    have : (2 : Int) ^ ((32 : Int).toNat) = 4294967296 := by rfl
    rw [this]; omega
  go_enter Tryd.func57, Tryd.ntmps57
  go_wp2_with fail
  refine (number_any g sv l n 4 _ hW (by omega) (by omega) hl).mono ?_
  rintro e w1 ⟨rfl, hM⟩
  go_wp2
  go_ret
  exact ⟨rfl, hM⟩

set_option maxHeartbeats 800000 in
theorem wU32_bad (g : Nat) (n : Int) (w : World) (hn : n < 0 ∨ 4294967296 ≤ n) (hi : -9223372036854775808 ≤ n ∧ n ≤ 9223372036854775807) :
    Calls Tryd.prog 57 #[ptr g, .int .i64 n] w fun e w' => e = .returned (.int .i64 3) ∧ w = w' := by
  have hsh : Op.shift .shr .i64 n .u64 32 = pure (.int .i64 (n / 4294967296)) := by
    rw [shift_shr .i64 .u64 _ _ (by omega) (by show (32 : Int) ≤ 64; omega)]
    rfl
  have hb : 0 ≤ n → ((n / 4294967296 != 0) = true) := fun h0 => by rw [bne_iff_ne]; omega
  rcases hn with hn | hn
  · go_enter Tryd.func57, Tryd.ntmps57
    go_wp2
    go_ret
    exact ⟨rfl, rfl⟩
  · have h0 : 0 ≤ n := by omega
    have hb' := hb h0
    go_enter Tryd.func57, Tryd.ntmps57
    go_wp2
    go_ret
    exact ⟨rfl, rfl⟩

theorem wU64_any (g : Nat) (sv : Value) (l : List UInt8) (n : Nat) (w : World) (hW : Wr w g sv l) (hn : (n : Int) ≤ 9223372036854775807) (hl : l.length ≤ 1000000000000) :
    Calls Tryd.prog 58 #[ptr g, .int .i64 n] w (Wrote g sv (l ++ num n 8) (.int .i64 0) w) := by
  go_enter Tryd.func58, Tryd.ntmps58
  go_wp2_with fail
  refine (number_any g sv l n 8 _ hW (by omega) (by omega) hl).mono ?_
  rintro e w1 ⟨rfl, hM⟩
  go_wp2
  go_ret
  exact ⟨rfl, hM⟩
theorem wU64_bad (g : Nat) (n : Int) (w : World) (hn : n < 0) :
    Calls Tryd.prog 58 #[ptr g, .int .i64 n] w fun e w' => e = .returned (.int .i64 3) ∧ w = w' := by
  go_enter Tryd.func58, Tryd.ntmps58
  go_wp2
  go_ret
  exact ⟨rfl, rfl⟩

end Go.Proofs.YtlblenojhfeboaaDoor
