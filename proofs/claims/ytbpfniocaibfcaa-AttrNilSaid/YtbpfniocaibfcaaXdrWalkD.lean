/-
  Layer 1, walks: a thing's bytes by the reference; a thing put to a writer. Condition: texts of at most 2^20 bytes.
-/
import Derived.Test.YtbpfniocaibfcaaXdrThing
import Derived.Test.YtbpfniocaibfcaaXdrWalkC
namespace Go.Proofs.Ytbpfniocaibfcaa
open Go.RowKit
attribute [local go_sem ↓] Go.wp_at_zero Go.wp_at_succ

set_option maxHeartbeats 800000 in
theorem refOpt_any (b : Bool) (n : Int) (w : World) (hn : b = true → 0 ≤ n) (hi : n ≤ 9223372036854775807) :
    Calls Try.prog 44 #[.agg #[.bool b, .int .i64 n]] w fun e w' => e = .returned (.string (bs (optB b n))) ∧ Below w.heap.size w w' := by
  have hr := range_new w [.bool b, .int .i64 n] 42
  have hc0 := hr 0 _ rfl
  have hc1 := hr 1 _ rfl
  have hB0 : Below w.heap.size w (w.alloc (.cells #[.bool b, .int .i64 n] 42)) := (Below.refl _ _).alloc (Nat.le_refl _) _
  have hz1 : w.heap.size < (w.alloc (.cells #[.bool b, .int .i64 n] 42)).heap.size := by simp
  clear hr
  cases b
  · go_enter Try.func44, Try.ntmps44
    go_wp2_with fail
    refine (refTruth_any false _).mono ?_
    rintro e w2 ⟨rfl, hb⟩
    have hB := below_then hB0 hb
    go_wp2
    go_ret
    exact ⟨ret_string (by simp [optB]), hB⟩
  · obtain ⟨m, rfl⟩ := Int.eq_ofNat_of_zero_le (hn rfl)
    have hZ : (num m 8).length = 8 := num_len _ _
    have hZ2 : (truth true).length = 4 := num_len _ _
    have hs1 := bs_size (truth true)
    have hs2 := bs_size (num m 8)
    go_enter Try.func44, Try.ntmps44
    go_wp2_with fail
    generalize w.alloc (.cells #[.bool true, .int .i64 m] 42) = w1 at *
    go_region_held3 (fun W => Stb w1 W) (first | exact Stb.start | assumption | (exact Stb.alloc (by assumption) _) | (exact Stb.call (by assumption) (by assumption))) (first
      | (go_at_call 41; refine (refTruth_any true _).mono ?_; rintro e w2 ⟨rfl, hb⟩)
      | (go_at_call 40; refine (refNum_any m 8 _ (by omega) (by omega)).mono ?_; rintro e w3 ⟨rfl, hb3⟩))
    have hs3 : Stb w1 w3 := by assumption
    go_wp2
    go_ret
    exact ⟨ret_string (by simp [optB]), below_then hB0 hs3.below⟩

set_option maxHeartbeats 1600000 in
theorem refPut_any (t : Thing) (w : World) (hg : t.good) (hs : t.s.length ≤ 1000000) :
    Calls Try.prog 12 #[.agg t.vals.toArray] w fun e w' => e = .returned (.tuple #[.string (bs t.bytes), .int .i64 t.err]) ∧ Below w.heap.size w w' := by
  have hr := range_new w t.vals 35
  have hc0 := hr 0 _ rfl
  have hc1 := hr 1 _ rfl
  have hc2 := hr 2 _ rfl
  have hc3 := hr 3 _ rfl
  have hB0 : Below w.heap.size w (w.alloc (.cells t.vals.toArray 35)) := (Below.refl _ _).alloc (Nat.le_refl _) _
  clear hr
  obtain ⟨kind, n, is, s⟩ := t
  obtain ⟨-, hn, -⟩ := hg
  have hn := Go.bounds_i64 hn
  unfold Thing.vals at *
  by_cases h1 : kind = 1
  · subst h1
    by_cases h : n < 0 ∨ 4294967295 < n
    · have hE := Lib.hid (show Thing.err ⟨1, n, is, s⟩ = 3 by simp [Thing.err, h])
      have hT := Lib.hid (show Thing.bytes ⟨1, n, is, s⟩ = [] by simp [Thing.bytes, h])
      rcases h with h | h
      · go_enter Try.func12, Try.ntmps12
        go_wp2
        go_ret2
        rw [hE.out, hT.out]
        exact ⟨rfl, hB0⟩
      · by_cases h0 : n < 0
        · omega
        · go_enter Try.func12, Try.ntmps12
          go_wp2
          go_ret2
          rw [hE.out, hT.out]
          exact ⟨rfl, hB0⟩
    · have hE := Lib.hid (show Thing.err ⟨1, n, is, s⟩ = 0 by simp [Thing.err, h])
      have hT := Lib.hid (show Thing.bytes ⟨1, n, is, s⟩ = num n.toNat 4 by simp [Thing.bytes, h])
      obtain ⟨m, rfl⟩ := Int.eq_ofNat_of_zero_le (show 0 ≤ n by omega)
      have ha : ¬ ((m : Int) < 0) := by omega
      have hb : ¬ (4294967295 < (m : Int)) := by omega
      clear h
      go_enter Try.func12, Try.ntmps12
      go_wp2_with fail
      refine (refNum_any m 4 _ (by omega) (by omega)).mono ?_
      rintro e w2 ⟨rfl, hb2⟩
      go_wp2
      go_ret2
      rw [hE.out, hT.out]
      exact ⟨rfl, below_then hB0 hb2⟩
  by_cases h2 : kind = 2
  · subst h2
    by_cases h : n < 0
    · have hE := Lib.hid (show Thing.err ⟨2, n, is, s⟩ = 3 by simp [Thing.err, h])
      have hT := Lib.hid (show Thing.bytes ⟨2, n, is, s⟩ = [] by simp [Thing.bytes, h])
      go_enter Try.func12, Try.ntmps12
      go_wp2
      go_ret2
      rw [hE.out, hT.out]
      exact ⟨rfl, hB0⟩
    · have hE := Lib.hid (show Thing.err ⟨2, n, is, s⟩ = 0 by simp [Thing.err, h])
      have hT := Lib.hid (show Thing.bytes ⟨2, n, is, s⟩ = num n.toNat 8 by simp [Thing.bytes, h])
      obtain ⟨m, rfl⟩ := Int.eq_ofNat_of_zero_le (show 0 ≤ n by omega)
      go_enter Try.func12, Try.ntmps12
      go_wp2_with fail
      refine (refNum_any m 8 _ (by omega) (by omega)).mono ?_
      rintro e w2 ⟨rfl, hb2⟩
      go_wp2
      go_ret2
      rw [hE.out, hT.out]
      exact ⟨rfl, below_then hB0 hb2⟩
  by_cases h3 : kind = 3
  · subst h3
    go_enter Try.func12, Try.ntmps12
    go_wp2_with fail
    refine (refTruth_any is _).mono ?_
    rintro e w2 ⟨rfl, hb2⟩
    go_wp2
    go_ret2
    exact ⟨rfl, below_then hB0 hb2⟩
  by_cases h4 : kind = 4
  · subst h4
    go_enter Try.func12, Try.ntmps12
    go_wp2_with fail
    refine (refFilled_any s _ (by omega)).mono ?_
    rintro e w2 ⟨rfl, hb2⟩
    go_wp2
    go_ret2
    exact ⟨rfl, below_then hB0 hb2⟩
  by_cases h5 : kind = 5
  · subst h5
    go_enter Try.func12, Try.ntmps12
    go_wp2_with fail
    refine (refText_any s _ (by omega)).mono ?_
    rintro e w2 ⟨rfl, hb2⟩
    go_wp2
    go_ret2
    exact ⟨rfl, below_then hB0 hb2⟩
  by_cases h6 : kind = 6
  · subst h6
    by_cases h : is = true ∧ n < 0
    · have hE := Lib.hid (show Thing.err ⟨6, n, is, s⟩ = 3 by simp [Thing.err, h])
      have hT := Lib.hid (show Thing.bytes ⟨6, n, is, s⟩ = [] by simp [Thing.bytes, h])
      obtain ⟨rfl, h⟩ := h
      go_enter Try.func12, Try.ntmps12
      go_wp2
      go_ret2
      rw [hE.out, hT.out]
      exact ⟨rfl, hB0⟩
    · have hE := Lib.hid (show Thing.err ⟨6, n, is, s⟩ = 0 by simp [Thing.err, h])
      have hT := Lib.hid (show Thing.bytes ⟨6, n, is, s⟩ = optB is n by simp [Thing.bytes, h])
      cases is
      · clear h
        go_enter Try.func12, Try.ntmps12
        go_wp2_with fail
        refine (refOpt_any false n _ (by simp) (by omega)).mono ?_
        rintro e w2 ⟨rfl, hb2⟩
        go_wp2
        go_ret2
        rw [hE.out, hT.out]
        exact ⟨rfl, below_then hB0 hb2⟩
      · have h' : ¬ n < 0 := fun h' => h ⟨rfl, h'⟩
        clear h
        go_enter Try.func12, Try.ntmps12
        go_wp2_with fail
        refine (refOpt_any true n _ (fun _ => by omega) (by omega)).mono ?_
        rintro e w2 ⟨rfl, hb2⟩
        go_wp2
        go_ret2
        rw [hE.out, hT.out]
        exact ⟨rfl, below_then hB0 hb2⟩
  · have hE := Lib.hid (show Thing.err ⟨kind, n, is, s⟩ = 0 by simp [Thing.err, h1, h2, h6])
    have hT := Lib.hid (show Thing.bytes ⟨kind, n, is, s⟩ = [] by simp [Thing.bytes, h1, h2, h3, h4, h5, h6])
    go_enter Try.func12, Try.ntmps12
    go_wp2
    go_ret2
    rw [hE.out, hT.out]
    exact ⟨rfl, hB0⟩
end Go.Proofs.Ytbpfniocaibfcaa
