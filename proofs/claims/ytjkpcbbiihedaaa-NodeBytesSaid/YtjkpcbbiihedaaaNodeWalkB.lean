/-
  Layer 20, walks: the law NodeWritten. No condition but machine numbers.
-/
import Derived.Test.YtjkpcbbiihedaaaNodeWalkA
import Derived.Test.YtjkpcbbiihedaaaNodePureB
namespace Go.Proofs.Ytjkpcbbiihedaaa
open Go.RowKit
attribute [local go_sem ↓] Go.wp_at_zero Go.wp_at_succ
attribute [local go_sem] rowAt_ptr rowOf_drew rowOf_drewN rowOf_alloc_past rowOf_new
attribute [local go_sem] bs_get

set_option maxHeartbeats 800000 in
theorem known20_any (w : World) : Calls Try.prog 15 #[] w fun e w' => e = .returned (.bool true) ∧ Below w.heap.size w w' := by
  go_enter Try.func15, Try.ntmps15
  go_wp2_with fail
  refine (nwrite_any [120] 2 [97, 98] _ (by decide) (by decide) (by decide)).mono ?_
  rintro e w1 ⟨he, hb⟩
  rw [show nWrite [120] 2 [97, 98] = ([120, 0, 97, 98], 0) by decide +kernel] at he
  subst he
  go_wp2_with fail
  refine (nread_any [120, 0, 97, 98] 3 9 _ (by decide) (by decide) (by decide)).mono ?_
  rintro e w2 ⟨he, rfl⟩
  rw [show nRead [120, 0, 97, 98] 3 9 = ([98], true) by decide +kernel] at he
  subst he
  go_wp2
  go_ret
  exact ⟨rfl, hb⟩

set_option maxRecDepth 10000 in
set_option maxHeartbeats 1600000 in
theorem nodeWritten_any (d : List UInt8) (off : Int) (t : List UInt8) (j : Int) (w : World) (ho : -9223372036854775808 ≤ off ∧ off ≤ 9223372036854775807) (hj : -9223372036854775808 ≤ j ∧ j ≤ 9223372036854775807) :
    Calls Try.prog 4 #[.string (bs d), .int .i64 off, .string (bs t), .int .i64 j] w fun e w' => e = .returned (.bool true) ∧ Below w.heap.size w w' := by
  have hsd := bs_size d
  have hst := bs_size t
  by_cases hlen : 1024 < d.length ∨ 256 < t.length
  · go_enter Try.func4, Try.ntmps4
    go_wp2_with fail
    all_goals
      refine (known20_any _).mono ?_
      rintro e w1 ⟨rfl, hb⟩
      go_wp2
      go_ret
      exact ⟨rfl, hb⟩
  · have hd : d.length ≤ 1024 := by omega
    have ht : t.length ≤ 256 := by omega
    clear hlen
    have hnd : ¬ (1024 : Int) < (d.length : Int) := by omega
    have hnt : ¬ (256 : Int) < (t.length : Int) := by omega
    by_cases hbad : (nWrite d off t).2 ≠ 0
    · have HS : (nWrite d off t).1 = [] := by
        unfold nWrite at hbad ⊢
        repeat' split <;> simp_all
      have hw := nwrite_any d off t w (by omega) (by omega) ho
      generalize nWrite d off t = x at *
      obtain ⟨x1, x2⟩ := x
      simp only at hbad HS
      subst HS
      have e1 : (x2 == 0) = false := by simpa using hbad
      have e2 : (x2 != 0) = true := by simpa using hbad
      have e3 : ¬ x2 = 0 := hbad
      have e4 : decide (x2 = 0) = false := by simpa using hbad
      go_enter Try.func4, Try.ntmps4
      go_wp2_with fail
      refine hw.mono ?_
      rintro e w1 ⟨rfl, hb⟩
      go_wp2_with fail
      refine (known20_any _).mono ?_
      rintro e w2 ⟨rfl, hb2⟩
      go_wp2
      go_ret
      exact ⟨rfl, below_then hb hb2⟩
    · by_cases hte : t = []
      · subst hte
        have hw := nwrite_any d off [] w (by omega) (by omega) ho
        have HS : nWrite d off [] = (d, 0) := by
          unfold nWrite at hbad ⊢
          by_cases h0 : off < 0 <;> simp_all
        rw [HS] at hw
        clear hbad HS
        go_enter Try.func4, Try.ntmps4
        go_wp2_with fail
        refine hw.mono ?_
        rintro e w1 ⟨rfl, hb⟩
        go_wp2_with fail
        refine (known20_any _).mono ?_
        rintro e w2 ⟨rfl, hb2⟩
        go_wp2
        go_ret
        exact ⟨rfl, below_then hb hb2⟩
      · have hk : 0 ≤ off ∧ off + t.length ≤ 1024 := by
          unfold nWrite at hbad
          by_cases h0 : off < 0
          · simp [h0] at hbad
          · by_cases h1 : 1024 < off ∨ 1024 - off < (t.length : Int)
            · simp [h0, h1, hte] at hbad
            · omega
        obtain ⟨k, rfl⟩ := Int.eq_ofNat_of_zero_le hk.1
        have hk2 : k + t.length ≤ 1024 := by omega
        have hne : t.isEmpty = false := by simpa using hte
        have hw := nwrite_any d k t w (by omega) (by omega) ho
        rw [nWrite_laid d k t hte hk2] at hw
        have hll := nLaid_len d k t
        have hr := fun w => nread_any (nLaid d k t) k t.length w (by omega) (by omega) (by omega)
        have hx := nLaid_read d k t ht
        have hget := nLaid_get d k t
        generalize nLaid d k t = s at *
        have hs1 : ¬ (s.length : Int) < (d.length : Int) := by omega
        have hs2 : ¬ (1024 : Int) < (s.length : Int) := by omega
        have hss := bs_size s
        generalize nRead s k t.length = y at *
        obtain ⟨y1, y2⟩ := y
        simp only at hx
        subst hx
        clear hte hbad hk hk2
        go_enter Try.func4, Try.ntmps4
        go_wp2_with fail
        refine hw.mono ?_
        rintro e w1 ⟨rfl, hb⟩
        clear hw
        go_wp2_with fail
        refine (hr _).mono ?_
        rintro e w2 ⟨rfl, rfl⟩
        clear hr
        by_cases hout : j < 0 ∨ (s.length : Int) ≤ j ∨ ((k : Int) ≤ j ∧ j - k < y1.length)
        · clear hget
          go_wp2_with fail
          all_goals first
            | (refine (known20_any _).mono ?_; rintro e w2 ⟨rfl, hb2⟩; go_wp2; go_ret; exact ⟨rfl, below_then hb hb2⟩)
            | (exfalso; omega)
        · obtain ⟨i, rfl⟩ := Int.eq_ofNat_of_zero_le (show 0 ≤ j by omega)
          have hi : i < s.length := by omega
          have hg := hget i hi (by omega)
          have h1 : ¬ (s.length : Int) ≤ (i : Int) := by omega
          have h2 : ¬ (i : Int) < 0 := by omega
          by_cases hid : i < d.length
          · rw [show d.getD i 0 = d[i] by simp [List.getD, List.getElem?_eq_getElem hid]] at hg
            clear hget
            go_wp2_with fail
            all_goals first
              | (refine (known20_any _).mono ?_; rintro e w2 ⟨rfl, hb2⟩; go_wp2; go_ret; exact ⟨rfl, below_then hb hb2⟩)
              | (exfalso; omega)
          · rw [show d.getD i 0 = 0 by simp [List.getD, List.getElem?_eq_none (show d.length ≤ i by omega)]] at hg
            clear hget
            go_wp2_with fail
            all_goals first
              | (refine (known20_any _).mono ?_; rintro e w2 ⟨rfl, hb2⟩; go_wp2; go_ret; exact ⟨rfl, below_then hb hb2⟩)
              | (exfalso; omega)
end Go.Proofs.Ytjkpcbbiihedaaa
