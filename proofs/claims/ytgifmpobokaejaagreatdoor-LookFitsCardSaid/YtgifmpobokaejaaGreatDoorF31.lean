/-
  Layer 4, walks: which texts are names and links, by both; a digit's value; a rune's width. Condition: machine texts.
-/
import Derived.Test.YtgifmpobokaejaaGreatDoorF15
import Derived.Test.YtgifmpobokaejaaGreatDoorF08
namespace Go.Proofs.YtgifmpobokaejaaGreatDoor
open Go.RowKit
attribute [local go_sem ↓] Go.wp_at_zero Go.wp_at_succ
attribute [local go_sem] rowAt_ptr rowOf_drew rowOf_drewN rowOf_alloc_past rowOf_new

theorem contains_index (l : List UInt8) (c : UInt8) : decide (0 ≤ Lib.indexByte l c) = l.contains c := by
  induction l with
  | nil => rfl
  | cons b l ih =>
    rw [Lib.indexByte, List.contains_cons, ← ih]
    by_cases h : b = c
    · subst h; simp
    · have h1 : (b == c) = false := beq_false_of_ne h
      have h2 : (c == b) = false := beq_false_of_ne (Ne.symm h)
      rw [h1, h2, Bool.false_or]
      simp only [Bool.false_eq_true, if_false]
      split
      · rename_i h3; rw [beq_iff_eq.1 h3]
      · rename_i h3
        have h4 : Lib.indexByte l c ≠ -1 := fun e => h3 (beq_iff_eq.2 e)
        have h5 : -1 ≤ Lib.indexByte l c := by
          clear h3 h4 ih h1 h2 h
          induction l with
          | nil => simp [Lib.indexByte]
          | cons a l ih =>
            rw [Lib.indexByte]
            split
            · omega
            · split <;> omega
        exact decide_eq_decide.2 (by omega)
theorem contains4_any (l : List UInt8) (c : UInt8) (w : World) : Calls Tryz.prog 125 #[.string (bs l), .string (bs [c])] w fun e w' => e = .returned (.bool (l.contains c)) ∧ w = w' :=
  (Tryz.strings_Contains_one (bs l) c w).mono fun e w' ⟨h1, h2⟩ => ⟨by rw [h1, ← contains_index], h2.symm⟩
theorem indexByte_findIdx (l : List UInt8) (c : UInt8) : Lib.indexByte l c = if l.findIdx (· == c) < l.length then ((l.findIdx (· == c) : Nat) : Int) else -1 := by
  induction l with
  | nil => rfl
  | cons b l ih =>
    rw [Lib.indexByte, List.findIdx_cons]
    by_cases h : b = c
    · subst h; simp
    · have h1 : (b == c) = false := beq_false_of_ne h
      rw [h1, ih]
      simp only [Bool.false_eq_true, if_false, cond_false, List.length_cons]
      by_cases h2 : l.findIdx (· == c) < l.length
      · rw [if_pos h2, if_neg (fun e => by have := beq_iff_eq.1 e; omega), if_pos (by omega)]; rfl
      · rw [if_neg h2, if_pos (by simp), if_neg (by omega)]
theorem valD_ge (c : UInt8) : -1 ≤ valD c := by unfold valD; split <;> omega
theorem valD_lt (c : UInt8) : valD c < 16 := by
  unfold valD
  split
  · rename_i h
    have : digL.length = 16 := rfl
    omega
  · omega

theorem dec_cases (s : List UInt8) : (at0 s 0 < 128 ∧ dec s = (at0 s 0, 1)) ∨ (∃ x, 128 ≤ x ∧ x < 2048 ∧ dec s = (x, 2)) ∨
    (∃ x, 2048 ≤ x ∧ x < 65536 ∧ ¬ (55296 ≤ x ∧ x ≤ 57343) ∧ dec s = (x, 3) ∧ 2 < s.length ∧ at0 s 0 = 224 + x / 4096 ∧ at0 s 1 = 128 + x / 64 % 64 ∧ at0 s 2 = 128 + x % 64) ∨
    (∃ x, 65536 ≤ x ∧ x ≤ 1114111 ∧ dec s = (x, 4)) ∨ dec s = (65533, 1) := by
  have h0 := at0_lt s 0
  have h1 := at0_lt s 1
  have h2 := at0_lt s 2
  have h3 := at0_lt s 3
  unfold dec
  split
  · rename_i h; exact .inl ⟨h, rfl⟩
  split
  · rename_i q
    split
    · rename_i r; exact .inr (.inl ⟨_, r, by omega, rfl⟩)
    · exact .inr (.inr (.inr (.inr rfl)))
  split
  · rename_i q
    split
    · rename_i r
      have hv := r.2
      rw [valid_iff] at hv
      exact .inr (.inr (.inl ⟨_, r.1, by omega, by omega, rfl, q.2.1, by omega, by omega, by omega⟩))
    · exact .inr (.inr (.inr (.inr rfl)))
  split
  · rename_i q
    split
    · rename_i r
      have hv := r.2
      rw [valid_iff] at hv
      exact .inr (.inr (.inr (.inl ⟨_, r.1, by omega, rfl⟩)))
    · exact .inr (.inr (.inr (.inr rfl)))
  · exact .inr (.inr (.inr (.inr rfl)))
/-- the program's way to a rune's width -/
theorem width_rune {s : List UInt8} (h : (dec s).1 ≠ 65533) : Lib.runeLen ((dec s).1 : Int) = ((dec s).2 : Int) := by
  unfold Lib.runeLen
  rcases dec_cases s with ⟨hx, e⟩ | ⟨x, h1, h2, e⟩ | ⟨x, h1, h2, h3, e, -⟩ | ⟨x, h1, h2, e⟩ | e
  · rw [e]; simp only; rw [if_neg (by omega), if_pos (by omega)]; rfl
  · rw [e]; simp only; rw [if_neg (by omega), if_neg (by omega), if_pos (by omega)]; rfl
  · rw [e]; simp only; rw [if_neg (by omega), if_neg (by omega), if_neg (by omega), if_neg (by omega), if_pos (by omega)]; rfl
  · rw [e]; simp only; rw [if_neg (by omega), if_neg (by omega), if_neg (by omega), if_neg (by omega), if_neg (by omega), if_pos (by omega)]; rfl
  · rw [e] at h; exact absurd rfl h
theorem width_error {s : List UInt8} (h : (dec s).1 = 65533) : (dec s).2 = if Lib.hasPrefix s [239, 191, 189] then 3 else 1 := by
  by_cases hp : Lib.hasPrefix s [239, 191, 189] = true
  · rw [if_pos hp]
    obtain ⟨r, rfl⟩ : ∃ r, s = [239, 191, 189] ++ r := by
      obtain ⟨r, hr⟩ := List.isPrefixOf_iff_prefix.1 hp
      exact ⟨r, hr.symm⟩
    have a0 : at0 ([239, 191, 189] ++ r) 0 = 239 := rfl
    have a1 : at0 ([239, 191, 189] ++ r) 1 = 191 := rfl
    have a2 : at0 ([239, 191, 189] ++ r) 2 = 189 := rfl
    unfold dec
    rw [a0, a1, a2]
    simp [Utf8.valid]
  · rw [if_neg hp]
    rcases dec_cases s with ⟨hx, e⟩ | ⟨x, h1, h2, e⟩ | ⟨x, h1, h2, h3, e, hl, b0, b1, b2⟩ | ⟨x, h1, h2, e⟩ | e
    · rw [e] at h; simp only at h; omega
    · rw [e] at h; simp only at h; omega
    · rw [e] at h
      simp only at h
      subst h
      exfalso
      apply hp
      match s, hl, b0, b1, b2 with
      | a :: b :: c :: r, _, b0, b1, b2 =>
        have e0 : a = 239 := UInt8.toNat_inj.1 b0
        have e1 : b = 191 := UInt8.toNat_inj.1 b1
        have e2 : c = 189 := UInt8.toNat_inj.1 b2
        rw [e0, e1, e2]
        simp [Lib.hasPrefix]
    · rw [e] at h; simp only at h; omega
    · rw [e]

theorem check4_any (l : List UInt8) (w : World) (hl : l.length ≤ 9223372036854775807) : Calls Tryz.prog 102 #[.string (bs l)] w fun e w' => e = .returned (.int .i64 (nameSt l)) ∧ w = w' := by
  have hsz := bs_size l
  have h0 := fun w => contains4_any l 0 w
  have h47 := fun w => contains4_any l 47 w
  obtain ⟨N, hN⟩ : ∃ N, N = nameSt l := ⟨_, rfl⟩
  rw [← hN]
  unfold nameSt at hN
  have HN := Lib.hid hN
  clear hN
  go_enter Tryz.func102, Tryz.ntmps102
  by_cases q1 : l = []
  · subst q1
    go_wp2
    go_ret
    exact ⟨ret_int HN.out.symm, rfl⟩
  have q1b : (l == []) = false := by simpa using q1
  by_cases q4 : l = [46]
  · have HV := Lib.hid (show (22 : Int) = N by rw [HN.out, q4]; decide)
    subst q4
    go_wp2
    go_ret
    exact ⟨ret_int HV.out, rfl⟩
  by_cases q5 : l = [46, 46]
  · have HV := Lib.hid (show (22 : Int) = N by rw [HN.out, q5]; decide)
    subst q5
    go_wp2
    go_ret
    exact ⟨ret_int HV.out, rfl⟩
  have q4c : (l == [46]) = false := beq_false_of_ne q4
  have q5c : (l == [46, 46]) = false := beq_false_of_ne q5
  go_wp2_with fail
  refine (h47 w).mono ?_
  rintro e w1 ⟨rfl, rfl⟩
  cases q3 : l.contains 47 with
  | true =>
    have HV := Lib.hid (show (22 : Int) = N by rw [HN.out]; simp only [q3]; simp)
    clear q3
    go_wp2
    go_ret
    exact ⟨ret_int HV.out, rfl⟩
  | false =>
  go_wp2_with fail
  refine (h0 w).mono ?_
  rintro e w1 ⟨rfl, rfl⟩
  cases q2 : l.contains 0 with
  | true =>
    have HV := Lib.hid (show (22 : Int) = N by rw [HN.out]; simp only [q2]; simp)
    clear q2 q3
    go_wp2
    go_ret
    exact ⟨ret_int HV.out, rfl⟩
  | false =>
  by_cases q6 : 24 < (l.length : Int)
  · have HV := Lib.hid (show (63 : Int) = N by rw [HN.out, q1b, q2, q3, q4c, q5c, if_neg (by decide), if_pos (by omega)])
    clear q1 q4 q5 q1b q2 q3
    go_wp2
    go_ret
    exact ⟨ret_int HV.out, rfl⟩
  · have HV := Lib.hid (show (0 : Int) = N by rw [HN.out, q1b, q2, q3, q4c, q5c, if_neg (by decide), if_neg (by omega)])
    clear q1 q4 q5 q1b q2 q3
    go_wp2
    go_ret
    exact ⟨ret_int HV.out, rfl⟩

/-- the status of a link's text -/
def targetSt (l : List UInt8) : Int := if (l == []) || l.contains 0 then 22 else if 48 < l.length then 63 else 0
theorem target4_any (l : List UInt8) (w : World) (hl : l.length ≤ 9223372036854775807) : Calls Tryz.prog 124 #[.string (bs l)] w fun e w' => e = .returned (.int .i64 (targetSt l)) ∧ w = w' := by
  have hsz := bs_size l
  have h0 := fun w => contains4_any l 0 w
  obtain ⟨N, hN⟩ : ∃ N, N = targetSt l := ⟨_, rfl⟩
  rw [← hN]
  unfold targetSt at hN
  have HN := Lib.hid hN
  clear hN
  go_enter Tryz.func124, Tryz.ntmps124
  by_cases q1 : l = []
  · subst q1
    go_wp2
    go_ret
    exact ⟨ret_int HN.out.symm, rfl⟩
  have q1b : (l == []) = false := by simpa using q1
  go_wp2_with fail
  refine (h0 w).mono ?_
  rintro e w1 ⟨rfl, rfl⟩
  cases q2 : l.contains 0 with
  | true =>
    have HV := Lib.hid (show (22 : Int) = N by rw [HN.out]; simp only [q2]; simp)
    clear q2
    go_wp2
    go_ret
    exact ⟨ret_int HV.out, rfl⟩
  | false =>
  by_cases q6 : 48 < (l.length : Int)
  · have HV := Lib.hid (show (63 : Int) = N by rw [HN.out, q1b, q2, if_neg (by decide), if_pos (by omega)])
    clear q1 q1b q2
    go_wp2
    go_ret
    exact ⟨ret_int HV.out, rfl⟩
  · have HV := Lib.hid (show (0 : Int) = N by rw [HN.out, q1b, q2, if_neg (by decide), if_neg (by omega)])
    clear q1 q1b q2
    go_wp2
    go_ret
    exact ⟨ret_int HV.out, rfl⟩
theorem refTarget4_any (l : List UInt8) (w : World) (hl : l.length ≤ 9223372036854775807) : Calls Tryz.prog 69 #[.string (bs l)] w fun e w' => e = .returned (.int .i64 (targetSt l)) ∧ w = w' := by
  have hsz := bs_size l
  have h0 := fun w => refHas4_any l 0 w hl
  obtain ⟨N, hN⟩ : ∃ N, N = targetSt l := ⟨_, rfl⟩
  rw [← hN]
  unfold targetSt at hN
  have HN := Lib.hid hN
  clear hN
  go_enter Tryz.func69, Tryz.ntmps69
  by_cases q1 : l = []
  · subst q1
    go_wp2
    go_ret
    exact ⟨ret_int HN.out.symm, rfl⟩
  have q1b : (l == []) = false := by simpa using q1
  go_wp2_with fail
  refine (h0 w).mono ?_
  rintro e w1 ⟨rfl, rfl⟩
  cases q2 : l.contains 0 with
  | true =>
    have HV := Lib.hid (show (22 : Int) = N by rw [HN.out]; simp only [q2]; simp)
    clear q2
    go_wp2
    go_ret
    exact ⟨ret_int HV.out, rfl⟩
  | false =>
  by_cases q6 : 48 < (l.length : Int)
  · have HV := Lib.hid (show (63 : Int) = N by rw [HN.out, q1b, q2, if_neg (by decide), if_pos (by omega)])
    clear q1 q1b q2
    go_wp2
    go_ret
    exact ⟨ret_int HV.out, rfl⟩
  · have HV := Lib.hid (show (0 : Int) = N by rw [HN.out, q1b, q2, if_neg (by decide), if_neg (by omega)])
    clear q1 q1b q2
    go_wp2
    go_ret
    exact ⟨ret_int HV.out, rfl⟩
end Go.Proofs.YtgifmpobokaejaaGreatDoor
