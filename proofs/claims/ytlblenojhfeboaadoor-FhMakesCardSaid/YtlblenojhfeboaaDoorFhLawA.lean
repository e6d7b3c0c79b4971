/-
  Layer 3, walks: the fixed calls; the laws FhNodes, FhApart, FhParses. Condition: machine numbers and texts; what is laid.
-/
import Derived.Test.YtlblenojhfeboaaDoorFhWalkG
import Derived.Test.YtlblenojhfeboaaDoorFhWalkH
namespace Go.Proofs.YtlblenojhfeboaaDoor
open Go.RowKit
attribute [local go_sem ↓] Go.wp_at_zero Go.wp_at_succ
attribute [local go_sem] rowAt_ptr rowOf_drew rowOf_drewN rowOf_alloc_past rowOf_new
attribute [local go_sem] Parts.at0 Parts.lat0 Parts.at1 Parts.lat1 Parts.at2 Parts.lat2 Parts.sub0_3 Parts.lsub0_3 Parts.len guardParts

attribute [local go_sem ↓] ldParts eqlParts eqlPartsZ

theorem dec0 : Lib.decDigits 0 = [48] := by rw [Lib.decDigits, dif_pos (by decide)]; rfl
theorem dec1 : Lib.decDigits 1 = [49] := by rw [Lib.decDigits, dif_pos (by decide)]; rfl
theorem text_root : fhText rootL = [111, 49, 46, 49] := by
  have h : fhGood rootL = true := by decide +kernel
  have e : fhP rootL = ⟨1, 1, 1⟩ := by decide +kernel
  unfold fhText
  rw [h, e]
  show [111] ++ Lib.decDigits 1 ++ [46] ++ Lib.decDigits 1 = _
  rw [dec1]; rfl
theorem text_never : fhText neverL = [112, 48, 46, 48] := by
  have h : fhGood neverL = true := by decide +kernel
  have e : fhP neverL = ⟨2, 0, 0⟩ := by decide +kernel
  unfold fhText
  rw [h, e]
  show [112] ++ Lib.decDigits 0 ++ [46] ++ Lib.decDigits 0 = _
  rw [dec0]; rfl
theorem known3_any (w : World) (hN : FhNone w) (hT : FhTab w) : Calls Tryd.prog 11 #[] w fun e w' => e = .returned (.bool true) ∧ Below w.heap.size w w' := by
  have K1 := fun W h1 h2 => fhText_any rootL W (by decide) h1 h2
  have K2 := fun W h1 h2 => fhText_any neverL W (by decide) h1 h2
  rw [text_root] at K1
  rw [text_never] at K2
  have HK1 := Lib.hid K1
  have HK2 := Lib.hid K2
  have HN := Lib.hid hN
  have HT := Lib.hid hT
  clear K1 K2 hN hT
  go_enter Tryd.func11, Tryd.ntmps11
  go_wp2_with fail
  refine (fhRoot_any _).mono ?_
  rintro e w1 ⟨rfl, hb1⟩
  go_wp2_with fail
  refine (fhRoot_any _).mono ?_
  rintro e w2 ⟨rfl, hb2⟩
  have hb2 := below_then hb1 hb2
  go_wp2_with fail
  refine (HK1.out _ (HN.out.below hb2) (HT.out.below hb2)).mono ?_
  rintro e w3 ⟨rfl, hb3⟩
  have hb3 := below_then hb2 hb3
  go_wp2_with fail
  refine (fhNever_any _).mono ?_
  rintro e w4 ⟨rfl, hb4⟩
  have hb4 := below_then hb3 hb4
  go_wp2_with fail
  refine (HK2.out _ (HN.out.below hb4) (HT.out.below hb4)).mono ?_
  rintro e w5 ⟨rfl, hb5⟩
  go_wp2
  go_ret
  exact ⟨rfl, below_then hb4 hb5⟩

theorem issued_bad {k a b : Int} (h : a < 1 ∨ a > 4294967295 ∨ b < 1) : fhIssued ⟨k, a, b⟩ = [] := by
  unfold fhIssued
  split
  · rfl
  · unfold fhMake
    rename_i hn
    simp only at hn
    rw [if_neg]
    rw [Parts.mayF_iff]
    simp only
    omega
theorem issued_ok {k a b : Nat} (hk : k = 1 ∨ k = 2) (ha : 1 ≤ a ∧ a ≤ 4294967295) (hb : 1 ≤ b) : fhIssued ⟨(k : Int), (a : Int), (b : Int)⟩ = fhB ⟨(k : Int), (a : Int), (b : Int)⟩ := by
  unfold fhIssued
  rw [if_neg (by simp only; omega), fhMake, if_pos]
  rw [Parts.mayF_iff]
  simp only
  omega
theorem fhB_inj {p q : Parts} (hp : p.mayF = true) (hq : q.mayF = true) (hpb : p.b ≤ 9223372036854775807) (hqb : q.b ≤ 9223372036854775807) (h : fhB p = fhB q) : p = q := by
  rw [← (parts_good hp hpb).2, ← (parts_good hq hqb).2, h]
theorem mayF_nat {k a b : Nat} (hk : k = 1 ∨ k = 2) (ha : a ≤ 4294967295) : (Parts.mk (k : Int) (a : Int) (b : Int)).mayF = true := by
  rw [Parts.mayF_iff]; simp only; omega
set_option maxRecDepth 20000 in
theorem fhNodesLaw_any (a b : Int) (w : World) (ha : -9223372036854775808 ≤ a ∧ a ≤ 9223372036854775807) (hb : -9223372036854775808 ≤ b ∧ b ≤ 9223372036854775807) (hN : FhNone w) (hT : FhTab w) :
    Calls Tryd.prog 5 #[.int .i64 a, .int .i64 b] w fun e w' => e = .returned (.bool true) ∧ Below w.heap.size w w' := by
  have K1 := fhNode_any a b w ha hb.2
  have K2 := fun W => fhVirtual_any a b W ha hb.2
  have HN := Lib.hid hN
  have HT := Lib.hid hT
  by_cases hbad : a < 1 ∨ a > 4294967295 ∨ b < 1
  · rw [issued_bad hbad] at K1
    simp only [issued_bad hbad] at K2
    have K1 := Lib.hid K1
    have K2 := Lib.hid K2
    have HBAD := Lib.hid hbad
    clear hbad hN hT ha hb
    go_enter Tryd.func5, Tryd.ntmps5
    go_wp2_with fail
    refine K1.out.mono ?_
    rintro e w1 ⟨rfl, hb1⟩
    go_wp2_with fail
    refine (K2.out _).mono ?_
    rintro e w2 ⟨rfl, hb2⟩
    have hb2 := below_then hb1 hb2
    have K3 := Lib.hid (known3_any w2 (HN.out.below hb2) (HT.out.below hb2))
    have HB2 := Lib.hid hb2
    clear hb1 hb2
    have hbad := HBAD.out
    go_wp2_with (first | (refine K3.out.mono ?_; rintro e w3 ⟨rfl, hb3⟩; go_wp2; go_ret; exact ⟨rfl, below_then HB2.out hb3⟩) | fail)
  · obtain ⟨an, rfl⟩ : ∃ n : Nat, a = (n : Int) := ⟨a.toNat, by omega⟩
    obtain ⟨bn, rfl⟩ : ∃ n : Nat, b = (n : Int) := ⟨b.toNat, by omega⟩
    have i1 : fhIssued ⟨1, (an : Int), (bn : Int)⟩ = fhB ⟨((1 : Nat) : Int), (an : Int), (bn : Int)⟩ := issued_ok (k := 1) (.inl rfl) (by omega) (by omega)
    have i2 : fhIssued ⟨2, (an : Int), (bn : Int)⟩ = fhB ⟨((2 : Nat) : Int), (an : Int), (bn : Int)⟩ := issued_ok (k := 2) (.inr rfl) (by omega) (by omega)
    rw [i1] at K1
    simp only [i2] at K2
    have K3 := fun W => refMake3_any 1 an bn W (.inl rfl) (by omega) hb.2
    have K4 := fun W => refMake3_any 2 an bn W (.inr rfl) (by omega) hb.2
    have eR : fhB ⟨1, 1, 1⟩ = rootL := by decide +kernel
    have eN : fhB ⟨2, 0, 0⟩ = neverL := by decide +kernel
    have hroot : (fhB ⟨((1 : Nat) : Int), (an : Int), (bn : Int)⟩ == rootL) = decide (an = 1 ∧ bn = 1) := by
      rw [Bool.eq_iff_iff, beq_iff_eq, decide_eq_true_eq]
      constructor
      · intro h
        rw [← eR] at h
        have := fhB_inj (mayF_nat (k := 1) (.inl rfl) (by omega)) (by decide) hb.2 (by decide) h
        simp only [Parts.mk.injEq] at this
        omega
      · rintro ⟨rfl, rfl⟩
        exact eR
    have hnever : (fhB ⟨((2 : Nat) : Int), (an : Int), (bn : Int)⟩ == neverL) = false := by
      rw [beq_eq_false_iff_ne]
      intro h
      rw [← eN] at h
      have := fhB_inj (mayF_nat (k := 2) (.inr rfl) (by omega)) (by decide) hb.2 (by decide) h
      simp only [Parts.mk.injEq] at this
      omega
    have hab : (an = 1 ∧ bn = 1) ∨ an ≠ 1 ∨ (an = 1 ∧ bn ≠ 1) := by omega
    generalize fhB ⟨((1 : Nat) : Int), (an : Int), (bn : Int)⟩ = N1 at *
    generalize fhB ⟨((2 : Nat) : Int), (an : Int), (bn : Int)⟩ = V at *
    generalize hR1 : rootL = R1 at *
    generalize hN1 : neverL = R2 at *
    have K1 := Lib.hid K1
    have K2 := Lib.hid K2
    have K3 := Lib.hid K3
    have K4 := Lib.hid K4
    have K5 := fun W => fhRoot_any W
    have K6 := fun W => fhNever_any W
    rw [hR1] at K5
    rw [hN1] at K6
    have K5 := Lib.hid K5
    have K6 := Lib.hid K6
    have g1 : ¬ (an : Int) < 1 := by omega
    have g2 : ¬ (4294967295 : Int) < (an : Int) := by omega
    have g3 : ¬ (bn : Int) < 1 := by omega
    clear hbad hN hT ha hb i1 i2 eR eN hR1 hN1
    go_enter Tryd.func5, Tryd.ntmps5
    go_wp2_with fail
    refine K1.out.mono ?_
    rintro e w1 ⟨rfl, hb1⟩
    go_wp2_with fail
    refine (K2.out _).mono ?_
    rintro e w2 ⟨rfl, hb2⟩
    have hb2 := below_then hb1 hb2
    go_wp2_with fail
    refine (K3.out _).mono ?_
    rintro e w3 ⟨rfl, hb3⟩
    have hb3 := below_then hb2 hb3
    go_wp2_with fail
    refine (K4.out _).mono ?_
    rintro e w4 ⟨rfl, hb4⟩
    have hb4 := below_then hb3 hb4
    go_wp2_with fail
    refine (K5.out _).mono ?_
    rintro e w5 ⟨rfl, hb5⟩
    have hb5 := below_then hb4 hb5
    clear hb1 hb2 hb3 hb4 K1 K2 K3 K4 K5 g1 g2 g3
    rcases hab with ⟨rfl, rfl⟩ | hn | ⟨rfl, hn⟩
    · rw [decide_eq_true ⟨rfl, rfl⟩] at hroot
      go_wp2_with fail
      refine (K6.out _).mono ?_
      rintro e w6 ⟨rfl, hb6⟩
      have hb6 := below_then hb5 hb6
      go_wp2_with fail
      refine (known3_any _ (HN.out.below hb6) (HT.out.below hb6)).mono ?_
      rintro e w7 ⟨rfl, hb7⟩
      go_wp2
      go_ret
      exact ⟨rfl, below_then hb6 hb7⟩
    · rw [decide_eq_false (fun h => hn h.1)] at hroot
      have hx : ((an : Int) == 1) = false := by simp; omega
      go_wp2_with fail
      refine (K6.out _).mono ?_
      rintro e w6 ⟨rfl, hb6⟩
      have hb6 := below_then hb5 hb6
      go_wp2_with fail
      refine (known3_any _ (HN.out.below hb6) (HT.out.below hb6)).mono ?_
      rintro e w7 ⟨rfl, hb7⟩
      go_wp2
      go_ret
      exact ⟨rfl, below_then hb6 hb7⟩
    · rw [decide_eq_false (fun h => hn h.2)] at hroot
      have hx : ((bn : Int) == 1) = false := by simp; omega
      go_wp2_with fail
      refine (K6.out _).mono ?_
      rintro e w6 ⟨rfl, hb6⟩
      have hb6 := below_then hb5 hb6
      go_wp2_with fail
      refine (known3_any _ (HN.out.below hb6) (HT.out.below hb6)).mono ?_
      rintro e w7 ⟨rfl, hb7⟩
      go_wp2
      go_ret
      exact ⟨rfl, below_then hb6 hb7⟩
end Go.Proofs.YtlblenojhfeboaaDoor
