/-
  Layer 21, walks: the law SpaceCounts. No condition but that lengths are machine numbers.
-/
import Derived.Test.YteommanceipipaaSpaceWalkH
namespace Go.Proofs.Yteommanceipipaa
open Go.RowKit
attribute [local go_sem ↓] Go.wp_at_zero Go.wp_at_succ ldTree
attribute [local go_sem] rowAt_ptr rowOf_drew rowOf_drewN rowOf_alloc_at rowOf_alloc_past Tr.len

theorem nums_len (t : Tr) (uid : Int) : (nums t uid).length = 6 := rfl

set_option maxHeartbeats 3200000 in
theorem spaceCounts_any (t : Tr) (uid : Int) (w : World) (hz : sized t.ns) (hA : At w 15 t.na (t.ns.map Nd.vals)) :
    Calls Try.prog 4 #[t.val, .int .i64 uid] w fun e w' => e = .returned (.bool true) ∧ Below w.heap.size w w' := by
  have hcr := range_new w t.vals 26
  have hrow := rowOf_of hcr (Tr.len t) (by omega)
  have c0 := hcr 0 _ rfl
  have c1 := hcr 1 _ rfl
  have c2 := hcr 2 _ rfl
  have c5 := hcr 5 _ rfl
  have hA1 := hA.alloc (.cells t.vals.toArray 26)
  have hB1 : Below w.heap.size w (w.alloc (.cells t.vals.toArray 26)) := (Below.refl _ _).alloc (Nat.le_refl _) _
  have hz1 : w.heap.size < (w.alloc (.cells t.vals.toArray 26)).heap.size := by simp
  clear hcr
  unfold Tr.val
  go_enter Try.func4, Try.ntmps4
  go_wp2_with fail
  generalize w.alloc (.cells t.vals.toArray 26) = w1 at *
  refine (large_any _ _ t.ns _ hz.1 hz.2 hA1).mono ?_
  rintro e w2 ⟨he, rfl⟩
  cases hl : large t.ns
  case true =>
    rw [hl] at he
    subst he
    go_wp2_with fail
    refine (known_any _).mono ?_
    rintro e w3 ⟨rfl, hb3⟩
    go_wp2
    go_ret
    exact ⟨rfl, below_then hB1 hb3⟩
  case false =>
    rw [hl] at he
    subst he
    have HS := Lib.hid (small_of hl)
    clear hl
    go_wp2_with fail
    refine (refCheck_any t.lim _).mono ?_
    rintro e w3 ⟨he, hb3⟩
    cases ho : t.lim.ok
    case false =>
      rw [ho] at he
      subst he
      have HE := Lib.hid (show errv 3 t.lim.ok = 3 by rw [ho]; rfl)
      have hs3 := Stb.of hb3
      have hB3 := below_then hB1 hb3
      clear ho hb3
      go_wp2_with fail
      refine (check_any t.lim _).mono ?_
      rintro e w4 ⟨he, hb4⟩
      rw [HE.out] at he
      subst he
      have hB4 := below_then hB3 hb4
      clear hb4
      go_wp2_with fail
      refine (known_any _).mono ?_
      rintro e w5 ⟨rfl, hb5⟩
      go_wp2
      go_ret
      exact ⟨rfl, below_then hB4 hb5⟩
    case true =>
      rw [ho] at he
      subst he
      have HE := Lib.hid (show errv 3 t.lim.ok = 0 by rw [ho]; rfl)
      have HO := Lib.hid ho
      have hs3 := Stb.of hb3
      have hB3 := below_then hB1 hb3
      have hA3 := hA1.below hb3
      have hbig : t.ns.length ≤ 1000000000000 := Nat.le_trans HS.out.1 (by omega)
      have hz3 : w.heap.size < w3.heap.size := Nat.lt_of_lt_of_le hz1 hs3.below.size
      clear ho hb3
      go_wp2_with fail
      go_region_held3 (fun W => Stb w3 W) (first | exact Stb.start | assumption | (exact Stb.alloc (by assumption) _) | (exact Stb.call (by assumption) (by assumption))) (first
        | (go_at_call 10; refine (check_any t.lim _).mono ?_; rintro e w4 ⟨he, hb4⟩; rw [HE.out] at he; subst he)
        | (go_at_call 11; refine (used_any _ _ t.ns _ HS.out (hA3.stb (by assumption))).mono ?_; rintro e w5 ⟨rfl, hb5⟩)
        | (go_at_call 12; refine (refUsed_any _ _ t.ns _ HS.out (hA3.stb (by assumption))).mono ?_; rintro e w6 ⟨rfl, hb6⟩)
        | (go_at_call 13; refine (owned_any _ _ t.ns _ _ HS.out (hA3.stb (by assumption))).mono ?_; rintro e w7 ⟨rfl, hb7⟩)
        | (go_at_call 14; refine (refOwned_any _ _ t.ns _ _ HS.out (hA3.stb (by assumption))).mono ?_; rintro e w8 ⟨rfl, hb8⟩)
        | (go_at_call 15; refine (id_any _ _ t.ns _ hbig (hA3.stb (by assumption))).mono ?_; rintro e w9 ⟨⟨id, rfl, hf⟩, hb9⟩; have Hf := Lib.hid hf; clear hf)
        | (go_at_call 16; refine (refId_any _ _ t.ns _ hbig (hA3.stb (by assumption))).mono ?_; rintro e w10 ⟨⟨id2, rfl, hf2⟩, hb10⟩; obtain rfl := Free.unique Hf.out hf2)
        | (go_at_call 18; refine (nums_any t uid _ HS.out HO.out (hA3.stb (by assumption))).mono ?_; rintro e w11 ⟨A1, c1', rfl, hi1, hb11⟩)
        | (go_at_call 19; refine (refNums_any t uid _ HS.out HO.out (hA3.stb (by assumption))).mono ?_; rintro e w12 ⟨A2, c2', rfl, hi2, hb12⟩; have hi1' := hi1.below hb12)
        | (go_at_call 17; refine (ints_any _ _ _ _ (nums t uid) (nums t uid) _ (by rw [nums_len]; omega) (by rw [nums_len]; omega) hi1' hi2).mono ?_; rintro e w13 ⟨he, hb13⟩; rw [beq_self_eq_true] at he; subst he)
        | (go_at_call 7; refine (known_any _).mono ?_; rintro e w14 ⟨rfl, hb14⟩))
      have hs14 : Stb w3 w14 := by assumption
      go_wp2
      go_ret
      exact ⟨rfl, below_then hB3 hs14.below⟩
end Go.Proofs.Yteommanceipipaa
