/-
  Layer 4, walks: the document's Show. Condition: a machine text.
-/
import Derived.Test.YtjjlkdmpnpejjaaDoorNameWalkC
import Derived.Test.YtjjlkdmpnpejjaaDoorNameWalkD
namespace Go.Proofs.YtjjlkdmpnpejjaaDoor
open Go.RowKit
attribute [local go_sem ↓] Go.wp_at_zero Go.wp_at_succ
attribute [local go_sem] rowAt_ptr rowOf_drew rowOf_drewN rowOf_alloc_past rowOf_new

set_option maxRecDepth 20000 in
set_option maxHeartbeats 1600000 in
theorem refShow4_any (l : List UInt8) (w : World) (hl : l.length ≤ 1000000) : Calls Tryd.prog 20 #[.string (bs l)] w fun e w' => e = .returned (.string (bs (showN l))) ∧ Below w.heap.size w w' := by
  have hsz := bs_size l
  by_cases h0 : l = []
  · subst h0
    go_enter Tryd.func20, Tryd.ntmps20
    go_wp2
    go_ret
    exact ⟨rfl, Below.refl _ _⟩
  have h0b : (l == []) = false := by simpa using h0
  obtain ⟨R, hR⟩ : ∃ R, R = showR l := ⟨_, rfl⟩
  have hN : showN l = R := by rw [showN_ne h0, show_same _ l (Nat.le_refl _), hR]
  rw [hN]
  have H0 := Lib.hid (show ([] : List UInt8) ++ showR (l.drop 0) = R by rw [hR]; simp)
  have hRl : R.length ≤ 3000000 := by rw [hR, ← show_same _ l (Nat.le_refl _)]; have := showL_len l; omega
  have HR := Lib.hid hR
  clear hR hN
  go_enter Tryd.func20, Tryd.ntmps20
  go_wp2
  go_loopw [4, 5] (fun ov iv wr => ∃ (k : Nat) (o : List UInt8), k ≤ l.length ∧ iv = .int .i64 k ∧ ov = .string (bs o) ∧ o ++ showR (l.drop k) = R ∧ Below w.heap.size w wr) (fun _ iv _ => l.length - (intOf iv).toNat)
  case atStart => exact ⟨0, [], Nat.zero_le _, rfl, rfl, H0.out, Below.refl _ _⟩
  case round =>
    clear H0
    obtain ⟨k, o, hk, rfl, rfl, hsh, hb⟩ := hrel
    have HB := Lib.hid hb
    have ho : o.length ≤ 3000000 := by have := congrArg List.length hsh; rw [List.length_append] at this; omega
    have hoz := bs_size o
    clear hb
    by_cases hlt : k < l.length
    · have hne : l.drop k ≠ [] := by intro e; have := congrArg List.length e; simp at this; omega
      have hstep := showR_step hne
      have hle := stepR_le hne
      rw [List.length_drop] at hle
      obtain ⟨n, hn⟩ : ∃ n, n = (rsz (l.drop k)).1 := ⟨_, rfl⟩
      obtain ⟨v, hv⟩ : ∃ v, v = (rsz (l.drop k)).2 := ⟨_, rfl⟩
      have hcall : Calls Tryd.prog 30 #[.string (bs l), .int .i64 (k : Int)] wr fun e w' => e = .returned (.tuple #[.int .i64 (n : Int), .int .i64 (v : Int)]) ∧ wr = w' :=
        (size4_any l k wr (by omega) hlt).mono fun e w' h => by rw [hn, hv]; exact h
      have HC := Lib.hid hcall
      have hk0 : (0 : Int) ≤ (k : Int) := Int.natCast_nonneg _
      have hk1 : (k : Int) < (l.length : Int) := by omega
      clear hcall
      by_cases hp : 0 < n ∧ plainR v = true
      · obtain ⟨hn0, hpv⟩ := hp
        have hst : stepR (l.drop k) = ((l.drop k).take n, n) := by unfold stepR; rw [← hn, ← hv, if_pos ⟨hn0, hpv⟩]
        rw [hst] at hstep hle
        simp only at hstep hle
        have HN := Lib.hid (show (o ++ (l.drop k).take n) ++ showR (l.drop (k + n)) = R by rw [← hsh, hstep, List.append_assoc, List.drop_drop])
        have HS := Lib.hid (show (bs l).extract k (k + n) = bs ((l.drop k).take n) by rw [bs_part, Nat.add_sub_cancel_left])
        have hpl : Calls Tryd.prog 31 #[.int .i64 (v : Int)] wr fun e w' => e = .returned (.bool true) ∧ wr = w' := (refPlain4_any v wr).mono fun e w' h => by rw [← hpv]; exact h
        have HP := Lib.hid hpl
        have hn1 : (0 : Int) < (n : Int) := by omega
        have hkn : (k : Int) + (n : Int) ≤ (l.length : Int) := by omega
        have hkn2 : k + n ≤ l.length := by omega
        have hkk : (k : Int) ≤ (k : Int) + (n : Int) := by omega
        have hkk0 : (0 : Int) ≤ (k : Int) + (n : Int) := by omega
        clear hst hstep hsh hpl hpv hn hv hne h0 h0b
        go_wp2_with fail
        refine HC.out.mono ?_
        rintro e w1 ⟨rfl, rfl⟩
        go_wp2_with fail
        refine HP.out.mono ?_
        rintro e w1 ⟨rfl, rfl⟩
        go_wp2
        go_roundw
        case rel => exact ⟨k + n, o ++ (l.drop k).take n, by omega, by go_num, by rw [← bs_append, ← HS.out], HN.out, HB.out⟩
        case measure => simp [intOf]; omega
      · have hst : stepR (l.drop k) = (((l.drop k).take 1).flatMap hexL, 1) := by unfold stepR; rw [← hn, ← hv, if_neg hp]
        rw [hst] at hstep
        simp only at hstep
        have hone : (l.drop k).take 1 = [l[k]] := by rw [← List.getElem_cons_drop hlt]; rfl
        rw [hone, List.flatMap_singleton] at hstep
        have HN := Lib.hid (show (o ++ hexL l[k]) ++ showR (l.drop (k + 1)) = R by rw [← hsh, hstep, List.append_assoc, List.drop_drop])
        have hg : (bs l)[k]'(by rw [hsz]; exact hlt) = l[k] := rfl
        have hc := UInt8.toNat_lt l[k]
        obtain ⟨q, hq⟩ : ∃ q, q = l[k].toNat / 16 := ⟨_, rfl⟩
        obtain ⟨r, hr⟩ : ∃ r, r = l[k].toNat % 16 := ⟨_, rfl⟩
        have HX := Lib.hid (show bs o ++ bs [37] ++ (bs digL).extract q (q + 1) ++ (bs digL).extract r (r + 1) = bs (o ++ hexL l[k]) by
          rw [dig_cut (by omega), dig_cut (by omega), bs_append, bs_append, bs_append, hq, hr]
          simp [hexL])
        have hq16 : q < 16 := by omega
        have hr16 : r < 16 := by omega
        have e1 : (l[k].toNat : Int) / 16 = (q : Int) := by omega
        have e1r : (l[k].toNat : Int) % 16 = (r : Int) := by omega
        have p0 : (0 : Int) ≤ (l[k].toNat : Int) := by omega
        have p9 : (l[k].toNat : Int) ≤ 255 := by omega
        have e2 : IntKind.i64.wrap ((q : Int) + 1) = (q : Int) + 1 := IntWalk.i64_in _ (by omega)
        have e3 : IntKind.i64.wrap ((r : Int) + 1) = (r : Int) + 1 := IntWalk.i64_in _ (by omega)
        have p1 : (0 : Int) ≤ (q : Int) + 1 := by omega
        have p2 : (q : Int) + 1 ≤ 16 := by omega
        have p3 : (0 : Int) ≤ (q : Int) := by omega
        have p4 : (q : Int) ≤ (q : Int) + 1 := by omega
        have p5 : (0 : Int) ≤ (r : Int) + 1 := by omega
        have p6 : (r : Int) + 1 ≤ 16 := by omega
        have p7 : (0 : Int) ≤ (r : Int) := by omega
        have p8 : (r : Int) ≤ (r : Int) + 1 := by omega
        clear hst hstep hsh hone hq hr hn hv hne h0 h0b hc
        by_cases hn0 : 0 < n
        · have hpv : plainR v = false := by simpa using fun h => hp ⟨hn0, h⟩
          have hpl : Calls Tryd.prog 31 #[.int .i64 (v : Int)] wr fun e w' => e = .returned (.bool false) ∧ wr = w' := (refPlain4_any v wr).mono fun e w' h => by rw [← hpv]; exact h
          have HP := Lib.hid hpl
          have hn1 : (0 : Int) < (n : Int) := by omega
          clear hpl hpv hp
          go_wp2_with fail
          refine HC.out.mono ?_
          rintro e w1 ⟨rfl, rfl⟩
          go_wp2_with fail
          refine HP.out.mono ?_
          rintro e w1 ⟨rfl, rfl⟩
          go_wp2
          go_quiet (fail)
          go_wp2
          go_roundw
          case rel => exact ⟨k + 1, o ++ hexL l[k], by omega, by go_num, by rw [← HX.out]; rfl, HN.out, bdN HB.out _⟩
          case measure => simp [intOf]; omega
        · have hn1 : ¬ (0 : Int) < (n : Int) := by omega
          clear hp
          go_wp2_with fail
          refine HC.out.mono ?_
          rintro e w1 ⟨rfl, rfl⟩
          go_wp2
          go_quiet (fail)
          go_wp2
          go_roundw
          case rel => exact ⟨k + 1, o ++ hexL l[k], by omega, by go_num, by rw [← HX.out]; rfl, HN.out, bdN HB.out _⟩
          case measure => simp [intOf]; omega
    · obtain rfl : k = l.length := by omega
      have HE := Lib.hid (show o = R by rw [← hsh, List.drop_length]; simp [showR, showRF])
      clear hsh
      have hk1 : ¬ (l.length : Int) < (l.length : Int) := by omega
      go_wp2
      go_ret
      exact ⟨by rw [HE.out]; rfl, HB.out⟩
end Go.Proofs.YtjjlkdmpnpejjaaDoor
