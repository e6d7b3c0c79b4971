/-
  Layer 20, walks: the document's reading of bytes. Conditions: texts of at most 2^20 bytes.
-/
import Derived.Test.YtjkpcbbiihedaaaNodeWalkD
namespace Go.Proofs.Ytjkpcbbiihedaaa
open Go.RowKit
attribute [local go_sem ↓] Go.wp_at_zero Go.wp_at_succ
attribute [local go_sem] rowAt_ptr rowOf_drew rowOf_drewN rowOf_alloc_past rowOf_new
attribute [local go_sem] bs_get

theorem refread_leaf {d : List UInt8} {off count : Int} {f j : Nat} {c : Bool} (hf : f = nFrom d off) (hj : j = nCount d off count) (hc : c = (f + j == d.length)) :
    Ending.returned (.tuple #[.string (bs ((d.drop f).take j)), .bool c]) = .returned (.tuple #[.string (bs (nRead d off count).1), .bool (nRead d off count).2]) := by
  subst hf hj hc
  rfl

set_option maxRecDepth 20000 in
set_option maxHeartbeats 1600000 in
theorem refRead_any (d : List UInt8) (off count : Int) (w : World) (hl : d.length ≤ 1048576) (ho : -9223372036854775808 ≤ off ∧ off ≤ 9223372036854775807) (hc : -9223372036854775808 ≤ count ∧ count ≤ 9223372036854775807) :
    Calls Try.prog 18 #[.string (bs d), .int .i64 off, .int .i64 count] w fun e w' => e = .returned (.tuple #[.string (bs (nRead d off count).1), .bool (nRead d off count).2]) ∧ Below w.heap.size w w' := by
  have hsz := bs_size d
  obtain ⟨i, hi, hz, hsize, hby⟩ := infoU8n
  obtain ⟨f, hf⟩ : ∃ f, f = nFrom d off := ⟨_, rfl⟩
  obtain ⟨N, hN⟩ : ∃ N, N = nCount d off count := ⟨_, rfl⟩
  have hfv : f = (min (max off 0) (d.length : Int)).toNat := hf
  have hNv : N = (min (min (max count 0) 256) ((d.length : Int) - f)).toNat := by rw [hf, hN]; rfl
  have HF := Lib.hid hf
  have HN := Lib.hid hN
  clear hf hN
  have hcase : off < 0 ∨ (¬ off < 0 ∧ ¬ (d.length : Int) < off) ∨ (¬ off < 0 ∧ (d.length : Int) < off) := by omega
  rcases hcase with h1 | ⟨h1, h2⟩ | ⟨h1, h2⟩
  · have hf0 : f = 0 := by omega
    have hnl : ¬ (d.length : Int) < 0 := by omega
    have HF0 := Lib.hid hf0
    have HV := Lib.hid hNv
    have hNf : N ≤ 256 ∧ N + f ≤ d.length ∧ (N : Int) ≤ max count 0 := by omega
    clear hf0 hfv hNv
    go_enter Try.func18, Try.ntmps18
    go_wp2
    go_loopw [8, 9] (fun out iv wr => ∃ j : Nat, j ≤ N ∧ iv = .int .i64 ((f : Int) + (j : Int)) ∧ RowB wr w.heap.size 5 out ((d.drop f).take j) ∧ Below w.heap.size w wr) (fun out _ _ => N - lenV out)
    case atStart => exact ⟨0, Nat.zero_le _, by rw [HF0.out]; rfl, by rw [List.take_zero]; exact RowB.none_, Below.refl _ _⟩
    case round =>
      clear h1 hnl
      obtain ⟨j, hj, rfl, hR, hb⟩ := hrel
      obtain ⟨A, c, rfl⟩ := hR.len
      have hlen : ((d.drop f).take j).length = j := by rw [List.length_take, List.length_drop]; omega
      have hfj : f + j ≤ d.length := by omega
      by_cases hlt : j < N
      · have hfl : f + j < d.length := by omega
        have hap := RowB.append (P := Try.prog) 80 80 i Try.underlying80 hi hz hsize hby hR hb.size (d[f + j]) (by rw [hlen]; omega)
        rw [show (d.drop f).take j ++ [d[f + j]] = (d.drop f).take (j + 1) by rw [List.take_add_one, List.getElem?_drop, List.getElem?_eq_getElem hfl]; rfl] at hap
        rw [hlen] at hap hR ⊢
        have HB := Lib.hid hb
        have g1 : (f : Int) + (j : Int) < (d.length : Int) := by omega
        have g2 : (j : Int) < count := by omega
        have g3 : (j : Int) < 256 := by omega
        have g4 : ((f : Int) + (j : Int)).toNat = f + j := by omega
        have g5 : (0 : Int) ≤ (f : Int) + (j : Int) := by omega
        have g6 : IntKind.i64.wrap ((f : Int) + (j : Int) + 1) = (f : Int) + ((j + 1 : Nat) : Int) := by rw [IntWalk.i64_in _ (by omega)]; omega
        go_wp2_with (first | (refine wpList_append_by (by rfl) (.tmp 34) (.tmp 38) #[80, 80] (by rfl) _ _ (by rfl) (by rfl) hap ?_; rintro v' w' ⟨hR', hb'⟩) | fail)
        have HR := Lib.hid hR'
        have HB2 := Lib.hid (hb' w HB.out)
        obtain ⟨A', c', rfl⟩ := hR'.len
        have hlen' : ((d.drop f).take (j + 1)).length = j + 1 := by rw [List.length_take, List.length_drop]; omega
        rw [hlen'] at HR ⊢
        clear hR hap hR' hb' HB
        go_wp2
        go_roundw
        case rel => exact ⟨j + 1, by omega, rfl, HR.out, HB2.out⟩
        case measure => simp [lenV]; omega
      · obtain rfl : j = N := by omega
        have hstr := hR.string (P := Try.prog) 80 9 Try.underlying80 Try.underlying5 Try.underlying9
        clear hR
        rw [hlen] at hstr ⊢
        go_wp2
        all_goals first
          | (go_ret2; exact ⟨refread_leaf HF.out HN.out (by rw [Bool.eq_iff_iff]; simp; omega), hb⟩)
          | (have hNv := HV.out; exfalso; omega)
  · obtain rfl : off = (f : Int) := by omega
    have HV := Lib.hid hNv
    have hNf : N ≤ 256 ∧ N + f ≤ d.length ∧ (N : Int) ≤ max count 0 := by omega
    clear hfv hNv
    go_enter Try.func18, Try.ntmps18
    go_wp2
    go_loopw [8, 9] (fun out iv wr => ∃ j : Nat, j ≤ N ∧ iv = .int .i64 ((f : Int) + (j : Int)) ∧ RowB wr w.heap.size 5 out ((d.drop f).take j) ∧ Below w.heap.size w wr) (fun out _ _ => N - lenV out)
    case atStart => exact ⟨0, Nat.zero_le _, by simp, by rw [List.take_zero]; exact RowB.none_, Below.refl _ _⟩
    case round =>
      clear h1 h2
      obtain ⟨j, hj, rfl, hR, hb⟩ := hrel
      obtain ⟨A, c, rfl⟩ := hR.len
      have hlen : ((d.drop f).take j).length = j := by rw [List.length_take, List.length_drop]; omega
      have hfj : f + j ≤ d.length := by omega
      by_cases hlt : j < N
      · have hfl : f + j < d.length := by omega
        have hap := RowB.append (P := Try.prog) 80 80 i Try.underlying80 hi hz hsize hby hR hb.size (d[f + j]) (by rw [hlen]; omega)
        rw [show (d.drop f).take j ++ [d[f + j]] = (d.drop f).take (j + 1) by rw [List.take_add_one, List.getElem?_drop, List.getElem?_eq_getElem hfl]; rfl] at hap
        rw [hlen] at hap hR ⊢
        have HB := Lib.hid hb
        have g1 : (f : Int) + (j : Int) < (d.length : Int) := by omega
        have g2 : (j : Int) < count := by omega
        have g3 : (j : Int) < 256 := by omega
        have g4 : ((f : Int) + (j : Int)).toNat = f + j := by omega
        have g5 : (0 : Int) ≤ (f : Int) + (j : Int) := by omega
        have g6 : IntKind.i64.wrap ((f : Int) + (j : Int) + 1) = (f : Int) + ((j + 1 : Nat) : Int) := by rw [IntWalk.i64_in _ (by omega)]; omega
        go_wp2_with (first | (refine wpList_append_by (by rfl) (.tmp 34) (.tmp 38) #[80, 80] (by rfl) _ _ (by rfl) (by rfl) hap ?_; rintro v' w' ⟨hR', hb'⟩) | fail)
        have HR := Lib.hid hR'
        have HB2 := Lib.hid (hb' w HB.out)
        obtain ⟨A', c', rfl⟩ := hR'.len
        have hlen' : ((d.drop f).take (j + 1)).length = j + 1 := by rw [List.length_take, List.length_drop]; omega
        rw [hlen'] at HR ⊢
        clear hR hap hR' hb' HB
        go_wp2
        go_roundw
        case rel => exact ⟨j + 1, by omega, rfl, HR.out, HB2.out⟩
        case measure => simp [lenV]; omega
      · obtain rfl : j = N := by omega
        have hstr := hR.string (P := Try.prog) 80 9 Try.underlying80 Try.underlying5 Try.underlying9
        clear hR
        rw [hlen] at hstr ⊢
        go_wp2
        all_goals first
          | (go_ret2; exact ⟨refread_leaf HF.out HN.out (by rw [Bool.eq_iff_iff]; simp; omega), hb⟩)
          | (have hNv := HV.out; exfalso; omega)
  · have hf0 : f = d.length := by omega
    have hnl : ¬ (d.length : Int) < 0 := by omega
    have HF0 := Lib.hid hf0
    have HV := Lib.hid hNv
    have hNf : N ≤ 256 ∧ N + f ≤ d.length ∧ (N : Int) ≤ max count 0 := by omega
    clear hf0 hfv hNv
    go_enter Try.func18, Try.ntmps18
    go_wp2
    go_loopw [8, 9] (fun out iv wr => ∃ j : Nat, j ≤ N ∧ iv = .int .i64 ((f : Int) + (j : Int)) ∧ RowB wr w.heap.size 5 out ((d.drop f).take j) ∧ Below w.heap.size w wr) (fun out _ _ => N - lenV out)
    case atStart => exact ⟨0, Nat.zero_le _, by rw [HF0.out]; simp, by rw [List.take_zero]; exact RowB.none_, Below.refl _ _⟩
    case round =>
      clear h1 h2 hnl
      obtain ⟨j, hj, rfl, hR, hb⟩ := hrel
      obtain ⟨A, c, rfl⟩ := hR.len
      have hlen : ((d.drop f).take j).length = j := by rw [List.length_take, List.length_drop]; omega
      have hfj : f + j ≤ d.length := by omega
      by_cases hlt : j < N
      · have hfl : f + j < d.length := by omega
        have hap := RowB.append (P := Try.prog) 80 80 i Try.underlying80 hi hz hsize hby hR hb.size (d[f + j]) (by rw [hlen]; omega)
        rw [show (d.drop f).take j ++ [d[f + j]] = (d.drop f).take (j + 1) by rw [List.take_add_one, List.getElem?_drop, List.getElem?_eq_getElem hfl]; rfl] at hap
        rw [hlen] at hap hR ⊢
        have HB := Lib.hid hb
        have g1 : (f : Int) + (j : Int) < (d.length : Int) := by omega
        have g2 : (j : Int) < count := by omega
        have g3 : (j : Int) < 256 := by omega
        have g4 : ((f : Int) + (j : Int)).toNat = f + j := by omega
        have g5 : (0 : Int) ≤ (f : Int) + (j : Int) := by omega
        have g6 : IntKind.i64.wrap ((f : Int) + (j : Int) + 1) = (f : Int) + ((j + 1 : Nat) : Int) := by rw [IntWalk.i64_in _ (by omega)]; omega
        go_wp2_with (first | (refine wpList_append_by (by rfl) (.tmp 34) (.tmp 38) #[80, 80] (by rfl) _ _ (by rfl) (by rfl) hap ?_; rintro v' w' ⟨hR', hb'⟩) | fail)
        have HR := Lib.hid hR'
        have HB2 := Lib.hid (hb' w HB.out)
        obtain ⟨A', c', rfl⟩ := hR'.len
        have hlen' : ((d.drop f).take (j + 1)).length = j + 1 := by rw [List.length_take, List.length_drop]; omega
        rw [hlen'] at HR ⊢
        clear hR hap hR' hb' HB
        go_wp2
        go_roundw
        case rel => exact ⟨j + 1, by omega, rfl, HR.out, HB2.out⟩
        case measure => simp [lenV]; omega
      · obtain rfl : j = N := by omega
        have hstr := hR.string (P := Try.prog) 80 9 Try.underlying80 Try.underlying5 Try.underlying9
        clear hR
        rw [hlen] at hstr ⊢
        go_wp2
        all_goals first
          | (go_ret2; exact ⟨refread_leaf HF.out HN.out (by rw [Bool.eq_iff_iff]; simp; omega), hb⟩)
          | (have hNv := HV.out; exfalso; omega)
end Go.Proofs.Ytjkpcbbiihedaaa
