/-
  Layer 21, walks: the reference's sums over nodes. Conditions: at most 70 nodes, of at most 2000 bytes each.
-/
import Derived.Test.YteommanceipipaaProg
import Derived.Test.YteommanceipipaaSpacePure
namespace Go.Proofs.Yteommanceipipaa
open Go.RowKit

theorem nodeCell {w : World} {A : Option Addr} {ns : List Nd} (hA : At w 15 A (ns.map Nd.vals)) {k : Nat} (hk : k < ns.length) :
    ∃ b off, A = some ⟨b, off, none⟩ ∧ b < w.heap.size ∧ ∀ j u, ns[k].vals[j]? = some u → w.cell? ⟨b, off + k * 15 + j, none⟩ = some u := by
  obtain ⟨b, off, rfl, hb, hc⟩ := hA.getD (k := k) (by simpa using hk)
  exact ⟨b, off, rfl, hb, fun j u hu => hc j u (by simpa using hu)⟩

set_option maxHeartbeats 400000 in
theorem refUsed_any (A : Option Addr) (c : Nat) (ns : List Nd) (w : World) (hs : small ns) (hA : At w 15 A (ns.map Nd.vals)) :
    Calls Try.prog 12 #[.slice A ns.length c] w fun e w' => e = .returned (.int .i64 (used ns)) ∧ Below w.heap.size w w' := by
  have hl := hs.1
  go_enter Try.func12, Try.ntmps12
  go_wp2
  go_loop [3, 4] (fun n i => ∃ k : Nat, k ≤ ns.length ∧ i = .int .i64 k ∧ n = .int .i64 (used (ns.take k))) (fun _ i => ns.length - (intOf i).toNat)
  case atStart => exact ⟨0, Nat.zero_le _, rfl, rfl⟩
  case round =>
    obtain ⟨k, hk, rfl, rfl⟩ := hrel
    by_cases hlt : k < ns.length
    · obtain ⟨b, off, rfl, hb, hc⟩ := nodeCell hA hlt
      have hc10 := hc 10 (.string ns[k].data) rfl
      have hd : ns[k].data.size ≤ 2000 := hs.2 _ (List.getElem_mem hlt)
      have hu : used (ns.take k) ≤ 2000 * 70 := Nat.le_trans (used_le _ fun n hn => hs.2 n (List.mem_of_mem_take hn)) (Nat.mul_le_mul (Nat.le_refl _) (by simp; omega))
      have HS : Hid (used (ns.take (k + 1)) = used (ns.take k) + ns[k].data.size) := by rw [take_succ _ _ hlt]; exact used_snoc _ _
      clear hc hA hs
      go_wp2
      go_round
      case rel => exact ⟨k + 1, by omega, by go_num, by rw [HS.out]; go_num⟩
      case measure => simp [intOf]; omega
    · go_wp2
      go_ret
      exact ⟨ret_int (by rw [List.take_of_length_le (by omega)]), Below.refl _ _⟩

set_option maxHeartbeats 400000 in
theorem refOwned_any (A : Option Addr) (c : Nat) (ns : List Nd) (uid : Int) (w : World) (hs : small ns) (hA : At w 15 A (ns.map Nd.vals)) :
    Calls Try.prog 14 #[.slice A ns.length c, .int .i64 uid] w fun e w' => e = .returned (.int .i64 (owned ns uid)) ∧ Below w.heap.size w w' := by
  have hl := hs.1
  go_enter Try.func14, Try.ntmps14
  go_wp2
  go_loop [5, 6] (fun n i => ∃ k : Nat, k ≤ ns.length ∧ i = .int .i64 k ∧ n = .int .i64 (owned (ns.take k) uid)) (fun _ i => ns.length - (intOf i).toNat)
  case atStart => exact ⟨0, Nat.zero_le _, rfl, rfl⟩
  case round =>
    obtain ⟨k, hk, rfl, rfl⟩ := hrel
    by_cases hlt : k < ns.length
    · obtain ⟨b, off, rfl, hb, hc⟩ := nodeCell hA hlt
      have hc10 := hc 10 (.string ns[k].data) rfl
      have hc3 := hc 3 (.int .i64 ns[k].attr.uid) rfl
      have hd : ns[k].data.size ≤ 2000 := hs.2 _ (List.getElem_mem hlt)
      have hu : owned (ns.take k) uid ≤ 2000 * 70 := Nat.le_trans (used_filter_le _ _) (Nat.le_trans (used_le _ fun n hn => hs.2 n (List.mem_of_mem_take hn)) (Nat.mul_le_mul (Nat.le_refl _) (by simp; omega)))
      clear hc hA hs
      by_cases h : (ns[k].attr.uid == uid) = true
      · have HS2 := Lib.hid (owned_hit hlt h)
        go_wp2
        go_round
        case rel => exact ⟨k + 1, by omega, by go_num, by rw [HS2.out]; go_num⟩
        case measure => simp [intOf]; omega
      · rw [Bool.not_eq_true] at h
        have HS2 := Lib.hid (owned_miss hlt h)
        go_wp2
        go_round
        case rel => exact ⟨k + 1, by omega, by go_num, by rw [HS2.out]⟩
        case measure => simp [intOf]; omega
    · go_wp2
      go_ret
      exact ⟨ret_int (by rw [List.take_of_length_le (by omega)]), Below.refl _ _⟩

set_option maxHeartbeats 400000 in
theorem large_any (A : Option Addr) (c : Nat) (ns : List Nd) (w : World) (_hl : ns.length ≤ 9223372036854775807) (hd : ∀ n ∈ ns, n.data.size ≤ 9223372036854775807 ∧ n.en ≤ 9223372036854775807) (hA : At w 15 A (ns.map Nd.vals)) :
    Calls Try.prog 5 #[.slice A ns.length c] w fun e w' => e = .returned (.bool (large ns)) ∧ w = w' := by
  go_enter Try.func5, Try.ntmps5
  go_wp2
  go_loop [3] (fun i => ∃ k : Nat, k ≤ ns.length ∧ k ≤ 70 ∧ i = .int .i64 k ∧ (ns.take k).any bulky = false) (fun i => ns.length - (intOf i).toNat)
  case atStart => exact ⟨0, Nat.zero_le _, by omega, rfl, rfl⟩
  case round =>
    obtain ⟨k, hk, hk7, rfl, hn⟩ := hrel
    by_cases hlt : k < ns.length ∧ k < 70
    · obtain ⟨hlt, hlt7⟩ := hlt
      obtain ⟨b, off, rfl, hb, hc⟩ := nodeCell hA hlt
      have hc10 := hc 10 (.string ns[k].data) rfl
      have hc14 := hc 14 (.slice ns[k].ea ns[k].en ns[k].ec) rfl
      have hdk := (hd _ (List.getElem_mem hlt)).1
      have hek := (hd _ (List.getElem_mem hlt)).2
      by_cases hb : bulky ns[k] = true
      · have HL := Lib.hid (large_yes hlt hlt7 hb)
        simp only [bulky, Bool.or_eq_true, decide_eq_true_eq] at hb
        clear hc hA hd hn
        by_cases h1 : 2000 < ns[k].data.size
        all_goals
          go_wp2
          go_ret
          exact ⟨ret_bool HL.out.symm, rfl⟩
      · rw [Bool.not_eq_true] at hb
        have HS := Lib.hid (bulky_step hlt hn hb)
        simp only [bulky, Bool.or_eq_false_iff, decide_eq_false_iff_not] at hb
        obtain ⟨h1, h2⟩ := hb
        clear hc hA hd hn
        go_wp2
        go_round
        case rel => exact ⟨k + 1, by omega, by omega, by go_num, HS.out⟩
        case measure => simp [intOf]; omega
    · have HE := Lib.hid (large_end hk hk7 hn hlt)
      clear hn hA hd
      by_cases h1 : k < ns.length
      all_goals
        go_wp2
        go_ret
        exact ⟨ret_bool HE.out.symm, rfl⟩
end Go.Proofs.Yteommanceipipaa
