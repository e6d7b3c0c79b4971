/-
  Layer 21, walks: the least number that is free. No condition but at most 2^40 nodes.
-/
import Derived.Test.YteommanceipipaaSpaceWalkB

namespace Go.Proofs.Yteommanceipipaa
open Go.RowKit

set_option maxHeartbeats 800000 in
theorem indexFunc_any (A : Option Addr) (c : Nat) (ns : List Nd) (w : World) (f : Nat) (cap : Array Value) (p : Nd → Bool) (hl : ns.length ≤ 1000000000000) (hA : At w 15 A (ns.map Nd.vals)) (hf : Tells w f cap p) :
    Calls Try.prog 28 #[.slice A ns.length c, .func (.func f) #[] cap] w fun e w' => e = .returned (.int .i64 (findI p ns)) ∧ Below w.heap.size w w' := by
  go_enter Try.func28, Try.ntmps28
  go_wp2
  go_loopw [8] (fun i wr => ∃ k : Nat, k ≤ ns.length ∧ i = .int .i64 k ∧ (ns.take k).any p = false ∧ Below w.heap.size w wr) (fun i _ => ns.length - (intOf i).toNat)
  case atStart => exact ⟨0, Nat.zero_le _, rfl, rfl, Below.refl _ _⟩
  case round =>
    obtain ⟨k, hk, rfl, hn, hB⟩ := hrel
    have HN := Lib.hid hn
    clear hn
    by_cases hlt : k < ns.length
    · have hA2 := hA.below hB
      obtain ⟨b, off, rfl, hb, hc⟩ := nodeCell hA2 hlt
      have hrun := hf.run
      go_wp2_with (first
        | (refine wpList_load_mid (by rfl) 45 _ (by rfl) _ _ (by rfl) _ _ hc Try.underlying45 (by rfl) (by kernel_rfl) ?_)
        | fail)
      refine (hf.calls _ _ hB).mono ?_
      rintro e w1 ⟨rfl, hb1⟩
      have hB1 : Below w.heap.size w w1 := below_then hB hb1
      by_cases h : p ns[k] = true
      · have HS := Lib.hid (findI_hit hlt HN.out h)
        clear hrun hc hA hA2 hf hb1 HN
        go_wp2
        go_ret
        exact ⟨ret_int HS.out.symm, hB1⟩
      · rw [Bool.not_eq_true] at h
        have HS := Lib.hid (any_step hlt HN.out h)
        clear hrun hc hA hA2 hf hb1 HN
        go_wp2
        go_roundw
        case rel => exact ⟨k + 1, by omega, by go_num, HS.out, hB1⟩
        case measure => simp [intOf]; omega
    · have HS := Lib.hid (findI_none (any_end (by omega) HN.out))
      go_wp2
      go_ret
      exact ⟨ret_int HS.out.symm, hB⟩

theorem containsFunc_any (A : Option Addr) (c : Nat) (ns : List Nd) (w : World) (f : Nat) (cap : Array Value) (p : Nd → Bool) (hl : ns.length ≤ 1000000000000) (hA : At w 15 A (ns.map Nd.vals)) (hf : Tells w f cap p) :
    Calls Try.prog 25 #[.slice A ns.length c, .func (.func f) #[] cap] w fun e w' => e = .returned (.bool (ns.any p)) ∧ Below w.heap.size w w' := by
  go_enter Try.func25, Try.ntmps25
  go_wp2_with (go_at_call 28; refine (indexFunc_any A c ns _ f cap p hl hA hf).mono ?_; rintro e w' ⟨rfl, hb⟩)
  go_ret
  exact ⟨ret_bool (findI_any _ _), hb⟩

theorem tells_id (w : World) (g : Nat) (id : Int) (h : w.heap[g]? = some (.cells #[.int .i64 id] 3 (0, 0))) : Tells w 26 #[.pointer (some ⟨g, 0, none⟩)] (fun n => n.attr.id == id) where
  run := Try.call26
  calls := fun W n hb => by
    have hg := lt_of_block h
    have h1 : W.cell? ⟨g, 0, none⟩ = some (.int .i64 id) := (hb.cell (p := ⟨g, 0, none⟩) hg).trans (cell_of_one h)
    have h2 : (W.alloc (.cells n.vals.toArray 45)).cell? ⟨W.heap.size, 6, none⟩ = some (.int .i64 n.attr.id) := range_new W n.vals 45 6 _ rfl
    have h3 := Nat.lt_of_lt_of_le hg hb.size
    go_enter Try.func26, Try.ntmps26
    go_wp2
    go_ret
    exact ⟨rfl, (Below.refl _ _).alloc (Nat.le_refl _) _⟩

set_option maxHeartbeats 800000 in
theorem id_any (A : Option Addr) (c : Nat) (ns : List Nd) (w : World) (hl : ns.length ≤ 1000000000000) (hA : At w 15 A (ns.map Nd.vals)) :
    Calls Try.prog 15 #[.slice A ns.length c] w fun e w' => (∃ id : Nat, e = .returned (.int .i64 id) ∧ Free ns id) ∧ Below w.heap.size w w' := by
  go_enter Try.func15, Try.ntmps15
  go_wp2
  go_loopg [] (ns.length + 1) (fun m wr => ∃ id : Nat, 1 ≤ id ∧ m + id = ns.length + 2 ∧ (∀ j : Nat, 1 ≤ j → j < id → taken ns j = true) ∧ wr.heap[w.heap.size]? = some (.cells #[.int .i64 id] 3 (0, 0)) ∧ Below w.heap.size w wr)
  case atStart => exact ⟨1, by omega, by omega, fun j _ _ => by omega, heap_alloc_new _ _, (Below.refl _ _).alloc (Nat.le_refl _) _⟩
  case round =>
    obtain ⟨id, h1, hm, ht, hblk, hB⟩ := hrel
    go_wp2_with fail
    refine (containsFunc_any A c ns wr _ _ _ hl (hA.below hB) (tells_id wr w.heap.size id hblk)).mono ?_
    rintro e w1 ⟨rfl, hb1⟩
    have hblk1 : w1.heap[w.heap.size]? = some (.cells #[.int .i64 id] 3 (0, 0)) := (hb1.block _ (lt_of_block hblk)).trans hblk
    have hB1 : Below w.heap.size w w1 := below_then hB hb1
    have hcell := cell_of_one hblk1
    have hfree := free_of_one hblk1
    have hS := one_setCell (u := .int .i64 ((id + 1 : Nat) : Int)) hblk1
    rw [show (((id + 1 : Nat) : Int)) = (id : Int) + 1 from by omega] at hS
    have HS := Lib.hid hS
    have HB := Lib.hid hblk1
    by_cases h : (ns.any fun n => n.attr.id == (id : Int)) = true
    · have ht' : ∀ j : Nat, 1 ≤ j → j < id + 1 → taken ns j = true := fun j h2 h3 => by
        rcases Nat.lt_or_ge j id with h4 | h4
        · exact ht j h2 h4
        · obtain rfl : j = id := by omega
          exact h
      have hle := taken_le (m := id) fun j h2 h3 => ht' j h2 (by omega)
      have HT := Lib.hid ht'
      clear ht ht' hblk hblk1 hS hA hb1
      go_wp2
      go_roundg (gk - 1)
      case measure => omega
      case rel => exact ⟨id + 1, by omega, by omega, HT.out, HS.out, hB1.setCell (by simp) _⟩
    · rw [Bool.not_eq_true] at h
      have HT := Lib.hid ht
      have HF := Lib.hid h
      clear ht hblk hblk1 hS hA hb1
      go_wp2
      go_ret
      exact ⟨⟨id, rfl, h1, HF.out, HT.out⟩, hB1⟩
end Go.Proofs.Yteommanceipipaa
