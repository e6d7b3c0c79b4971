/-
  Layer 21, walks: the program's sums and searches over nodes, by closures. Conditions: at most 70 nodes, of at most 2000 bytes each.
-/
import Derived.Test.YteommanceipipaaSpaceWalkA
namespace Go.Proofs.Yteommanceipipaa
open Go.RowKit

/-- what a closure over one node does, in every later world -/
structure Tells (w : World) (f : Nat) (cap : Array Value) (p : Nd → Bool) : Prop where
  run : ∀ args W, (callFunc f args).run Try.prog W = .ok (.enter f args) W
  calls : ∀ (W : World) (n : Nd), Below w.heap.size w W → Calls Try.prog f (#[.agg n.vals.toArray] ++ cap) W fun e W' => e = .returned (.bool (p n)) ∧ Below W.heap.size W W'

def cnt (p : Nd → Bool) (ns : List Nd) : Nat := used (ns.filter p)
theorem cnt_hit {p : Nd → Bool} {ns : List Nd} {k : Nat} (hk : k < ns.length) (h : p ns[k] = true) : cnt p (ns.take (k + 1)) = cnt p (ns.take k) + ns[k].data.size := by
  unfold cnt; rw [take_succ _ _ hk, List.filter_append]; simp only [List.filter_cons, h, if_true, List.filter_nil]; exact used_snoc _ _
theorem cnt_miss {p : Nd → Bool} {ns : List Nd} {k : Nat} (hk : k < ns.length) (h : p ns[k] = false) : cnt p (ns.take (k + 1)) = cnt p (ns.take k) := by
  unfold cnt; rw [take_succ _ _ hk, List.filter_append]; simp [h]

theorem infoNode : (Try.prog.info? 45).map (fun i => (i.zero, i.size)) = some (some (.agg #[.int .i64 0, .int .i64 0, .int .i64 0, .int .i64 0, .int .i64 0, .int .i64 0, .int .i64 0, .int .i64 0, .int .i64 0, .int .i64 0, .string .empty, .int .i64 0, .int .i64 0, .int .i64 0, .slice none 0 0]), 15) := by kernel_rfl

set_option maxHeartbeats 800000 in
theorem count_any (A : Option Addr) (c : Nat) (ns : List Nd) (w : World) (f : Nat) (cap : Array Value) (p : Nd → Bool) (hs : small ns) (hA : At w 15 A (ns.map Nd.vals)) (hf : Tells w f cap p) :
    Calls Try.prog 22 #[.slice A ns.length c, .func (.func f) #[] cap] w fun e w' => e = .returned (.int .i64 (cnt p ns)) ∧ Below w.heap.size w w' := by
  have hl := hs.1
  go_enter Try.func22, Try.ntmps22
  go_wp2
  go_loopw [5, 10] (fun n i wr => ∃ k : Nat, k ≤ ns.length ∧ i = .int .i64 k ∧ n = .int .i64 (cnt p (ns.take k)) ∧ Below w.heap.size w wr) (fun _ i _ => ns.length - (intOf i).toNat)
  case atStart => exact ⟨0, Nat.zero_le _, rfl, rfl, Below.refl _ _⟩
  case round =>
    obtain ⟨k, hk, rfl, rfl, hB⟩ := hrel
    by_cases hlt : k < ns.length
    · have hA2 := hA.below hB
      obtain ⟨b, off, rfl, hb, hc⟩ := nodeCell hA2 hlt
      have hd : ns[k].data.size ≤ 2000 := hs.2 _ (List.getElem_mem hlt)
      have hu : cnt p (ns.take k) ≤ 2000 * 70 := Nat.le_trans (used_filter_le _ _) (Nat.le_trans (used_le _ fun n hn => hs.2 n (List.mem_of_mem_take hn)) (Nat.mul_le_mul (Nat.le_refl _) (by simp; omega)))
      have hrun := hf.run
      go_wp2_with (first
        | (refine wpList_load_mid (by rfl) 45 _ (by rfl) _ _ (by rfl) _ _ (by first | exact hc | exact range_new _ _ _) Try.underlying45 (by rfl) (by kernel_rfl) ?_)
        | (refine wpList_new_struct (by rfl) (by rfl) 45 (by rfl) _ _ (by rfl) ns[k].vals infoNode (by rfl) (by rfl) (Nd.one _) (by rfl) (by rfl) ?_)
        | fail)
      refine (hf.calls _ _ (hB.alloc hB.size _)).mono ?_
      rintro e w1 ⟨rfl, hb1⟩
      have hn10 : w1.cell? ⟨wr.heap.size, 10, none⟩ = some (.string ns[k].data) := (hb1.cell (p := ⟨wr.heap.size, 10, none⟩) (by simp)).trans (range_new wr ns[k].vals 45 10 _ rfl)
      have hB1 : Below w.heap.size w w1 := below_then (hB.alloc hB.size _) hb1
      clear hrun hc hA hA2 hf hb1
      by_cases h : p ns[k] = true
      · have HS := Lib.hid (cnt_hit hlt h)
        go_wp2
        go_roundw
        case rel => exact ⟨k + 1, by omega, by go_num, by rw [HS.out]; go_num, hB1⟩
        case measure => simp [intOf]; omega
      · rw [Bool.not_eq_true] at h
        have HS := Lib.hid (cnt_miss hlt h)
        go_wp2
        go_roundw
        case rel => exact ⟨k + 1, by omega, by go_num, by rw [HS.out], hB1⟩
        case measure => simp [intOf]; omega
    · go_wp2
      go_ret
      exact ⟨ret_int (by rw [List.take_of_length_le (by omega)]), hB⟩

theorem cnt_all (ns : List Nd) : cnt (fun _ => true) ns = used ns := by unfold cnt; rw [List.filter_eq_self.2 (by simp)]
theorem tells_all (w : World) : Tells w 23 #[] (fun _ => true) where
  run := Try.call23
  calls := fun W n _ => by
    go_enter Try.func23, Try.ntmps23
    go_wp2
    go_ret
    exact ⟨rfl, (Below.refl _ _).alloc (Nat.le_refl _) _⟩

theorem used_any (A : Option Addr) (c : Nat) (ns : List Nd) (w : World) (hs : small ns) (hA : At w 15 A (ns.map Nd.vals)) :
    Calls Try.prog 11 #[.slice A ns.length c] w fun e w' => e = .returned (.int .i64 (used ns)) ∧ Below w.heap.size w w' := by
  go_enter Try.func11, Try.ntmps11
  go_wp2_with (go_at_call 22; refine (count_any A c ns _ 23 #[] _ hs hA (tells_all _)).mono ?_; rintro e w' ⟨rfl, hb⟩)
  go_ret
  exact ⟨ret_int (by rw [cnt_all]), hb⟩

theorem tells_uid (w : World) (g : Nat) (uid : Int) (hg : g < w.heap.size) (h : w.cell? ⟨g, 0, none⟩ = some (.int .i64 uid)) : Tells w 24 #[.pointer (some ⟨g, 0, none⟩)] (fun n => n.attr.uid == uid) where
  run := Try.call24
  calls := fun W n hb => by
    have h1 : W.cell? ⟨g, 0, none⟩ = some (.int .i64 uid) := (hb.cell (p := ⟨g, 0, none⟩) hg).trans h
    have h2 : (W.alloc (.cells n.vals.toArray 45)).cell? ⟨W.heap.size, 3, none⟩ = some (.int .i64 n.attr.uid) := range_new W n.vals 45 3 _ rfl
    have h3 := Nat.lt_of_lt_of_le hg hb.size
    go_enter Try.func24, Try.ntmps24
    go_wp2
    go_ret
    exact ⟨rfl, (Below.refl _ _).alloc (Nat.le_refl _) _⟩

theorem owned_any (A : Option Addr) (c : Nat) (ns : List Nd) (uid : Int) (w : World) (hs : small ns) (hA : At w 15 A (ns.map Nd.vals)) :
    Calls Try.prog 13 #[.slice A ns.length c, .int .i64 uid] w fun e w' => e = .returned (.int .i64 (owned ns uid)) ∧ Below w.heap.size w w' := by
  have hA1 := hA.alloc (.cells #[.int .i64 uid] 3)
  have ht := tells_uid (w.alloc (.cells #[.int .i64 uid] 3)) w.heap.size uid (by simp) (by simp [go_sem])
  go_enter Try.func13, Try.ntmps13
  go_wp2_with (go_at_call 22; refine (count_any A c ns _ 24 _ _ hs hA1 ht).mono ?_; rintro e w' ⟨rfl, hb⟩)
  go_ret
  exact ⟨rfl, below_new _ hb⟩
end Go.Proofs.Yteommanceipipaa
