/-
  Layer 21, walks: the reference's least number; two lists of numbers held against each other; the least of some numbers. Conditions: at most 70 nodes; lists of known numbers.
-/
import Derived.Test.YteommanceipipaaSpaceWalkC
namespace Go.Proofs.Yteommanceipipaa
open Go.RowKit

theorem any_or {ns : List Nd} {p : Nd → Bool} {k : Nat} (hk : k < ns.length) : (ns.take (k + 1)).any p = ((ns.take k).any p || p ns[k]) := by
  rw [take_succ _ _ hk, List.any_append]; simp

set_option maxHeartbeats 800000 in
theorem refId_any (A : Option Addr) (c : Nat) (ns : List Nd) (w : World) (hl : ns.length ≤ 1000000000000) (hA : At w 15 A (ns.map Nd.vals)) :
    Calls Try.prog 16 #[.slice A ns.length c] w fun e w' => (∃ id : Nat, e = .returned (.int .i64 id) ∧ Free ns id) ∧ Below w.heap.size w w' := by
  go_enter Try.func16, Try.ntmps16
  go_wp2
  go_loopg [3, 4, 5] (ns.length + 1) (fun m i _ _ wr => ∃ id : Nat, i = .int .i64 id ∧ 1 ≤ id ∧ m + id = ns.length + 2 ∧ (∀ j : Nat, 1 ≤ j → j < id → taken ns j = true) ∧ Below w.heap.size w wr)
  case atStart => exact ⟨1, rfl, by omega, by omega, fun j _ _ => by omega, Below.refl _ _⟩
  case round =>
    obtain ⟨id, rfl, h1, hm, ht, hB⟩ := hrel
    have HT := Lib.hid ht
    clear ht
    go_wp2
    go_loopg [4, 5] ns.length (fun m s i wr2 => ∃ k : Nat, i = .int .i64 k ∧ k + m = ns.length ∧ s = .bool ((ns.take k).any fun n => n.attr.id == (id : Int)) ∧ Below w.heap.size w wr2)
    case atStart => exact ⟨0, rfl, by omega, rfl, hB⟩
    case round =>
      obtain ⟨k, rfl, hkm, rfl, hB2⟩ := hrel
      by_cases hlt : k < ns.length
      · have HA := Lib.hid (any_or (p := fun n => n.attr.id == (id : Int)) hlt)
        obtain ⟨b, off, rfl, hb, hc⟩ := nodeCell (hA.below hB2) hlt
        have hc6 := hc 6 _ rfl
        cases hs : (ns.take k).any fun n => n.attr.id == (id : Int)
        all_goals
          rw [hs] at HA
          have HA2 := Lib.hid HA.out
          clear HA hc hs hA
          go_wp2
          go_roundg (gk - 1)
          case measure => omega
          case rel => exact ⟨k + 1, by go_num, by omega, by rw [HA2.out]; rfl, hB2⟩
      · have hall : (ns.take k).any (fun n => n.attr.id == (id : Int)) = taken ns id := by rw [List.take_of_length_le (by omega)]; rfl
        cases ht : taken ns id
        · rw [ht] at hall
          have HT2 := Lib.hid ht
          rw [hall]
          clear hall ht hA
          go_wp2
          go_ret
          exact ⟨⟨id, rfl, h1, HT2.out, HT.out⟩, hB2⟩
        · rw [ht] at hall
          have ht' : ∀ j : Nat, 1 ≤ j → j < id + 1 → taken ns j = true := fun j h2 h3 => by
            rcases Nat.lt_or_ge j id with h4 | h4
            · exact HT.out j h2 h4
            · obtain rfl : j = id := by omega
              exact ht
          have hle := taken_le (m := id) fun j h2 h3 => ht' j h2 (by omega)
          have HT2 := Lib.hid ht'
          rw [hall]
          clear hall ht' ht hA
          go_wp2
          go_roundg (ns.length + 1 - id)
          case measure => omega
          case rel => exact ⟨id + 1, by go_num, by omega, by omega, HT2.out, hB2⟩

/-- a slice of numbers that is known -/
def ints (l : List Int) : List (List Value) := l.map fun n => [.int .i64 n]
theorem intCell {w : World} {A : Option Addr} {l : List Int} (hA : At w 1 A (ints l)) {k : Nat} (hk : k < l.length) :
    ∃ b off, A = some ⟨b, off, none⟩ ∧ b < w.heap.size ∧ w.cell? ⟨b, off + k, none⟩ = some (.int .i64 l[k]) := by
  obtain ⟨b, off, rfl, hb, hc⟩ := hA.getD (k := k) (by simpa [ints] using hk)
  exact ⟨b, off, rfl, hb, by simpa using hc 0 _ (by simp [ints])⟩

theorem ints_new (l : List Int) (w : World) (T : TypeId) : At (w.alloc (.cells (l.map (Value.int .i64)).toArray T)) 1 (some ⟨w.heap.size, 0, none⟩) (ints l) := by
  intro i r hr
  refine ⟨w.heap.size, 0, rfl, by simp, fun j u hu => ?_⟩
  simp only [ints, List.getElem?_map, Option.map_eq_some_iff] at hr
  obtain ⟨n, hn, rfl⟩ := hr
  match j, hu with
  | 0, hu =>
    simp only [List.getElem?_cons_zero, Option.some.injEq] at hu
    subst hu
    rw [World.cell?_alloc_at _ _ _ _ rfl]
    simp [hn]

set_option maxHeartbeats 800000 in
theorem ints_any (A B : Option Addr) (c d : Nat) (l m : List Int) (w : World) (hl : l.length ≤ 1000000000000) (hm : m.length ≤ 1000000000000) (hA : At w 1 A (ints l)) (hB : At w 1 B (ints m)) :
    Calls Try.prog 17 #[.slice A l.length c, .slice B m.length d] w fun e w' => e = .returned (.bool (l == m)) ∧ Below w.heap.size w w' := by
  by_cases hlm : l.length = m.length
  case neg =>
    have hb : ((l.length : Int) == (m.length : Int)) = false := by simpa using by omega
    have hr := Lib.hid (show (l == m) = false by simp; exact fun e => hlm (by rw [e]))
    go_enter Try.func17, Try.ntmps17
    go_wp2
    go_ret
    exact ⟨ret_bool hr.out.symm, Below.refl _ _⟩
  case pos =>
    have hb : ((l.length : Int) == (m.length : Int)) = true := by simpa using by omega
    have HL := Lib.hid hlm
    have hl2 : l.length ≤ m.length := by omega
    clear hlm
    go_enter Try.func17, Try.ntmps17
    go_wp2
    go_loopg [5] l.length (fun g i wr => ∃ k : Nat, i = .int .i64 k ∧ k + g = l.length ∧ l.take k = m.take k ∧ Below w.heap.size w wr)
    case atStart => exact ⟨0, rfl, by omega, rfl, Below.refl _ _⟩
    case round =>
      obtain ⟨k, rfl, hk, ht, hBr⟩ := hrel
      have HT := Lib.hid ht
      clear ht
      by_cases hlt : k < l.length
      · have hlt2 : k < m.length := by omega
        obtain ⟨b, off, rfl, hb1, hc1⟩ := intCell (hA.below hBr) hlt
        obtain ⟨b2, off2, rfl, hb2, hc2⟩ := intCell (hB.below hBr) hlt2
        have hi : ((k : Int) < (l.length : Int)) := by omega
        have hi2 : ((k : Int) < (m.length : Int)) := by omega
        clear hA hB
        by_cases he : l[k] = m[k]
        · have he' : (l[k] == m[k]) = true := by simpa using he
          have HS : Hid (l.take (k + 1) = m.take (k + 1)) := by
            show l.take (k + 1) = m.take (k + 1)
            rw [List.take_succ_eq_append_getElem hlt, List.take_succ_eq_append_getElem hlt2, HT.out, he]
          clear he
          go_wp2_with fail
          go_quiet (fail)
          go_wp2
          go_roundg (gk - 1)
          case measure => omega
          case rel => exact ⟨k + 1, by go_num, by omega, HS.out, bdN hBr _⟩
        · have he' : (l[k] == m[k]) = false := by simpa using he
          have HS : Hid ((l == m) = false) := by
            show (l == m) = false
            simp; intro e; subst e; exact he rfl
          clear he
          go_wp2_with fail
          go_quiet (fail)
          go_wp2
          go_ret
          exact ⟨ret_bool HS.out.symm, bdN hBr _⟩
      · have HS : Hid ((l == m) = true) := by
          show (l == m) = true
          have := HT.out
          have hl3 := HL.out
          rw [List.take_of_length_le (by omega), List.take_of_length_le (by omega)] at this
          simpa using this
        go_wp2
        go_ret
        exact ⟨ret_bool HS.out.symm, hBr⟩

/-- the least of a list of numbers that is not empty -/
def leastOf : List Int → Int
  | [] => 0
  | x :: l => l.foldl min x
theorem leastOf_two (a b : Int) : leastOf [a, b] = min a b := rfl

set_option maxHeartbeats 800000 in
theorem min_any (A : Option Addr) (c : Nat) (a b : Int) (w : World) (hA : At w 1 A (ints [a, b])) :
    Calls Try.prog 29 #[.slice A 2 c] w fun e w' => e = .returned (.int .i64 (min a b)) ∧ Below w.heap.size w w' := by
  obtain ⟨b0, off, rfl, hb1, hc0⟩ := intCell hA (k := 0) (by simp)
  obtain ⟨b1, off1, he, hb2, hc1⟩ := intCell hA (k := 1) (by simp)
  simp only [Option.some.injEq, Addr.mk.injEq] at he
  obtain ⟨rfl, rfl, _⟩ := he
  simp only [List.getElem_cons_zero, List.getElem_cons_succ, Nat.add_zero] at hc0 hc1
  by_cases hab : b < a
  all_goals
    go_enter Try.func29, Try.ntmps29
    go_wp2
    refine wp_loop_rounds 2 ?_
    rw [rounds_succ]
    go_wp2
    rw [rounds_succ]
    go_wp2
    go_ret
    exact ⟨ret_int (by omega), Below.refl _ _⟩

theorem least_any (A : Option Addr) (c : Nat) (a b : Int) (w : World) (hA : At w 1 A (ints [a, b])) :
    Calls Try.prog 27 #[.slice A 2 c] w fun e w' => e = .returned (.int .i64 (min a b)) ∧ Below w.heap.size w w' := by
  go_enter Try.func27, Try.ntmps27
  go_wp2_with (go_at_call 29; refine (min_any A c a b _ hA).mono ?_; rintro e w' ⟨rfl, hb⟩)
  go_ret
  exact ⟨rfl, hb⟩

end Go.Proofs.Yteommanceipipaa
