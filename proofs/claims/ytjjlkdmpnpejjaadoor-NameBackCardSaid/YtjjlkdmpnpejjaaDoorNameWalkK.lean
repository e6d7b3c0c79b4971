/-
  Layer 4, walks: paths of pieces, by both; two lists; the fixed calls. Condition: machine texts; the library's own number is some number.
-/
import Derived.Test.YtjjlkdmpnpejjaaDoorNameWalkJ
import Derived.Test.YtjjlkdmpnpejjaaDoorNameWalkE
namespace Go.Proofs.YtjjlkdmpnpejjaaDoor
open Go.RowKit
attribute [local go_sem ↓] Go.wp_at_zero Go.wp_at_succ
attribute [local go_sem] rowAt_ptr rowOf_drew rowOf_drewN rowOf_alloc_past rowOf_new

theorem strs_cell {w : World} {A : Option Addr} {ps : List (List UInt8)} (hA : At w 1 A (ps.map str1)) {k : Nat} (hk : k < ps.length) : ∃ b off, A = some ⟨b, off, none⟩ ∧ w.cell? ⟨b, off + k, none⟩ = some (.string (bs ps[k])) := by
  obtain ⟨b, off, e, -, hc⟩ := hA.getD (k := k) (by simpa using hk)
  refine ⟨b, off, e, ?_⟩
  have := hc 0 (.string (bs ps[k])) (by simp [str1])
  simpa using this
theorem join_any (A : Option Addr) (c : Nat) (ps : List (List UInt8)) (sep : List UInt8) (w : World) (hl : ps.length ≤ 1000000) (hA : At w 1 A (ps.map str1)) (hf : (Lib.join ps sep).length ≤ 140737488355328) (hc : ps.length ≤ c) :
    Calls Tryd.prog 22 #[.slice A ps.length c, .string (bs sep)] w fun e w' => e = .returned (.string (bs (Lib.join ps sep))) ∧ Below w.heap.size w w' := by
  cases ps with
  | nil => exact (Tryd.strings_Join_none A c (bs sep) w).mono fun e w' ⟨h1, h2⟩ => ⟨h1, by rw [h2]; exact Below.refl _ _⟩
  | cons p ps =>
    obtain ⟨b, off, rfl, hb, -⟩ := hA 0 (str1 p) (by simp)
    have hj : Lib.join (((p :: ps).map bs).map (·.data.toList)) (bs sep).data.toList = Lib.join (p :: ps) sep := by
      rw [List.map_map, show ((fun x : ByteArray => x.data.toList) ∘ bs) = id from rfl, List.map_id]
    have h := Tryd.strings_Join b off c ((p :: ps).map bs) (bs sep) w (fun j x hx => by
      rw [List.getElem?_map] at hx
      obtain ⟨q, hq, rfl⟩ := Option.map_eq_some_iff.1 hx
      obtain ⟨hj, rfl⟩ := List.getElem?_eq_some_iff.1 hq
      obtain ⟨b', off', e, hcell⟩ := strs_cell hA hj
      injection e with e
      injection e with e1 e2 _
      subst e1 e2
      exact hcell) hb (by rw [List.length_map]; omega) (by rw [List.length_map]; exact hc) (by rw [hj]; exact hf)
    rw [hj, List.length_map] at h
    exact h

set_option maxHeartbeats 800000 in
theorem joinP4_any (A : Option Addr) (c : Nat) (ps : List (List UInt8)) (w : World) (hl : ps.length ≤ 1000) (hp : ∀ p ∈ ps, p.length ≤ 1000) (hA : At w 1 A (ps.map str1)) (hc : ps.length ≤ c) :
    Calls Tryd.prog 12 #[.slice A ps.length c] w fun e w' => e = .returned (.string (bs (joinL ps))) ∧ Below w.heap.size w w' := by
  have hlen : ∀ (l : List (List UInt8)), (∀ p ∈ l, p.length ≤ 1000) → ((l.map (47 :: ·)).flatten).length ≤ l.length * 1001 := fun l => by
    induction l with
    | nil => simp
    | cons p l ih =>
      intro h
      have h1 := h p (by simp)
      have h2 := ih (fun q hq => h q (by simp [hq]))
      rw [List.map_cons, List.flatten_cons, List.length_append, List.length_cons, List.length_cons, Nat.succ_mul]
      omega
  by_cases h0 : ps = []
  · subst h0
    go_enter Tryd.func12, Tryd.ntmps12
    go_wp2
    go_ret
    exact ⟨rfl, Below.refl _ _⟩
  have hn : ((ps.length : Int) == 0) = false := by
    have := List.length_pos_iff.2 h0
    simp; omega
  have hj := join_sep h0
  have hjl : (Lib.join ps [47]).length ≤ 1001000 := by
    have h1 := hlen ps hp
    rw [← hj, List.length_cons] at h1
    have : ps.length * 1001 ≤ 1000 * 1001 := Nat.mul_le_mul_right _ hl
    omega
  have hR : joinL ps = [47] ++ Lib.join ps [47] := by unfold joinL; rw [if_neg h0, ← hj]; rfl
  have HC := Lib.hid (join_any A c ps [47] w (by omega) hA (by omega) hc)
  have hz := bs_size (Lib.join ps [47])
  rw [hR]
  generalize Lib.join ps [47] = J at *
  clear hA hj hR h0 hlen hp
  go_enter Tryd.func12, Tryd.ntmps12
  go_wp2_with fail
  refine HC.out.mono ?_
  rintro e w1 ⟨rfl, hb⟩
  go_wp2
  go_ret
  refine ⟨?_, hb⟩
  show Ending.returned (.string (bs [47] ++ bs J)) = _
  rw [bs_append]
  rfl

set_option maxHeartbeats 1600000 in
theorem refJoin4_any (A : Option Addr) (c : Nat) (ps : List (List UInt8)) (w : World) (hl : ps.length ≤ 1000) (hp : ∀ p ∈ ps, p.length ≤ 1000) (hA : At w 1 A (ps.map str1)) :
    Calls Tryd.prog 13 #[.slice A ps.length c] w fun e w' => e = .returned (.string (bs (joinL ps))) ∧ w = w' := by
  have hlen : ∀ (l : List (List UInt8)), (∀ p ∈ l, p.length ≤ 1000) → ((l.map (47 :: ·)).flatten).length ≤ l.length * 1001 := fun l => by
    induction l with
    | nil => simp
    | cons p l ih =>
      intro h
      have h1 := h p (by simp)
      have h2 := ih (fun q hq => h q (by simp [hq]))
      rw [List.map_cons, List.flatten_cons, List.length_append, List.length_cons, List.length_cons, Nat.succ_mul]
      omega
  obtain ⟨J, hJ⟩ : ∃ J, J = joinL ps := ⟨_, rfl⟩
  rw [← hJ]
  have HJ := Lib.hid hJ
  have HL := Lib.hid hlen
  have HP := Lib.hid hp
  clear hJ hlen hp
  go_enter Tryd.func13, Tryd.ntmps13
  go_wp2
  go_loop [3, 4] (fun sv iv => ∃ k : Nat, k ≤ ps.length ∧ iv = .int .i64 k ∧ sv = .string (bs ((ps.take k).map (47 :: ·)).flatten)) (fun _ iv => ps.length - (intOf iv).toNat)
  case atStart => exact ⟨0, Nat.zero_le _, rfl, rfl⟩
  case round =>
    obtain ⟨k, hk, rfl, rfl⟩ := hrel
    obtain ⟨s, hs⟩ : ∃ s, s = ((ps.take k).map (47 :: ·)).flatten := ⟨_, rfl⟩
    have hsl : s.length ≤ 1001000 := by
      rw [hs]
      have h1 := HL.out (ps.take k) (fun p hp => HP.out p (List.mem_of_mem_take hp))
      have : (ps.take k).length * 1001 ≤ 1000 * 1001 := Nat.mul_le_mul_right _ (by rw [List.length_take]; omega)
      omega
    have hsz := bs_size s
    rw [← hs]
    by_cases hlk : k < ps.length
    · obtain ⟨b, off, rfl, hcell⟩ := strs_cell hA hlk
      have hk0 : (0 : Int) ≤ (k : Int) := Int.natCast_nonneg _
      have hk1 : (k : Int) < (ps.length : Int) := by omega
      have hpk := HP.out ps[k] (List.getElem_mem hlk)
      have hpz := bs_size ps[k]
      have HN := Lib.hid (show bs s ++ bs [47] ++ bs ps[k] = bs ((ps.take (k + 1)).map (47 :: ·)).flatten by
        rw [take_next _ _ hlk, List.map_append, List.flatten_append, ← hs, bs_append, bs_append]
        simp)
      clear hs hA
      go_wp2
      go_round
      case rel => exact ⟨k + 1, by omega, by go_num, by rw [← HN.out]⟩
      case measure => simp [intOf]; omega
    · obtain rfl : k = ps.length := by omega
      rw [List.take_length] at hs
      have hk1 : ¬ (ps.length : Int) < (ps.length : Int) := by omega
      by_cases h0 : ps = []
      · have HV := Lib.hid (show J = [47] by rw [HJ.out, joinL, if_pos h0])
        have hn : ((ps.length : Int) == 0) = true := by rw [h0]; rfl
        clear hs h0 hA
        go_wp2
        go_ret
        exact ⟨by rw [HV.out]; rfl, rfl⟩
      · have HV := Lib.hid (show J = s by rw [HJ.out, joinL, if_neg h0, hs])
        have hn : ((ps.length : Int) == 0) = false := by
          have := List.length_pos_iff.2 h0
          simp; omega
        clear hs h0 hA
        go_wp2
        go_ret
        exact ⟨by rw [HV.out]; rfl, rfl⟩

set_option maxRecDepth 20000 in
set_option maxHeartbeats 1600000 in
theorem same4_any (A B : Option Addr) (c d : Nat) (l m : List (List UInt8)) (w : World) (hl : l.length ≤ 9223372036854775807) (hm : m.length ≤ 9223372036854775807) (hA : At w 1 A (l.map str1)) (hB : At w 1 B (m.map str1)) :
    Calls Tryd.prog 9 #[.slice A l.length c, .slice B m.length d] w fun e w' => e = .returned (.bool (decide (l = m))) ∧ Below w.heap.size w w' := by
  go_enter Tryd.func9, Tryd.ntmps9
  by_cases h1 : l.length = m.length
  case neg =>
    have hne : ((l.length : Int) != (m.length : Int)) = true := by simp; omega
    have HV := Lib.hid (show false = decide (l = m) by rw [decide_eq_false (fun e => h1 (by rw [e]))])
    clear h1
    go_wp2
    go_ret
    exact ⟨ret_bool HV.out, Below.refl _ _⟩
  have hne : ((l.length : Int) != (m.length : Int)) = false := by simp [h1]
  have H1 := Lib.hid h1
  clear h1
  go_wp2
  go_loopw [5] (fun i wr => ∃ k : Nat, k ≤ l.length ∧ i = .int .i64 k ∧ l.take k = m.take k ∧ Below w.heap.size w wr) (fun i _ => l.length - (intOf i).toNat)
  case atStart => exact ⟨0, Nat.zero_le _, rfl, rfl, Below.refl _ _⟩
  case round =>
    obtain ⟨k, hk, rfl, ht, hb⟩ := hrel
    have HB := Lib.hid hb
    by_cases hlt : k < l.length
    · have hltm : k < m.length := by have := H1.out; omega
      obtain ⟨b1, o1, rfl, hc1⟩ := strs_cell (hA.below hb) hlt
      obtain ⟨b2, o2, rfl, hc2⟩ := strs_cell (hB.below hb) hltm
      have hk0 : (0 : Int) ≤ (k : Int) := Int.natCast_nonneg _
      have hk1 : (k : Int) < (l.length : Int) := by omega
      have hk2 : (k : Int) < (m.length : Int) := by omega
      by_cases he : l[k] = m[k]
      · have HN := Lib.hid (show l.take (k + 1) = m.take (k + 1) by rw [take_next _ _ hlt, take_next _ _ hltm, ht, he])
        have hd : (l[k] == m[k]) = true := by simpa using he
        clear ht hb hne he hA hB
        go_wp2
        go_quiet (fail)
        go_wp2
        go_roundw
        case rel => exact ⟨k + 1, by omega, by go_num, HN.out, bdN HB.out _⟩
        case measure => simp [intOf]; omega
      · have HV := Lib.hid (show false = decide (l = m) by rw [decide_eq_false (fun e => he (by subst e; rfl))])
        have hd : (l[k] == m[k]) = false := beq_false_of_ne he
        clear ht hb hne he hA hB
        go_wp2
        go_quiet (fail)
        go_wp2
        go_ret
        exact ⟨ret_bool HV.out, bdN HB.out _⟩
    · obtain rfl : k = l.length := by omega
      have HV := Lib.hid (show true = decide (l = m) by
        rw [decide_eq_true]
        have h2 := ht
        rw [List.take_length, H1.out, List.take_length] at h2
        exact h2)
      have hk1 : ¬ (l.length : Int) < (l.length : Int) := by omega
      clear ht hb hne hA hB
      go_wp2
      go_ret
      exact ⟨ret_bool HV.out, HB.out⟩
end Go.Proofs.YtjjlkdmpnpejjaaDoor
