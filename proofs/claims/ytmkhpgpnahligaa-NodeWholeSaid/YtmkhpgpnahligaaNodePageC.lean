/-
  Layer 20, walks: the document's Same and Large. Conditions: machine lists.
-/
import Derived.Test.YtmkhpgpnahligaaReplyWalkI
import Derived.BigGuardPart
namespace Go.Proofs.Ytmkhpgpnahligaa
open Go.RowKit
attribute [local go_sem ↓] Go.wp_at_zero Go.wp_at_succ
attribute [local go_sem] rowAt_ptr rowOf_drew rowOf_drewN rowOf_alloc_past rowOf_new
attribute [local go_sem ↓] ldEntry neqEntry

attribute [local go_sem] Entry.at0 Entry.lat0 Entry.at1 Entry.lat1 Entry.at2 Entry.lat2 Entry.at3 Entry.lat3 Entry.at4 Entry.lat4 Entry.at5 Entry.lat5 Entry.at6 Entry.lat6 Entry.at7 Entry.lat7 Entry.at8 Entry.lat8 Entry.at9 Entry.lat9 Entry.at10 Entry.lat10 Entry.at11 Entry.lat11 Entry.at12 Entry.lat12 Entry.at13 Entry.lat13 Entry.at14 Entry.lat14 Entry.sub0_15 Entry.lsub0_15 Entry.sub3_11 Entry.lsub3_11 Entry.sub4_10 Entry.lsub4_10 Entry.len guardEntry

set_option maxRecDepth 20000 in
set_option maxHeartbeats 3200000 in
theorem same20_any (A B : Option Addr) (c d : Nat) (l m : List Entry) (w : World) (hl : l.length ≤ 9223372036854775807) (hm : m.length ≤ 9223372036854775807) (hA : At w 15 A (l.map Entry.vals)) (hB : At w 15 B (m.map Entry.vals)) :
    Calls Try.prog 11 #[.slice A l.length c, .slice B m.length d] w fun e w' => e = .returned (.bool (decide (l = m))) ∧ Below w.heap.size w w' := by
  go_enter Try.func11, Try.ntmps11
  by_cases h1 : l.length = m.length
  case neg =>
    have hne : ((l.length : Int) != (m.length : Int)) = true := by simp; omega
    have HV := Lib.hid (show false = decide (l = m) by rw [decide_eq_false (fun e => h1 (by rw [e]))])
    clear h1
    go_wp2
    go_ret
    exact ⟨ret_bool HV.out, Below.refl _ _⟩
  have hne : ((l.length : Int) != (m.length : Int)) = false := by simp [h1]
  have H1 := Lib.hid h1
  clear h1
  go_wp2
  go_loopw [5] (fun i wr => ∃ k : Nat, k ≤ l.length ∧ i = .int .i64 k ∧ l.take k = m.take k ∧ Below w.heap.size w wr) (fun i _ => l.length - (intOf i).toNat)
  case atStart => exact ⟨0, Nat.zero_le _, rfl, rfl, Below.refl _ _⟩
  case round =>
    obtain ⟨k, hk, rfl, ht, hb⟩ := hrel
    by_cases hlt : k < l.length
    · have hltm : k < m.length := by have := H1.out; omega
      obtain ⟨b1, o1, rfl, hb1, r1, -⟩ := rowCell8 Entry.len (by omega) (hA.below hb) hlt
      obtain ⟨b2, o2, rfl, hb2, r2, -⟩ := rowCell8 Entry.len (by omega) (hB.below hb) hltm
      have hk0 : (0 : Int) ≤ (k : Int) := Int.natCast_nonneg _
      have hk1 : (k : Int) < (l.length : Int) := by omega
      have hk2 : (k : Int) < (m.length : Int) := by omega
      have HT := Lib.hid (fun h => takeSame8 ht hlt hltm h)
      have HN := Lib.hid (show l[k] ≠ m[k] → l ≠ m from fun h e => h (by subst e; rfl))
      have HB := Lib.hid hb
      clear ht hb hne
      by_cases he : l[k] = m[k]
      · have hd : decide (l[k] ≠ m[k]) = false := decide_eq_false (by simpa using he)
        have HS := Lib.hid (HT.out he)
        clear he HT HN
        go_wp2_with fail
        go_region_held3 (fun W => Stb wr W) (first | exact Stb.start | assumption) (first | fail)
        go_wp2
        go_roundw
        case rel => exact ⟨k + 1, by omega, by go_num, HS.out, by first | exact HB.out.drew | exact bdN HB.out _⟩
        case measure => simp [intOf]; omega
      · have hd : decide (l[k] ≠ m[k]) = true := decide_eq_true he
        have HV := Lib.hid (show false = decide (l = m) by rw [decide_eq_false (HN.out he)])
        clear he HT HN
        go_wp2_with fail
        go_region_held3 (fun W => Stb wr W) (first | exact Stb.start | assumption) (first | fail)
        go_wp2
        go_ret
        exact ⟨ret_bool HV.out, by first | exact HB.out.drew | exact bdN HB.out _⟩
    · have hlm : l = m := by
        have h3 : k = l.length := by omega
        rw [h3, List.take_length, H1.out, List.take_length] at ht
        exact ht
      have hk1 : ¬ (k : Int) < (l.length : Int) := by omega
      have HV := Lib.hid (show true = decide (l = m) by rw [decide_eq_true hlm])
      clear ht hlm hne
      go_wp2
      go_ret
      exact ⟨ret_bool HV.out, hb⟩

/-- what Large tells: where it says no, there are few, with short names -/
def SaysN (l : List Entry) (w : World) (e : Ending) (w' : World) : Prop := ∃ b, e = .returned (.bool b) ∧ (b = false → l.length ≤ 70 ∧ ∀ x ∈ l, x.name.length ≤ 300) ∧ Below w.heap.size w w'
theorem SaysN.yes {l : List Entry} {w w' : World} (hb : Below w.heap.size w w') : SaysN l w (.returned (.bool true)) w' := ⟨true, rfl, (fun h => by cases h), hb⟩
theorem SaysN.no {l : List Entry} {w w' : World} (h : l.length ≤ 70 ∧ ∀ x ∈ l, x.name.length ≤ 300) (hb : Below w.heap.size w w') : SaysN l w (.returned (.bool false)) w' := ⟨false, rfl, (fun _ => h), hb⟩

set_option maxRecDepth 20000 in
set_option maxHeartbeats 1600000 in
theorem large20_any (A : Option Addr) (c : Nat) (l : List Entry) (w : World) (hl : l.length ≤ 9223372036854775807) (hA : At w 15 A (l.map Entry.vals)) :
    Calls Try.prog 7 #[.slice A l.length c] w (SaysN l w) := by
  go_enter Try.func7, Try.ntmps7
  go_wp2
  go_loop [3] (fun i => ∃ k : Nat, k ≤ l.length ∧ k ≤ 70 ∧ i = .int .i64 k ∧ ∀ (j : Nat) (hj : j < l.length), j < k → l[j].name.length ≤ 300) (fun i => l.length - (intOf i).toNat)
  case atStart => exact ⟨0, Nat.zero_le _, by omega, rfl, fun _ _ h => absurd h (Nat.not_lt_zero _)⟩
  case round =>
    obtain ⟨k, hk, hk7, rfl, hno⟩ := hrel
    by_cases hlt : k < l.length ∧ k < 70
    · obtain ⟨hlt, hlt7⟩ := hlt
      obtain ⟨b, off, rfl, hb, -, hc⟩ := rowCell8 Entry.len (by omega) hA hlt
      have c1 := hc 1 (.string (bs l[k].name)) rfl
      have c4 := hc 14 (.string (bs l[k].fh)) rfl
      have z1 := bs_size l[k].name
      have z4 := bs_size l[k].fh
      have HN := Lib.hid (fun (h : l[k].name.length ≤ 300) => (fun (j : Nat) (hj : j < l.length) (hjk : j < k + 1) => (show l[j].name.length ≤ 300 from by
        rcases Nat.lt_or_ge j k with h1 | h1
        · exact hno j hj h1
        · obtain rfl : j = k := by omega
          exact h)))
      clear hc hA hno
      by_cases q1 : (300 : Int) < (l[k].name.length : Int)
      · go_wp2
        go_ret
        exact SaysN.yes (Below.refl _ _)
      · have HN2 := Lib.hid (HN.out (by omega))
        by_cases q2 : (100 : Int) < (l[k].fh.length : Int)
        · go_wp2
          go_ret
          exact SaysN.yes (Below.refl _ _)
        · go_wp2
          go_round
          case rel => exact ⟨k + 1, by omega, by omega, by go_num, HN2.out⟩
          case measure => simp [intOf]; omega
    · have hE : l.length ≤ k ∨ 70 ≤ k := by omega
      clear hlt hA
      by_cases q1 : (70 : Int) < (l.length : Int)
      · clear hno
        by_cases h1 : k < l.length
        · have p1 : (k : Int) < (l.length : Int) := by omega
          have p2 : ¬ (k : Int) < 70 := by omega
          clear hE h1
          go_wp2
          all_goals (go_ret; exact SaysN.yes (Below.refl _ _))
        · exfalso; omega
      · have HN := Lib.hid (show l.length ≤ 70 ∧ ∀ x ∈ l, x.name.length ≤ 300 from ⟨by omega, fun x hx => by
          obtain ⟨j, hj, rfl⟩ := List.getElem_of_mem hx
          exact hno j hj (by omega)⟩)
        have p1 : ¬ (k : Int) < (l.length : Int) := by omega
        clear hno hE
        go_wp2
        all_goals (go_ret; exact SaysN.no HN.out (Below.refl _ _))
end Go.Proofs.Ytmkhpgpnahligaa
