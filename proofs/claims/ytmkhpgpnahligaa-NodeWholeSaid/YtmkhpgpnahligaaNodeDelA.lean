/-
  Layer 20, walks: is an entry's Cookie at most one; slices.IndexFunc with that. Conditions: machine lists.
-/
import Derived.Test.YtmkhpgpnahligaaReplyWalkI
import Derived.BigGuardPart
namespace Go.Proofs.Ytmkhpgpnahligaa
open Go.RowKit
attribute [local go_sem ↓] Go.wp_at_zero Go.wp_at_succ
attribute [local go_sem] rowAt_ptr rowOf_drew rowOf_drewN rowOf_alloc_past rowOf_new
attribute [local go_sem ↓] ldEntry

attribute [local go_sem] Entry.at0 Entry.lat0 Entry.at1 Entry.lat1 Entry.at2 Entry.lat2 Entry.at3 Entry.lat3 Entry.at4 Entry.lat4 Entry.at5 Entry.lat5 Entry.at6 Entry.lat6 Entry.at7 Entry.lat7 Entry.at8 Entry.lat8 Entry.at9 Entry.lat9 Entry.at10 Entry.lat10 Entry.at11 Entry.lat11 Entry.at12 Entry.lat12 Entry.at13 Entry.lat13 Entry.at14 Entry.lat14 Entry.sub0_15 Entry.lsub0_15 Entry.sub3_11 Entry.lsub3_11 Entry.sub4_10 Entry.lsub4_10 Entry.len

theorem callPage1 (args : Array Value) (w : World) : (callFunc 26 args).run Try.prog w = .ok (.enter 26 args) w := by kernel_rfl

theorem page1_any (x : Entry) (b : Nat) (ck : Int) (w : World) (hc : w.cell? ⟨b, 0, none⟩ = some (.int .i64 ck)) :
    Calls Try.prog 26 #[.agg x.vals.toArray, .pointer (some ⟨b, 0, none⟩)] w fun e w' => e = .returned (.bool (decide (x.cookie ≤ ck))) ∧ Below w.heap.size w w' := by
  have hX := Blk.new w 35 x.vals
  have hB : Below w.heap.size w (w.alloc (.cells x.vals.toArray 35)) := (Below.refl _ _).alloc (Nat.le_refl _) _
  have hlt := World.block_lt_of_cell? w _ hc
  have hc1 := (hB.cell (p := ⟨b, 0, none⟩) hlt).trans hc
  have hx := hX.cell
  clear hc
  go_enter Try.func26, Try.ntmps26
  go_wp2
  go_ret
  exact ⟨rfl, hB⟩

/-- the first entry whose Cookie is at most that -/
def firstLe (ck : Int) (l : List Entry) : Nat := l.findIdx fun x => decide (x.cookie ≤ ck)
/-- its place; -1: there is none -/
def foundLe (ck : Int) (l : List Entry) : Int := if firstLe ck l < l.length then (firstLe ck l : Int) else -1

set_option maxRecDepth 20000 in
set_option maxHeartbeats 1600000 in
theorem indexLe_any (A : Option Addr) (c : Nat) (l : List Entry) (b : Nat) (ck : Int) (w : World) (hl : l.length ≤ 9223372036854775807) (hA : At w 15 A (l.map Entry.vals)) (hc : w.cell? ⟨b, 0, none⟩ = some (.int .i64 ck)) :
    Calls Try.prog 36 #[.slice A l.length c, .func (.func 26) #[] #[.pointer (some ⟨b, 0, none⟩)]] w fun e w' =>
      e = .returned (.int .i64 (foundLe ck l)) ∧ Below w.heap.size w w' := by
  have hcf := callPage1
  have hlt := World.block_lt_of_cell? w _ hc
  go_enter Try.func36, Try.ntmps36
  go_wp2
  go_loopw [8] (fun i wr => ∃ k : Nat, k ≤ l.length ∧ i = .int .i64 k ∧ (∀ (j : Nat) (hj : j < l.length), j < k → decide (l[j].cookie ≤ ck) = false) ∧ Below w.heap.size w wr) (fun i _ => l.length - (intOf i).toNat)
  case atStart => exact ⟨0, Nat.zero_le _, rfl, fun _ _ h => absurd h (Nat.not_lt_zero _), Below.refl _ _⟩
  case round =>
    obtain ⟨k, hk, rfl, hno, hb⟩ := hrel
    by_cases hlk : k < l.length
    · obtain ⟨b1, o1, rfl, hb1, r1, -⟩ := rowCell8 Entry.len (by omega) (hA.below hb) hlk
      have hcw := (hb.cell (p := ⟨b, 0, none⟩) hlt).trans hc
      have hk0 : (0 : Int) ≤ (k : Int) := Int.natCast_nonneg _
      have hk1 : (k : Int) < (l.length : Int) := by omega
      have HP := Lib.hid (page1_any l[k] b ck wr hcw)
      have HN := Lib.hid hno
      have HB := Lib.hid hb
      have HA := Lib.hid hA
      clear hno hb hA
      go_wp2_with fail
      refine HP.out.mono ?_
      rintro e w2 ⟨rfl, hb2⟩
      have HB2 := Lib.hid (below_then HB.out hb2)
      cases hd : decide (l[k].cookie ≤ ck) with
      | true =>
        have hf : firstLe ck l = k := by
          unfold firstLe
          rw [List.findIdx_eq hlk]
          exact ⟨hd, fun j hj => by simpa using HN.out j (by omega) hj⟩
        have HF := Lib.hid (show (k : Int) = foundLe ck l by unfold foundLe; rw [hf, if_pos hlk])
        clear hf hd
        go_wp2
        go_ret
        exact ⟨ret_int HF.out, HB2.out⟩
      | false =>
        have HN2 := Lib.hid (show ∀ (j : Nat) (hj : j < l.length), j < k + 1 → decide (l[j].cookie ≤ ck) = false from fun j hj h => by
          rcases Nat.lt_or_ge j k with h1 | h1
          · exact HN.out j hj h1
          · obtain rfl : j = k := by omega
            exact hd)
        clear hd
        go_wp2
        go_roundw
        case rel => exact ⟨k + 1, by omega, by go_num, HN2.out, HB2.out⟩
        case measure => simp [intOf]; omega
    · have hf : ¬ firstLe ck l < l.length := by
        unfold firstLe
        intro h
        have h1 := List.findIdx_getElem (w := h)
        have h2 := hno _ h (by omega)
        rw [h1] at h2
        cases h2
      have hk1 : ¬ (k : Int) < (l.length : Int) := by omega
      have HF := Lib.hid (show (-1 : Int) = foundLe ck l by unfold foundLe; rw [if_neg hf])
      clear hno hf
      go_wp2
      go_ret
      exact ⟨ret_int HF.out, hb⟩
end Go.Proofs.Ytmkhpgpnahligaa
