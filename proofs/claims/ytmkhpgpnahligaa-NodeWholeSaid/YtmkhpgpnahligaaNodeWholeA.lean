/-
  Layer 20, walks: the document's Find. Conditions: machine lists.
-/
import Derived.Test.YtmkhpgpnahligaaNodePageC
namespace Go.Proofs.Ytmkhpgpnahligaa
open Go.RowKit
attribute [local go_sem ↓] Go.wp_at_zero Go.wp_at_succ
attribute [local go_sem] rowAt_ptr rowOf_drew rowOf_drewN rowOf_alloc_past rowOf_new
attribute [local go_sem ↓] ldEntry

attribute [local go_sem] Entry.at0 Entry.lat0 Entry.at1 Entry.lat1 Entry.at2 Entry.lat2 Entry.at3 Entry.lat3 Entry.at4 Entry.lat4 Entry.at5 Entry.lat5 Entry.at6 Entry.lat6 Entry.at7 Entry.lat7 Entry.at8 Entry.lat8 Entry.at9 Entry.lat9 Entry.at10 Entry.lat10 Entry.at11 Entry.lat11 Entry.at12 Entry.lat12 Entry.at13 Entry.lat13 Entry.at14 Entry.lat14 Entry.sub0_15 Entry.lsub0_15 Entry.sub3_11 Entry.lsub3_11 Entry.sub4_10 Entry.lsub4_10 Entry.len

/-- the place of a name; -1: there is none -/
def findName (l : List Entry) (s : List UInt8) : Int := if l.findIdx (fun x => x.name == s) < l.length then ((l.findIdx (fun x => x.name == s) : Nat) : Int) else -1
set_option maxRecDepth 20000 in
set_option maxHeartbeats 1600000 in
theorem refFind20_any (A : Option Addr) (c : Nat) (l : List Entry) (s : List UInt8) (w : World) (hl : l.length ≤ 9223372036854775807) (hA : At w 15 A (l.map Entry.vals)) :
    Calls Try.prog 27 #[.slice A l.length c, .string (bs s)] w fun e w' => e = .returned (.int .i64 (findName l s)) ∧ w = w' := by
  go_enter Try.func27, Try.ntmps27
  go_wp2
  go_loop [5] (fun i => ∃ k : Nat, k ≤ l.length ∧ i = .int .i64 k ∧ ∀ (j : Nat) (hj : j < l.length), j < k → (l[j].name == s) = false) (fun i => l.length - (intOf i).toNat)
  case atStart => exact ⟨0, Nat.zero_le _, rfl, fun _ _ h => absurd h (Nat.not_lt_zero _)⟩
  case round =>
    obtain ⟨k, hk, rfl, hno⟩ := hrel
    by_cases hlk : k < l.length
    · obtain ⟨b, off, rfl, hb, -, hc⟩ := rowCell8 Entry.len (by omega) hA hlk
      have c1 := hc 1 (.string (bs l[k].name)) rfl
      have hk0 : (0 : Int) ≤ (k : Int) := Int.natCast_nonneg _
      have hk1 : (k : Int) < (l.length : Int) := by omega
      clear hc hA
      cases hd : (l[k].name == s) with
      | true =>
        have hf : l.findIdx (fun x => x.name == s) = k := by
          rw [List.findIdx_eq hlk]
          exact ⟨hd, fun j hj => by simpa using hno j (by omega) hj⟩
        have HF := Lib.hid (show (k : Int) = findName l s by unfold findName; rw [hf, if_pos hlk])
        clear hno hf
        go_wp2
        go_ret
        exact ⟨ret_int HF.out, rfl⟩
      | false =>
        have HN2 := Lib.hid (show ∀ (j : Nat) (hj : j < l.length), j < k + 1 → (l[j].name == s) = false from fun j hj h => by
          rcases Nat.lt_or_ge j k with h1 | h1
          · exact hno j hj h1
          · obtain rfl : j = k := by omega
            exact hd)
        clear hno
        go_wp2
        go_round
        case rel => exact ⟨k + 1, by omega, by go_num, HN2.out⟩
        case measure => simp [intOf]; omega
    · have hf : ¬ l.findIdx (fun x => x.name == s) < l.length := by
        intro h
        have h1 := List.findIdx_getElem (w := h)
        have h2 := hno _ h (by omega)
        rw [h1] at h2
        cases h2
      have HF := Lib.hid (show (-1 : Int) = findName l s by unfold findName; rw [if_neg hf])
      have hk1 : ¬ (k : Int) < (l.length : Int) := by omega
      clear hno hf hA
      go_wp2
      go_ret
      exact ⟨ret_int HF.out, rfl⟩
end Go.Proofs.Ytmkhpgpnahligaa
