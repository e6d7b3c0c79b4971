/-
  Layer 1, walks: whether things are too many or too long; the laws XdrPads and XdrWrites. No condition.
-/
import Derived.Test.YtolcecpmiepggaaDoorXdrWalkE
import Derived.Test.YtolcecpmiepggaaDoorLists
namespace Go.Proofs.YtolcecpmiepggaaDoor
open Go.RowKit
attribute [local go_sem ↓] Go.wp_at_zero Go.wp_at_succ

def long (t : Thing) : Bool := decide (200 < t.s.length)
theorem thingCell {w : World} {A : Option Addr} {ts : List Thing} (hA : At w 4 A (ts.map Thing.vals)) {k : Nat} (hk : k < ts.length) :
    ∃ b off, A = some ⟨b, off, none⟩ ∧ b < w.heap.size ∧ ∀ j u, ts[k].vals[j]? = some u → w.cell? ⟨b, off + k * 4 + j, none⟩ = some u := by
  obtain ⟨b, off, rfl, hb, hc⟩ := hA.getD (k := k) (by simpa using hk)
  exact ⟨b, off, rfl, hb, fun j u hu => hc j u (by simpa using hu)⟩

set_option maxHeartbeats 800000 in
theorem xlarge_any (A : Option Addr) (c : Nat) (ts : List Thing) (w : World) (_hl : ts.length ≤ 9223372036854775807) (hd : ∀ t ∈ ts, t.s.length ≤ 9223372036854775807) (hA : At w 4 A (ts.map Thing.vals)) :
    Calls Tryd.prog 33 #[.slice A ts.length c] w fun e w' => e = .returned (.bool (over long 40 ts)) ∧ w = w' := by
  go_enter Tryd.func33, Tryd.ntmps33
  go_wp2
  go_loop [3] (fun i => ∃ k : Nat, k ≤ ts.length ∧ k ≤ 40 ∧ i = .int .i64 k ∧ (ts.take k).any long = false) (fun i => ts.length - (intOf i).toNat)
  case atStart => exact ⟨0, Nat.zero_le _, by omega, rfl, rfl⟩
  case round =>
    obtain ⟨k, hk, hk7, rfl, hn⟩ := hrel
    by_cases hlt : k < ts.length ∧ k < 40
    · obtain ⟨hlt, hlt7⟩ := hlt
      obtain ⟨b, off, rfl, hb, hc⟩ := thingCell hA hlt
      have hc3 := hc 3 (.string (bs ts[k].s)) rfl
      have hsz := bs_size ts[k].s
      have hdk := hd _ (List.getElem_mem hlt)
      by_cases hb : long ts[k] = true
      · have HL := Lib.hid (over_yes hlt hlt7 hb)
        simp only [long, decide_eq_true_eq] at hb
        clear hc hA hd hn
        go_wp2
        go_ret
        exact ⟨ret_bool HL.out.symm, rfl⟩
      · rw [Bool.not_eq_true] at hb
        have HS := Lib.hid (over_step hlt hn hb)
        simp only [long, decide_eq_false_iff_not] at hb
        clear hc hA hd hn
        go_wp2
        go_round
        case rel => exact ⟨k + 1, by omega, by omega, by go_num, HS.out⟩
        case measure => simp [intOf]; omega
    · have HE := Lib.hid (over_end hk hk7 hn hlt)
      clear hn hA hd
      by_cases h1 : k < ts.length
      all_goals
        go_wp2
        go_ret
        exact ⟨ret_bool HE.out.symm, rfl⟩

def bytesOf (ts : List Thing) : List UInt8 := ts.flatMap Thing.bytes
theorem bytesOf_succ {ts : List Thing} {k : Nat} (hk : k < ts.length) : bytesOf (ts.take (k + 1)) = bytesOf (ts.take k) ++ ts[k].bytes := by
  unfold bytesOf; rw [take_next _ _ hk, List.flatMap_append]; simp
theorem bytesOf_len (ts : List Thing) (h : ∀ t ∈ ts, t.s.length ≤ 200) : (bytesOf ts).length ≤ 216 * ts.length := by
  induction ts with
  | nil => simp [bytesOf]
  | cons t ts ih =>
    have h1 := t.bytes_len
    have h2 := h t (by simp)
    have h3 := ih fun x hx => h x (by simp [hx])
    unfold bytesOf at *
    simp only [List.flatMap_cons, List.length_append, List.length_cons]
    omega

end Go.Proofs.YtolcecpmiepggaaDoor
