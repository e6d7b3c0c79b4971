/-
  Layer 7, walks: something is done with each letter, till that is false. Conditions: what is done keeps iterators, and bears that the own one goes on.
-/
import Derived.Test.YtjepemfllgjhfaaCallWalkA
import Derived.Test.YtjepemfllgjhfaaIter
namespace Go.Proofs.Ytjepemfllgjhfaa
open Go.RowKit
attribute [local go_sem ↓] Go.wp_at_zero Go.wp_at_succ
attribute [local go_sem] rowAt_ptr rowOf_drew rowOf_drewN rowOf_alloc_past rowOf_new

theorem lettersC_ascii : ∀ s ∈ lettersC, ∀ c ∈ s, c.toNat < 128 := by decide
theorem cFields_ascii (p : Int) {k : Nat} (hk : k < (cFields p).length) : (cFields p)[k].toNat < 128 := by
  have hm : (cFields p)[k] ∈ cFields p := List.getElem_mem hk
  generalize (cFields p)[k] = c at *
  unfold cFields at hm
  split at hm
  · simp at hm
  · rcases Nat.lt_or_ge p.toNat lettersC.length with h | h
    · have he : lettersC.getD p.toNat [] = lettersC[p.toNat] := by simp [List.getD, List.getElem?_eq_getElem h]
      rw [he] at hm
      exact lettersC_ascii _ (List.getElem_mem h) _ hm
    · simp [List.getD, List.getElem?_eq_none h] at hm
/-- where an iterator is -/
def itrPos (w : World) (b : Nat) : Nat := match w.heap[b]? with
  | some (.stringIter _ p) => p
  | _ => 0
theorem Itr.pos_ {w : World} {b : Nat} {l : List UInt8} {pos : Nat} (h : Itr w b l pos) : itrPos w b = pos := by
  unfold Itr at h
  simp [itrPos, h]
/-- what comes of each letter in turn -/
def EachPost (n : Nat) (ok : Nat → Bool) (S : Nat → World → Prop) (e : Ending) (w' : World) : Prop :=
  ∃ m, S m w' ∧ ((m = n ∧ (∀ j, j < n → ok j = true) ∧ e = .returned (.bool true)) ∨ (∃ j, m = j + 1 ∧ j < n ∧ (∀ i, i < j → ok i = true) ∧ ok j = false ∧ e = .returned (.bool false)))

set_option maxRecDepth 20000 in
set_option maxHeartbeats 1600000 in
theorem each_any (p : Int) (F : FuncId) (caps : List Value) (w : World) (ok : Nat → Bool) (S : Nat → World → Prop)
    (hcf : ∀ args W, (callFunc F args).run Try.prog W = .ok (.enter F args) W)
    (h0 : ∀ W, Below w.heap.size w W → S 0 W)
    (hset : ∀ k W b l pos pos', w.heap.size ≤ b → S k W → Itr W b l pos → S k (W.setIter b l pos'))
    (hcall : ∀ k (hk : k < (cFields p).length) W, S k W → Calls Try.prog F (.int .i32 (cFields p)[k].toNat :: caps).toArray W fun e W' => e = .returned (.bool (ok k)) ∧ S (k + 1) W' ∧ ∀ b l pos, Itr W b l pos → Itr W' b l pos) :
    Calls Try.prog 57 #[.int .i64 p, .func (.func F) #[] caps.toArray] w (EachPost (cFields p).length ok S) := by
  have hasc := fun k hk => cFields_ascii p (k := k) hk
  have hfld := callFields_any p
  generalize cFields p = l at *
  go_enter Try.func57, Try.ntmps57
  go_wp2_with fail
  refine (hfld _).mono ?_
  rintro e w1 ⟨rfl, hb⟩
  have hI := Itr.new w1 l
  have hS := h0 _ (hb.alloc hb.size (.stringIter (bs l) 0))
  change S 0 (w1.iter (bs l) 0) at hS
  have hlt := hb.size
  clear hfld h0 hb
  go_wp2
  generalize w1.iter (bs l) 0 = w2 at *
  generalize w1.heap.size = b at *
  go_loopw [6] (fun _ wr => ∃ k : Nat, k ≤ l.length ∧ (∀ j, j < k → ok j = true) ∧ S k wr ∧ Itr wr b l k) (fun _ wr => l.length - itrPos wr b)
  case atStart => exact ⟨0, Nat.zero_le _, fun _ h => absurd h (Nat.not_lt_zero _), hS, hI⟩
  case round =>
    clear hS hI
    obtain ⟨k, hk, hok, hS, hI⟩ := hrel
    by_cases hlk : k < l.length
    · have hn := fun ty => run_next_itr (P := Try.prog) hI hlk (hasc k hlk) ty
      have hS2 := hset k _ b l k (k + 1) hlt hS hI
      have hI2 := hI.set_ (k + 1)
      go_wp2_with fail
      have hcl := hcall k hlk _ hS2
      refine hcl.mono ?_
      · rintro e w4 ⟨rfl, hS3, hit⟩
        have hI3 := hit _ _ _ hI2
        cases hb : ok k with
        | true =>
          have HP := Lib.hid (show ∀ j, j < k + 1 → ok j = true from fun j hj => by
            rcases Nat.lt_or_ge j k with h | h
            · exact hok j h
            · obtain rfl : j = k := by omega
              exact hb)
          have hp := hI.pos_
          have hp3 := hI3.pos_
          clear hn hS hI hS2 hI2 hit hok hset hcall
          go_wp2
          go_roundw
          case rel => exact ⟨k + 1, by omega, HP.out, hS3, hI3⟩
          case measure => rw [hp, hp3]; omega
        | false =>
          clear hn hS hI hS2 hI2 hit hset hcall
          go_wp2
          go_ret
          exact ⟨k + 1, hS3, .inr ⟨k, rfl, hlk, hok, hb, rfl⟩⟩
    · have hn := fun ty => run_next_itr_end (P := Try.prog) hI hlk ty
      obtain rfl : k = l.length := by omega
      go_wp2
      go_ret
      exact ⟨l.length, hS, .inl ⟨rfl, hok, rfl⟩⟩
end Go.Proofs.Ytjepemfllgjhfaa
