/-
  Layer 1, walks: whether things are too many or too long; the laws XdrPads and XdrWrites. No condition.
-/
import Derived.Test.YtbpfniocaibfcaaXdrWalkE
import Derived.Test.YtbpfniocaibfcaaLists
namespace Go.Proofs.Ytbpfniocaibfcaa
open Go.RowKit
attribute [local go_sem ↓] Go.wp_at_zero Go.wp_at_succ

def long (t : Thing) : Bool := decide (200 < t.s.length)
theorem thingCell {w : World} {A : Option Addr} {ts : List Thing} (hA : At w 4 A (ts.map Thing.vals)) {k : Nat} (hk : k < ts.length) :
    ∃ b off, A = some ⟨b, off, none⟩ ∧ b < w.heap.size ∧ ∀ j u, ts[k].vals[j]? = some u → w.cell? ⟨b, off + k * 4 + j, none⟩ = some u := by
  obtain ⟨b, off, rfl, hb, hc⟩ := hA.getD (k := k) (by simpa using hk)
  exact ⟨b, off, rfl, hb, fun j u hu => hc j u (by simpa using hu)⟩

set_option maxHeartbeats 800000 in
theorem xlarge_any (A : Option Addr) (c : Nat) (ts : List Thing) (w : World) (_hl : ts.length ≤ 9223372036854775807) (hd : ∀ t ∈ ts, t.s.length ≤ 9223372036854775807) (hA : At w 4 A (ts.map Thing.vals)) :
    Calls Try.prog 11 #[.slice A ts.length c] w fun e w' => e = .returned (.bool (over long 40 ts)) ∧ w = w' := by
  go_enter Try.func11, Try.ntmps11
  go_wp2
  go_loop [3] (fun i => ∃ k : Nat, k ≤ ts.length ∧ k ≤ 40 ∧ i = .int .i64 k ∧ (ts.take k).any long = false) (fun i => ts.length - (intOf i).toNat)
  case atStart => exact ⟨0, Nat.zero_le _, by omega, rfl, rfl⟩
  case round =>
    obtain ⟨k, hk, hk7, rfl, hn⟩ := hrel
    by_cases hlt : k < ts.length ∧ k < 40
    · obtain ⟨hlt, hlt7⟩ := hlt
      obtain ⟨b, off, rfl, hb, hc⟩ := thingCell hA hlt
      have hc3 := hc 3 (.string (bs ts[k].s)) rfl
      have hsz := bs_size ts[k].s
      have hdk := hd _ (List.getElem_mem hlt)
      by_cases hb : long ts[k] = true
      · have HL := Lib.hid (over_yes hlt hlt7 hb)
        simp only [long, decide_eq_true_eq] at hb
        clear hc hA hd hn
        go_wp2
        go_ret
        exact ⟨ret_bool HL.out.symm, rfl⟩
      · rw [Bool.not_eq_true] at hb
        have HS := Lib.hid (over_step hlt hn hb)
        simp only [long, decide_eq_false_iff_not] at hb
        clear hc hA hd hn
        go_wp2
        go_round
        case rel => exact ⟨k + 1, by omega, by omega, by go_num, HS.out⟩
        case measure => simp [intOf]; omega
    · have HE := Lib.hid (over_end hk hk7 hn hlt)
      clear hn hA hd
      by_cases h1 : k < ts.length
      all_goals
        go_wp2
        go_ret
        exact ⟨ret_bool HE.out.symm, rfl⟩

set_option maxHeartbeats 800000 in
theorem xdrPads_any (n : Int) (w : World) (hn : -9223372036854775808 ≤ n ∧ n ≤ 9223372036854775807) :
    Calls Try.prog 3 #[.int .i64 n] w fun e w' => e = .returned (.bool true) ∧ Below w.heap.size w w' := by
  by_cases h : n < 1
  · have hp := Lib.hid (show padn n.toNat = 0 by rw [show n.toNat = 0 by omega]; rfl)
    go_enter Try.func3, Try.ntmps3
    go_wp2_with fail
    refine (pad_any n _ (by omega)).mono ?_
    rintro e w1 ⟨he, rfl⟩
    rw [hp.out] at he
    subst he
    go_wp2_with fail
    refine (xknown_any _).mono ?_
    rintro e w2 ⟨rfl, hb⟩
    go_wp2
    go_ret
    exact ⟨rfl, hb⟩
  · obtain ⟨m, rfl⟩ := Int.eq_ofNat_of_zero_le (show 0 ≤ n by omega)
    have hp : padn m < 4 := padn_lt m
    have hq : (((m : Int) + (padn m : Int)) % 4 == 0) = true := by rw [beq_iff_eq]; unfold padn; omega
    go_enter Try.func3, Try.ntmps3
    go_wp2_with fail
    refine (pad_any m _ (by omega)).mono ?_
    rintro e w1 ⟨rfl, rfl⟩
    simp only [Int.toNat_natCast]
    go_wp2_with fail
    refine (xknown_any _).mono ?_
    rintro e w2 ⟨rfl, hb⟩
    go_wp2
    go_ret
    exact ⟨rfl, hb⟩

def bytesOf (ts : List Thing) : List UInt8 := ts.flatMap Thing.bytes
theorem bytesOf_succ {ts : List Thing} {k : Nat} (hk : k < ts.length) : bytesOf (ts.take (k + 1)) = bytesOf (ts.take k) ++ ts[k].bytes := by
  unfold bytesOf; rw [take_next _ _ hk, List.flatMap_append]; simp
theorem bytesOf_len (ts : List Thing) (h : ∀ t ∈ ts, t.s.length ≤ 200) : (bytesOf ts).length ≤ 216 * ts.length := by
  induction ts with
  | nil => simp [bytesOf]
  | cons t ts ih =>
    have h1 := t.bytes_len
    have h2 := h t (by simp)
    have h3 := ih fun x hx => h x (by simp [hx])
    unfold bytesOf at *
    simp only [List.flatMap_cons, List.length_append, List.length_cons]
    omega

set_option maxHeartbeats 3200000 in
theorem xdrWrites_any (A : Option Addr) (c : Nat) (ts : List Thing) (w : World) (hl : ts.length ≤ 9223372036854775807) (hd : ∀ t ∈ ts, t.good) (hA : At w 4 A (ts.map Thing.vals)) :
    Calls Try.prog 4 #[.slice A ts.length c] w fun e w' => e = .returned (.bool true) ∧ Below w.heap.size w w' := by
  go_enter Try.func4, Try.ntmps4
  go_wp2_with fail
  refine (xlarge_any A c ts w hl (fun t ht => (hd t ht).2.2) hA).mono ?_
  rintro e w1 ⟨he, rfl⟩
  cases ho : over long 40 ts
  case true =>
    rw [ho] at he
    subst he
    go_wp2_with fail
    refine (xknown_any _).mono ?_
    rintro e w2 ⟨rfl, hb⟩
    go_wp2
    go_ret
    exact ⟨rfl, hb⟩
  case false =>
    rw [ho] at he
    subst he
    obtain ⟨hl4, hs⟩ := over_no ho
    have hs2 : ∀ t ∈ ts, t.s.length ≤ 200 := fun t ht => by have := hs t ht; simpa [long] using this
    have hW0 := Wr.fresh w
    have hB0 : Below w.heap.size w (w.alloc (.cells #[.slice none 0 0] 30)) := (Below.refl _ _).alloc (Nat.le_refl _) _
    clear ho hs
    go_wp2
    generalize w.alloc (.cells #[.slice none 0 0] 30) = w0 at *
    go_loopw [4, 5] (fun want i wr => ∃ (k : Nat) (sv : Value), k ≤ ts.length ∧ i = .int .i64 k ∧ want = .string (bs (bytesOf (ts.take k))) ∧ Wr wr w.heap.size sv (bytesOf (ts.take k)) ∧ (∀ j, sv.ownBlock = some j → w.heap.size ≤ j) ∧ Below w.heap.size w wr) (fun _ i _ => ts.length - (intOf i).toNat)
    case atStart => exact ⟨0, _, Nat.zero_le _, rfl, rfl, hW0, by simp [Value.ownBlock], hB0⟩
    case round =>
      obtain ⟨k, sv, hk, rfl, rfl, hW, hsv, hB⟩ := hrel
      by_cases hlt : k < ts.length
      · have hA2 := hA.below hB
        obtain ⟨b, off, rfl, hb, hc⟩ := thingCell hA2 hlt
        have hg := hd _ (List.getElem_mem hlt)
        have h2 := hs2 _ (List.getElem_mem hlt)
        have hlen : (bytesOf (ts.take k)).length ≤ 216 * 40 := Nat.le_trans (bytesOf_len _ fun t ht => hs2 t (List.mem_of_mem_take ht)) (Nat.mul_le_mul (Nat.le_refl _) (by simp; omega))
        have HS := Lib.hid (bytesOf_succ hlt)
        have hbl := ts[k].bytes_len
        have hz1 := bs_size (bytesOf (ts.take k))
        have hz2 := bs_size ts[k].bytes
        go_wp2_with (first
          | (refine wpList_load_mid (by rfl) 35 _ (by rfl) _ _ (by rfl) _ _ (by exact hc) Try.underlying35 (by rfl) (by kernel_rfl) ?_)
          | fail)
        refine (refPut_any ts[k] _ hg (by omega)).mono ?_
        rintro e w2 ⟨rfl, hb2⟩
        have hB2 := below_then hB hb2
        have hW2 := hW.stays hb2
        have hc2 : ∀ j u, ts[k].vals[j]? = some u → w2.cell? ⟨b, off + k * 4 + j, none⟩ = some u := fun j u hu => (hb2.cell (p := ⟨b, _, none⟩) hb).trans (hc j u hu)
        have hb' : b < w2.heap.size := Nat.lt_of_lt_of_le hb hb2.size
        clear hc hW hb hb2 hA2
        go_wp2_with (first
          | (refine wpList_load_mid (by rfl) 35 _ (by rfl) _ _ (by rfl) _ _ (by exact hc2) Try.underlying35 (by rfl) (by kernel_rfl) ?_)
          | fail)
        refine (put_any _ sv _ ts[k] _ hW2 hg (by omega) (by omega)).mono ?_
        rintro e w3 ⟨rfl, sv3, hW3, hr3, hT3⟩
        have HB3 := Lib.hid (hB2.trans (Moved.below (B := w.heap.size) ⟨sv3, hW3, hr3, hT3⟩ (Nat.le_refl _) hsv hB2.size))
        have HR3 := Lib.hid (show ∀ j, sv3.ownBlock = some j → w.heap.size ≤ j from fun j hj => by
          rcases hr3 j hj with h | h
          · exact hsv j h
          · exact Nat.le_trans hB2.size h)
        clear hr3 hT3 hW2 hsv hc2 hB2
        go_wp2_with fail
        refine (wText_any _ sv3 _ _ hW3).mono ?_
        rintro e w4 ⟨rfl, rfl⟩
        rw [← bs_append]
        go_wp2_with fail
        refine (wLen_any _ sv3 _ _ hW3).mono ?_
        rintro e w4 ⟨rfl, rfl⟩
        rw [List.length_append]
        go_wp2
        go_roundw
        case rel => exact ⟨k + 1, sv3, by omega, by go_num, by rw [HS.out, bs_append], by rw [HS.out]; exact hW3, HR3.out, HB3.out⟩
        case measure => simp [intOf]; omega
      · have HE := Lib.hid hB
        clear hW hsv hB hA hd
        go_wp2_with fail
        refine (xknown_any _).mono ?_
        rintro e w2 ⟨rfl, hb⟩
        go_wp2
        go_ret
        exact ⟨rfl, below_then HE.out hb⟩
end Go.Proofs.Ytbpfniocaibfcaa
