/-
  Layer 1, walks: what strings.Trim leaves of a text whose noughts are cut off; a text, and what fills it up, are taken. Conditions: sizes.
-/
import Derived.Test.YtlblenojhfeboaaDoorXdrReadB
namespace Go.Proofs.YtlblenojhfeboaaDoor
open Go.RowKit
attribute [local go_sem ↓] Go.wp_at_zero Go.wp_at_succ
attribute [local go_sem] rowAt_ptr rowOf_drew rowOf_drewN rowOf_alloc_past rowOf_new
attribute [local go_sem] bs_get

theorem last_at {l : List UInt8} {k : Nat} (hk : k < l.length) : (l.take (k + 1)).getLast? = some l[k] := by
  rw [List.take_succ_eq_append_getElem hk, List.getLast?_append]; simp
theorem drop_zeros {l : List UInt8} {k : Nat} (hk : k < l.length) (h0 : l[k] = 0) (h : ∀ x ∈ l.drop (k + 1), x = 0) : ∀ x ∈ l.drop k, x = 0 := by
  intro x hx
  rw [List.drop_eq_getElem_cons hk] at hx
  rcases List.mem_cons.1 hx with rfl | hx
  · exact h0
  · exact h x hx
def TrimR (l : List UInt8) (w : World) (e : Ending) (w' : World) : Prop := ∃ m z, e = .returned (.string (bs m)) ∧ l = m ++ z ∧ (∀ x ∈ z, x = 0) ∧ (∀ x, m.getLast? = some x → x ≠ 0) ∧ w = w'
def TrimL (l : List UInt8) (w : World) (e : Ending) (w' : World) : Prop := ∃ m z, e = .returned (.string (bs m)) ∧ l = z ++ m ∧ (∀ x ∈ z, x = 0) ∧ (∀ x, m.head? = some x → x ≠ 0) ∧ w = w'
def strLen : Value → Nat
  | .string b => b.size
  | _ => 0
theorem strLen_bs (l : List UInt8) : strLen (.string (bs l)) = l.length := rfl
set_option maxRecDepth 20000 in
set_option maxHeartbeats 800000 in
theorem trimRight_any (l : List UInt8) (w : World) (hl : l.length ≤ 9223372036854775807) :
    Calls Tryd.prog 99 #[.string (bs l), .int .u8 0] w (TrimR l w) := by
  go_enter Tryd.func99, Tryd.ntmps99
  go_wp2
  go_loop [0] (fun s => ∃ k : Nat, k ≤ l.length ∧ s = .string (bs (l.take k)) ∧ ∀ x ∈ l.drop k, x = 0) (fun s => strLen s)
  case atStart => exact ⟨l.length, Nat.le_refl _, by rw [List.take_length], by simp⟩
  case round =>
    obtain ⟨k, hk, rfl, hz⟩ := hrel
    have hsz : (bs (l.take k)).size = k := by rw [bs_size, List.length_take]; omega
    have HZ := Lib.hid hz
    clear hz
    match k, hk, hsz with
    | 0, hk, hsz =>
      go_wp2
      go_ret
      exact ⟨[], l, rfl, rfl, by simpa using HZ.out, by simp, rfl⟩
    | k + 1, hk, hsz =>
      have hlt : k < l.length := by omega
      have hb := l[k].toNat_lt
      have hlen : (l.take (k + 1)).length = k + 1 := by rw [List.length_take]; omega
      have hlen2 : (l.take k).length = k := by rw [List.length_take]; omega
      have htt : (l.take (k + 1)).take k = l.take k := by rw [List.take_take]; congr 1; omega
      have hk1 : (0 : Int) < ((k + 1 : Nat) : Int) := by omega
      have hidx : ((k + 1 : Nat) : Int) - 1 = (k : Int) := by omega
      by_cases h0 : l[k] = 0
      · have h1 : ((l[k].toNat : Int) == 0) = true := by rw [h0]; rfl
        have HS := Lib.hid (drop_zeros hlt h0 HZ.out)
        clear h0 HZ
        go_wp2
        go_round
        case rel => exact ⟨k, by omega, by rw [bs_take, htt], HS.out⟩
        case measure => rw [bs_take, htt, strLen_bs, strLen_bs, hlen, hlen2]; omega
      · have h1 : ((l[k].toNat : Int) == 0) = false := by
          rw [beq_eq_false_iff_ne]; intro e; apply h0; apply UInt8.toNat_inj.1; simpa using e
        have HS := Lib.hid (show ∀ x, (l.take (k + 1)).getLast? = some x → x ≠ 0 from fun x hx => by
          rw [last_at hlt] at hx; injection hx with hx; subst hx; exact h0)
        clear h0
        go_wp2
        go_ret
        exact ⟨l.take (k + 1), l.drop (k + 1), rfl, (List.take_append_drop _ _).symm, HZ.out, HS.out, rfl⟩

theorem take_zeros {l : List UInt8} {k : Nat} (hk : k < l.length) (h0 : l[k] = 0) (h : ∀ x ∈ l.take k, x = 0) : ∀ x ∈ l.take (k + 1), x = 0 := by
  intro x hx
  rw [List.take_succ_eq_append_getElem hk] at hx
  rcases List.mem_append.1 hx with hx | hx
  · exact h x hx
  · simp at hx; subst hx; exact h0
set_option maxRecDepth 20000 in
set_option maxHeartbeats 800000 in
theorem trimLeft_any (l : List UInt8) (w : World) (hl : l.length ≤ 9223372036854775807) :
    Calls Tryd.prog 98 #[.string (bs l), .int .u8 0] w (TrimL l w) := by
  go_enter Tryd.func98, Tryd.ntmps98
  go_wp2
  go_loop [0] (fun s => ∃ k : Nat, k ≤ l.length ∧ s = .string (bs (l.drop k)) ∧ ∀ x ∈ l.take k, x = 0) (fun s => strLen s)
  case atStart => exact ⟨0, Nat.zero_le _, rfl, by simp⟩
  case round =>
    obtain ⟨k, hk, rfl, hz⟩ := hrel
    have HZ := Lib.hid hz
    clear hz
    by_cases hlt : k < l.length
    · have hb := l[k].toNat_lt
      have hdr : l.drop k = l[k] :: l.drop (k + 1) := List.drop_eq_getElem_cons hlt
      have hlen2 : (l.drop (k + 1)).length = l.length - (k + 1) := List.length_drop
      have hlen : (l[k] :: l.drop (k + 1)).length = l.length - k := by rw [List.length_cons, hlen2]; omega
      have hsz : (bs (l[k] :: l.drop (k + 1))).size = l.length - k := hlen
      have hpos : (0 : Int) < ((l.length - k : Nat) : Int) := by omega
      have hbig : ((l.length - k : Nat) : Int) ≤ 9223372036854775807 := by omega
      have HD := Lib.hid hdr
      rw [hdr]
      by_cases h0 : l[k] = 0
      · have h1 : ((l[k].toNat : Int) == 0) = true := by rw [h0]; rfl
        have HS := Lib.hid (take_zeros hlt h0 HZ.out)
        clear h0 HZ hdr
        have hcut : (bs (l.drop k)).extract 1 (l.length - k) = bs (l.drop (k + 1)) := by
          have := bs_drop (l.drop k) 1
          rw [List.length_drop, List.drop_drop] at this
          exact this
        have HC := Lib.hid hcut
        clear hcut
        go_wp2
        go_round
        case rel => exact ⟨k + 1, by omega, by rw [HC.out], HS.out⟩
        case measure => rw [HC.out, strLen_bs, strLen_bs, hlen, hlen2]; omega
      · have h1 : ((l[k].toNat : Int) == 0) = false := by
          rw [beq_eq_false_iff_ne]; intro e; apply h0; apply UInt8.toNat_inj.1; simpa using e
        have HS := Lib.hid (show ∀ x, (l.drop k).head? = some x → x ≠ 0 from fun x hx => by
          rw [hdr] at hx; simp only [List.head?_cons, Option.some.injEq] at hx; exact fun e => h0 (hx.trans e))
        clear h0 hdr
        go_wp2
        go_ret
        exact ⟨l.drop k, l.take k, rfl, (List.take_append_drop _ _).symm, HZ.out, HS.out, rfl⟩
    · have hdr : l.drop k = [] := List.drop_of_length_le (by omega)
      have htk : l.take k = l := List.take_of_length_le (by omega)
      rw [htk] at HZ
      rw [hdr]
      clear htk hdr hlt
      go_wp2
      go_ret
      exact ⟨[], l, rfl, by simp, HZ.out, by simp, rfl⟩

def Trimmed (l : List UInt8) (w : World) (e : Ending) (w' : World) : Prop := ∃ m, e = .returned (.string (bs m)) ∧ (m = [] ↔ l.all (· == 0) = true) ∧ Below w.heap.size w w'
theorem trimmed_iff {l m m1 z1 z2 : List UInt8} (h1 : l = m1 ++ z1) (h2 : m1 = z2 ++ m) (hz1 : ∀ x ∈ z1, x = 0) (hz2 : ∀ x ∈ z2, x = 0) (hm : ∀ x, m.head? = some x → x ≠ 0) : m = [] ↔ l.all (· == 0) = true := by
  subst h1 h2
  rw [List.all_eq_true]
  constructor
  · rintro rfl
    intro x hx
    simp only [List.append_nil, List.mem_append] at hx
    rcases hx with hx | hx
    · simpa using hz2 x hx
    · simpa using hz1 x hx
  · intro h
    cases m with
    | nil => rfl
    | cons a m =>
      have := h a (by simp)
      exact absurd (by simpa using this) (hm a rfl)
set_option maxRecDepth 20000 in
set_option maxHeartbeats 800000 in
theorem trim_any (l : List UInt8) (w : World) (hl : l.length ≤ 9223372036854775807) :
    Calls Tryd.prog 95 #[.string (bs l), .string (bs [0])] w (Trimmed l w) := by
  cases l with
  | nil =>
    go_enter Tryd.func95, Tryd.ntmps95
    go_wp2
    go_ret
    exact ⟨[], rfl, by simp, Below.refl _ _⟩
  | cons a t =>
    have hlen : (a :: t).length = t.length + 1 := rfl
    go_enter Tryd.func95, Tryd.ntmps95
    go_wp2_with fail
    have HL := Lib.hid hl
    generalize a :: t = l at *
    go_region_held3 (fun W => Stb w W) (first | exact Stb.start | assumption) (first
      | (go_at_call 99; refine (trimRight_any l _ HL.out).mono ?_; rintro e w' ⟨m1, z1, rfl, h1, hz1, hm1, rfl⟩; have H1 := Lib.hid h1; clear h1)
      | (go_at_call 98; refine (trimLeft_any m1 _ (by have h := HL.out; rw [H1.out, List.length_append] at h; omega)).mono ?_; rintro e w' ⟨m, z2, rfl, h2, hz2, hm, rfl⟩; have H2 := Lib.hid h2; clear h2))
    all_goals
      have HI := Lib.hid (trimmed_iff H1.out H2.out hz1 hz2 hm)
      clear hz1 hz2 hm hm1 H1 H2
      go_wp2
      go_ret
      exact ⟨m, rfl, HI.out, (Below.refl _ _).drew⟩
end Go.Proofs.YtlblenojhfeboaaDoor
