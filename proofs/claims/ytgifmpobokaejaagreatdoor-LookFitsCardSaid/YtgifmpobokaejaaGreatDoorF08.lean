/-
  Layer 1, walks: the reference's bytes of numbers and texts; what fills up. Conditions: numbers from 0 on; texts below 2^40 bytes.
-/
import Derived.Test.YtgifmpobokaejaaGreatDoorProg
import Derived.Test.YtgifmpobokaejaaGreatDoorF04
import Derived.Maps.AppendAt
import Derived.Deep.AppendLies
import Derived.Test.YtgifmpobokaejaaGreatDoorF02
import Derived.Test.YtgifmpobokaejaaGreatDoorF06
import Derived.Test.YtgifmpobokaejaaGreatDoorF07
namespace Go.Proofs.YtgifmpobokaejaaGreatDoor
open Go.RowKit
attribute [local go_sem ↓] Go.wp_at_zero Go.wp_at_succ

theorem one_string (x : Int) (W : World) : (convert 123 9 (.slice (some ⟨W.heap.size, 0, none⟩) 1 1)).run Tryz.prog (W.alloc (.cells #[.int .u8 x] 5)) = .ok (.string (bs [UInt8.ofNat x.toNat])) (W.alloc (.cells #[.int .u8 x] 5)) :=
  run_one_string Tryz.underlying123 Tryz.underlying5 Tryz.underlying9 x W
attribute [local go_sem] one_string

set_option maxRecDepth 20000 in
set_option maxHeartbeats 800000 in
theorem refNum_any (n k : Nat) (w : World) (hn : (n : Int) ≤ 9223372036854775807) (hk : k ≤ 8) :
    Calls Tryz.prog 52 #[.int .i64 n, .int .i64 k] w fun e w' => e = .returned (.string (bs (num n k))) ∧ Below w.heap.size w w' := by
  go_enter Tryz.func52, Tryz.ntmps52
  go_wp2
  go_loopg [0, 5, 6] k (fun g m s i wr => ∃ (j q : Nat) (l : List UInt8), i = .int .i64 j ∧ j + g = k ∧ m = .int .i64 q ∧ (q : Int) ≤ 9223372036854775807 ∧ s = .string (bs l) ∧ l.length = j ∧ num q g ++ l = num n k ∧ Below w.heap.size w wr)
  case atStart => exact ⟨0, n, [], rfl, by omega, rfl, hn, rfl, rfl, by simp, Below.refl _ _⟩
  case round =>
    obtain ⟨j, q, l, rfl, hj, rfl, hq, rfl, hl, hnum, hB⟩ := hrel
    have HN := Lib.hid hnum
    clear hnum
    by_cases hlt : j < k
    · have HS := Lib.hid (show num (q / 256) (gk - 1) ++ (UInt8.ofNat (q % 256) :: l) = num n k by
        rw [ofNat_mod, ← HN.out, show gk = gk - 1 + 1 by omega, num]; simp)
      go_wp2
      go_roundg (gk - 1)
      case measure => omega
      case rel => exact ⟨j + 1, q / 256, UInt8.ofNat (q % 256) :: l, by go_num, by omega, by go_num, by omega, by rw [bs_append]; rfl, by simp [hl], HS.out, hB.alloc hB.size _⟩
    · have HS := Lib.hid (show l = num n k by rw [← HN.out, show gk = 0 by omega]; rfl)
      go_wp2
      go_ret
      exact ⟨by show Ending.returned (.string (bs l)) = _; rw [HS.out], hB⟩

theorem ret_string {a b : List UInt8} (h : a = b) : Ending.returned (.string (bs a)) = .returned (.string (bs b)) := by rw [h]

theorem refTruth_any (b : Bool) (w : World) : Calls Tryz.prog 56 #[.bool b] w fun e w' => e = .returned (.string (bs (truth b))) ∧ Below w.heap.size w w' := by
  cases b
  · go_enter Tryz.func56, Tryz.ntmps56
    go_wp2_with (go_at_call 52; refine (refNum_any 0 4 _ (by omega) (by omega)).mono ?_; rintro e w' ⟨rfl, hb⟩)
    go_ret
    exact ⟨rfl, hb⟩
  · go_enter Tryz.func56, Tryz.ntmps56
    go_wp2_with (go_at_call 52; refine (refNum_any 1 4 _ (by omega) (by omega)).mono ?_; rintro e w' ⟨rfl, hb⟩)
    go_ret
    exact ⟨rfl, hb⟩

theorem filled_step {l m : List UInt8} (h : filled l = filled m) (hn : m.length % 4 ≠ 0) : filled l = filled (m ++ [0]) := by
  rw [h]
  unfold filled
  have : padn m.length = padn (m ++ [0]).length + 1 := by simp [padn]; omega
  rw [this, List.append_assoc]
  rfl
theorem filled_end {m : List UInt8} (hn : m.length % 4 = 0) : filled m = m := by
  unfold filled
  rw [show padn m.length = 0 by unfold padn; omega]
  simp

set_option maxRecDepth 20000 in
set_option maxHeartbeats 800000 in
theorem refFilled_any (l : List UInt8) (w : World) (hl : l.length ≤ 1000000000) :
    Calls Tryz.prog 91 #[.string (bs l)] w fun e w' => e = .returned (.string (bs (filled l))) ∧ Below w.heap.size w w' := by
  go_enter Tryz.func91, Tryz.ntmps91
  go_wp2
  go_loopg [0] 4 (fun g s wr => ∃ m : List UInt8, s = .string (bs m) ∧ filled l = filled m ∧ (m.length % 4 ≠ 0 → 4 - m.length % 4 ≤ g) ∧ m.length ≤ 1000000010 - g ∧ g ≤ 4 ∧ Below w.heap.size w wr)
  case atStart => exact ⟨l, rfl, rfl, fun _ => by omega, by omega, by omega, Below.refl _ _⟩
  case round =>
    obtain ⟨m, rfl, hf, hg, hm, hg4, hB⟩ := hrel
    have hsz := bs_size m
    by_cases hn : m.length % 4 = 0
    · have HS := Lib.hid (show m = filled l by rw [hf, filled_end hn])
      have h1 : ((m.length : Int) % 4 != 0) = false := by simp; omega
      clear hf hg hn
      go_wp2
      go_ret
      exact ⟨ret_string HS.out, hB⟩
    · have HS := Lib.hid (filled_step hf hn)
      have h1 : ((m.length : Int) % 4 != 0) = true := by simp; omega
      have hg' := hg hn
      have hlen : (m ++ [(0 : UInt8)]).length = m.length + 1 := by simp
      clear hf hg
      go_wp2
      go_roundg (gk - 1)
      case measure => omega
      case rel => exact ⟨m ++ [0], by rw [← bs_append], HS.out, fun h => by omega, by omega, by omega, hB⟩

set_option maxHeartbeats 800000 in
theorem refText_any (l : List UInt8) (w : World) (hl : l.length ≤ 1000000000) :
    Calls Tryz.prog 53 #[.string (bs l)] w fun e w' => e = .returned (.string (bs (opq l))) ∧ Below w.heap.size w w' := by
  have hsz := bs_size l
  have hf := filled_len l
  have hp := padn_lt l.length
  have hn := num_len l.length 4
  go_enter Tryz.func53, Tryz.ntmps53
  go_wp2_with fail
  refine (refNum_any l.length 4 _ (by omega) (by omega)).mono ?_
  rintro e w1 ⟨rfl, hb1⟩
  go_wp2_with fail
  refine (refFilled_any l _ hl).mono ?_
  rintro e w2 ⟨rfl, hb2⟩
  go_wp2
  go_ret
  exact ⟨by show Ending.returned (.string (bs _ ++ bs _)) = _; rw [bs_append]; rfl, below_then hb1 hb2⟩
end Go.Proofs.YtgifmpobokaejaaGreatDoor

/-
  A row of structs (or of other elements of some cells) of the call's own: how one is put behind it, and how it is read. Conditions: sizes.
-/
namespace Go.Proofs.YtgifmpobokaejaaGreatDoor
open Go.RowKit

/-- v is a slice of these rows, each of sz cells, in blocks from B on -/
def RowS (w : World) (B : Nat) (e : TypeId) (sz : Nat) (v : Value) (rows : List (List Value)) : Prop :=
  (∀ r ∈ rows, r.length = sz) ∧ w.ownsRow B e sz v rows.length rows.flatten
section
variable {w w' : World} {B : Nat} {e : TypeId} {sz : Nat} {v : Value} {rows : List (List Value)}
theorem RowS.none_ : RowS w B e sz (.slice none 0 0) [] := ⟨by simp, World.ownsRow_nil _ _ _ _⟩
theorem RowS.at_ (h : RowS w B e sz v rows) : ∃ A c, v = .slice A rows.length c ∧ At w sz A rows := by
  obtain ⟨hl, hown⟩ := h
  have hlt := hown.lt
  have hcells := fun g hg => hown.cells (g := g) hg
  rcases hown.2 with ⟨rfl, h0⟩ | ⟨g, cap, cur, rfl, _⟩
  · refine ⟨none, 0, by rw [h0], ?_⟩
    rw [List.eq_nil_of_length_eq_zero h0]
    exact At.nil
  · refine ⟨_, _, rfl, fun i r hr => ⟨g, 0, rfl, (hlt g rfl).2, fun j u hu => ?_⟩⟩
    have := hcells g rfl (i * sz + j) u (flat_get rows hl i r hr j u hu)
    rw [Addr.add_mid, ← Nat.add_assoc] at this
    exact this
theorem RowS.stays (h : RowS w B e sz v rows) (hb : Below w.heap.size w w') : RowS w' B e sz v rows :=
  ⟨h.1, ownsRow_touch h.2 (Touch.of_below hb (fun _ => False)) fun _ _ hf => hf⟩
theorem RowS.touch {F : Nat → Prop} (h : RowS w B e sz v rows) (ht : Touch F w w') (hn : ∀ k, v.ownBlock = some k → ¬ F k) : RowS w' B e sz v rows :=
  ⟨h.1, ownsRow_touch h.2 ht hn⟩
theorem RowS.lt (h : RowS w B e sz v rows) : ∀ k, v.ownBlock = some k → B ≤ k ∧ k < w.heap.size := h.2.lt
theorem RowS.base {C : Nat} (h : RowS w B e sz v rows) (hC : C ≤ B) : RowS w C e sz v rows := ⟨h.1, h.2.1, by
  rcases h.2.2 with h | ⟨g, cap, cur, hv, hb, hr⟩
  · exact .inl h
  · exact .inr ⟨g, cap, cur, hv, Nat.le_trans hC hb, hr⟩⟩
theorem RowS.alloc (h : RowS w B e sz v rows) (o : Obj) : RowS (w.alloc o) B e sz v rows := h.stays ((Below.refl _ _).alloc (Nat.le_refl _) o)

variable {P : Program}
/-- 'append(l, x)': the one element lies in a new row -/
theorem RowS.append (t ty : TypeId) (i : TypeInfo) {z : Value} {bytes : Nat} (ht : P.underlying t = some (.slice e)) (hi : P.info? e = some i) (hz : i.zero = some z) (hsize : i.size = sz) (hby : i.bytes = bytes)
    (hzs : z.cells.size = sz) (h0 : 0 < sz) (hb : bytes ≤ 4096) (h : RowS w B e sz v rows) (hB : B ≤ w.heap.size) (r : List Value) (hr : r.length = sz) (h1 : ∀ u ∈ r, u.oneCell' = true) (hl : rows.length ≤ 1000000000) :
    ∃ v' w', (Builtin.append_ #[t, t] ty #[v, .slice (some ⟨w.heap.size, 0, none⟩) 1 1]).run P (w.alloc (.cells r.toArray e)) = .ok v' w' ∧
      (RowS w' B e sz v' (rows ++ [r]) ∧ ∀ a, Below B a w → Below B a w') := by
  have hone : Blk (w.alloc (.cells r.toArray e)) w.heap.size e r := Blk.new w e r
  have hcell : ∀ j u, r[j]? = some u → (w.alloc (.cells r.toArray e)).cell? ((⟨w.heap.size, 0, none⟩ : Addr).add j) = some u := fun j u hu => by
    rw [Addr.add_mid, Nat.zero_add, hone.cell, hu]
  obtain ⟨v', w', hrun, hown, hgrow, _, hat⟩ := run_append_own_at (P := P) (w := w.alloc (.cells r.toArray e)) B t ty e i z sz bytes ht hi hz hsize hby hzs h0 v rows.length rows.flatten (h.2.alloc _) ⟨w.heap.size, 0, none⟩ 1 1 r
    (by simpa using hr) hcell h1 (by unfold maxLen; omega) (Nat.le_trans (Nat.mul_le_mul (show rows.length + 1 ≤ 1000000001 by omega) hb) (by omega)) (by simp; omega)
  refine ⟨v', w', hrun, ⟨fun q hq => ?_, ?_⟩, fun a ha => ?_⟩
  · rcases List.mem_append.1 hq with hq | hq
    · exact h.1 q hq
    · simp at hq; subst hq; exact hr
  · rw [List.length_append, List.flatten_append]
    simpa using hown
  · exact (ha.alloc hB _).grown hgrow (by simp; omega) fun k hk => (h.2.lt k hk).1
end
end Go.Proofs.YtgifmpobokaejaaGreatDoor


/-
  Layer 4, walks of the document's own: has, Check. Condition: a machine text.
-/
namespace Go.Proofs.YtgifmpobokaejaaGreatDoor
open Go.RowKit
attribute [local go_sem ↓] Go.wp_at_zero Go.wp_at_succ
attribute [local go_sem] rowAt_ptr rowOf_drew rowOf_drewN rowOf_alloc_past rowOf_new

theorem refHas4_any (l : List UInt8) (c : UInt8) (w : World) (hl : l.length ≤ 9223372036854775807) : Calls Tryz.prog 101 #[.string (bs l), .int .u8 c.toNat] w fun e w' => e = .returned (.bool (l.contains c)) ∧ w = w' := by
  have hsz := bs_size l
  go_enter Tryz.func101, Tryz.ntmps101
  go_wp2
  go_loopw [5] (fun iv wr => ∃ k : Nat, k ≤ l.length ∧ iv = .int .i64 k ∧ (∀ j (hj : j < l.length), j < k → l[j] ≠ c) ∧ wr = w) (fun iv _ => l.length - (intOf iv).toNat)
  case atStart => exact ⟨0, Nat.zero_le _, rfl, fun _ _ h => absurd h (Nat.not_lt_zero _), rfl⟩
  case round =>
    obtain ⟨k, hk, rfl, hno, rfl⟩ := hrel
    by_cases hlt : k < l.length
    · by_cases he : l[k] = c
      · have HC := Lib.hid (show l.contains c = true by rw [List.contains_iff_mem, ← he]; exact List.getElem_mem hlt)
        have hq : ((((bs l)[k]'(by rw [hsz]; exact hlt)).toNat : Int) == (c.toNat : Int)) = true := by rw [bs_get, he]; simp
        go_wp2
        go_ret
        rw [HC.out]
        exact ⟨rfl, rfl⟩
      · have hq : ((((bs l)[k]'(by rw [hsz]; exact hlt)).toNat : Int) == (c.toNat : Int)) = false := beq_false_of_ne fun h => he (UInt8.toNat_inj.1 (by rw [bs_get] at h; omega))
        have HN := Lib.hid (show ∀ j (hj : j < l.length), j < k + 1 → l[j] ≠ c from fun j hj h => by
          rcases Nat.lt_or_ge j k with h3 | h3
          · exact hno j hj h3
          · obtain rfl : j = k := by omega
            exact he)
        clear hno
        go_wp2
        go_roundw
        case rel => exact ⟨k + 1, by omega, by go_num, HN.out, trivial⟩
        case measure => simp [intOf]; omega
    · obtain rfl : k = l.length := by omega
      have HC := Lib.hid (show l.contains c = false by
        rw [← Bool.not_eq_true, List.contains_iff_mem]
        intro hm
        obtain ⟨j, hj, e⟩ := List.getElem_of_mem hm
        exact hno j hj hj e)
      clear hno
      go_wp2
      go_ret
      rw [HC.out]
      exact ⟨rfl, rfl⟩

/-- the status of a name -/
def nameSt (l : List UInt8) : Int := if (l == []) || (l.contains 0 || (l.contains 47 || ((l == [46]) || (l == [46, 46])))) then 22 else if 24 < l.length then 63 else 0
theorem refCheck4_any (l : List UInt8) (w : World) (hl : l.length ≤ 9223372036854775807) : Calls Tryz.prog 100 #[.string (bs l)] w fun e w' => e = .returned (.int .i64 (nameSt l)) ∧ w = w' := by
  have hsz := bs_size l
  have h0 := fun w => refHas4_any l 0 w hl
  have h47 := fun w => refHas4_any l 47 w hl
  obtain ⟨N, hN⟩ : ∃ N, N = nameSt l := ⟨_, rfl⟩
  rw [← hN]
  unfold nameSt at hN
  have HN := Lib.hid hN
  clear hN
  go_enter Tryz.func100, Tryz.ntmps100
  by_cases q1 : l = []
  · subst q1
    go_wp2
    go_ret
    exact ⟨ret_int HN.out.symm, rfl⟩
  have q1b : (l == []) = false := by simpa using q1
  go_wp2_with fail
  refine (h0 w).mono ?_
  rintro e w1 ⟨rfl, rfl⟩
  cases q2 : l.contains 0 with
  | true =>
    have HV := Lib.hid (show (22 : Int) = N by rw [HN.out]; simp only [q2]; simp)
    clear q2
    go_wp2
    go_ret
    exact ⟨ret_int HV.out, rfl⟩
  | false =>
  go_wp2_with fail
  refine (h47 w).mono ?_
  rintro e w1 ⟨rfl, rfl⟩
  cases q3 : l.contains 47 with
  | true =>
    have HV := Lib.hid (show (22 : Int) = N by rw [HN.out]; simp only [q3]; simp)
    clear q3
    go_wp2
    go_ret
    exact ⟨ret_int HV.out, rfl⟩
  | false =>
  by_cases q4 : l = [46]
  · have HV := Lib.hid (show (22 : Int) = N by rw [HN.out, q4]; decide)
    subst q4
    go_wp2
    go_ret
    exact ⟨ret_int HV.out, rfl⟩
  by_cases q5 : l = [46, 46]
  · have HV := Lib.hid (show (22 : Int) = N by rw [HN.out, q5]; decide)
    subst q5
    go_wp2
    go_ret
    exact ⟨ret_int HV.out, rfl⟩
  have q4c : (l == [46]) = false := beq_false_of_ne q4
  have q5c : (l == [46, 46]) = false := beq_false_of_ne q5
  by_cases q6 : 24 < (l.length : Int)
  · have HV := Lib.hid (show (63 : Int) = N by rw [HN.out, q1b, q2, q3, q4c, q5c, if_neg (by decide), if_pos (by omega)])
    clear q1 q4 q5 q1b q2 q3
    go_wp2
    go_ret
    exact ⟨ret_int HV.out, rfl⟩
  · have HV := Lib.hid (show (0 : Int) = N by rw [HN.out, q1b, q2, q3, q4c, q5c, if_neg (by decide), if_neg (by omega)])
    clear q1 q4 q5 q1b q2 q3
    go_wp2
    go_ret
    exact ⟨ret_int HV.out, rfl⟩
theorem nameSt_short {l : List UInt8} (h : nameSt l = 0) : l.length ≤ 24 := by
  unfold nameSt at h
  split at h
  · omega
  · split at h
    · omega
    · omega
end Go.Proofs.YtgifmpobokaejaaGreatDoor


/-
  Layer 4, plain laws: how a text is shown, by the program and by the document, and read. No condition.
-/
namespace Go.Proofs.YtgifmpobokaejaaGreatDoor
open Go.RowKit

/-- is a rune shown as it is -/
def plainR (v : Nat) : Bool := decide ((97 ≤ v ∧ v ≤ 122 ∨ 65 ≤ v ∧ v ≤ 90 ∨ 48 ≤ v ∧ v ≤ 57) ∨ (v = 45 ∨ v = 95 ∨ v = 46) ∨ 161 ≤ v ∧ v ≠ 65533)
def digL : List UInt8 := [48, 49, 50, 51, 52, 53, 54, 55, 56, 57, 97, 98, 99, 100, 101, 102]
def dig (n : Nat) : UInt8 := digL.getD n 0
/-- a byte, shown -/
def hexL (b : UInt8) : List UInt8 := [37, dig (b.toNat / 16), dig (b.toNat % 16)]
/-- the first rune of a text, shown -/
def piece (s : List UInt8) : List UInt8 := if plainR (dec s).1 then s.take (dec s).2 else (s.take (dec s).2).flatMap hexL
def showF : Nat → List UInt8 → List UInt8
  | 0, _ => []
  | f + 1, s => if s = [] then [] else piece s ++ showF f (s.drop (dec s).2)
theorem showF_stable : ∀ (f g : Nat) (s : List UInt8), s.length ≤ f → s.length ≤ g → showF f s = showF g s
  | 0, 0, s, _, _ => rfl
  | 0, g + 1, s, hf, _ => by
    have : s = [] := List.eq_nil_of_length_eq_zero (by omega)
    subst this; rfl
  | f + 1, 0, s, _, hg => by
    have : s = [] := List.eq_nil_of_length_eq_zero (by omega)
    subst this; rfl
  | f + 1, g + 1, s, hf, hg => by
    have hp := dec_pos s
    unfold showF
    by_cases hs : s = []
    · rw [if_pos hs, if_pos hs]
    · have : 0 < s.length := List.length_pos_iff.2 hs
      rw [if_neg hs, if_neg hs, showF_stable f g _ (by simp; omega) (by simp; omega)]
/-- a text that is not empty, shown by the program -/
def showL (s : List UInt8) : List UInt8 := showF s.length s
theorem showL_nil : showL [] = [] := rfl
theorem showL_step {s : List UInt8} (hs : s ≠ []) : showL s = piece s ++ showL (s.drop (dec s).2) := by
  have hp := dec_pos s
  have : 0 < s.length := List.length_pos_iff.2 hs
  unfold showL
  obtain ⟨f, hf⟩ : ∃ f, s.length = f + 1 := ⟨s.length - 1, by omega⟩
  rw [hf, showF, if_neg hs, showF_stable f (s.drop (dec s).2).length _ (by simp; omega) (Nat.le_refl _)]
theorem piece_len (s : List UInt8) : (piece s).length ≤ 3 * (dec s).2 := by
  have h : ∀ l : List UInt8, (l.flatMap hexL).length = 3 * l.length := fun l => by
    induction l with
    | nil => rfl
    | cons a l ih => rw [List.flatMap_cons, List.length_append, ih]; simp [hexL]; omega
  unfold piece
  split
  · simp; omega
  · rw [h]; simp; omega
theorem showF_len : ∀ (f : Nat) (s : List UInt8), s.length ≤ f → (showF f s).length ≤ 3 * s.length
  | 0, s, h => by simp [showF]
  | f + 1, s, h => by
    unfold showF
    by_cases hs : s = []
    · rw [if_pos hs]; simp
    · rw [if_neg hs, List.length_append]
      have h1 := piece_len s
      have h2 := dec_le hs
      have h3 := dec_pos s
      have h4 := showF_len f (s.drop (dec s).2) (by simp; omega)
      rw [List.length_drop] at h4
      omega
theorem showL_len (s : List UInt8) : (showL s).length ≤ 3 * s.length := showF_len _ _ (Nat.le_refl _)

/-- the same, by the document: a rune that is plain, or one byte -/
def stepR (s : List UInt8) : List UInt8 × Nat := if 0 < (rsz s).1 ∧ plainR (rsz s).2 = true then (s.take (rsz s).1, (rsz s).1) else ((s.take 1).flatMap hexL, 1)
theorem stepR_pos (s : List UInt8) : 1 ≤ (stepR s).2 := by
  unfold stepR
  split
  · simp only; omega
  · simp
theorem stepR_le {s : List UInt8} (hs : s ≠ []) : (stepR s).2 ≤ s.length := by
  have : 0 < s.length := List.length_pos_iff.2 hs
  unfold stepR
  split
  · rename_i h
    have h2 := dec_le hs
    rcases rsz_dec s with ⟨h1, _⟩ | ⟨_, h1⟩
    · rw [h1] at h; omega
    · rw [h1] at h2; exact h2
  · simp only; omega
def showRF : Nat → List UInt8 → List UInt8
  | 0, _ => []
  | f + 1, s => if s = [] then [] else (stepR s).1 ++ showRF f (s.drop (stepR s).2)
theorem showRF_stable : ∀ (f g : Nat) (s : List UInt8), s.length ≤ f → s.length ≤ g → showRF f s = showRF g s
  | 0, 0, s, _, _ => rfl
  | 0, g + 1, s, hf, _ => by
    have : s = [] := List.eq_nil_of_length_eq_zero (by omega)
    subst this; rfl
  | f + 1, 0, s, _, hg => by
    have : s = [] := List.eq_nil_of_length_eq_zero (by omega)
    subst this; rfl
  | f + 1, g + 1, s, hf, hg => by
    have hp := stepR_pos s
    unfold showRF
    by_cases hs : s = []
    · rw [if_pos hs, if_pos hs]
    · have : 0 < s.length := List.length_pos_iff.2 hs
      rw [if_neg hs, if_neg hs, showRF_stable f g _ (by simp; omega) (by simp; omega)]
def showR (s : List UInt8) : List UInt8 := showRF s.length s
theorem showR_step {s : List UInt8} (hs : s ≠ []) : showR s = (stepR s).1 ++ showR (s.drop (stepR s).2) := by
  have hp := stepR_pos s
  have : 0 < s.length := List.length_pos_iff.2 hs
  unfold showR
  obtain ⟨f, hf⟩ : ∃ f, s.length = f + 1 := ⟨s.length - 1, by omega⟩
  rw [hf, showRF, if_neg hs, showRF_stable f (s.drop (stepR s).2).length _ (by simp; omega) (Nat.le_refl _)]
theorem showR_hexes : ∀ (n : Nat) (s : List UInt8), n ≤ s.length → (∀ k, k < n → 128 ≤ at0 s k ∧ at0 s k ≤ 191) → showR s = (s.take n).flatMap hexL ++ showR (s.drop n)
  | 0, s, _, _ => by simp
  | n + 1, [], h, _ => by simp at h
  | n + 1, c :: s, h, hc => by
    have h0 := rsz_cont (hc 0 (by omega))
    have e : stepR (c :: s) = (hexL c, 1) := by unfold stepR; rw [h0]; simp
    rw [showR_step (by simp), e]
    have ih := showR_hexes n s (by simpa using h) (fun k hk => hc (k + 1) (by omega))
    simp only [List.drop_succ_cons, List.drop_zero, List.take_succ_cons, List.flatMap_cons, List.append_assoc]
    rw [ih]
theorem show_same : ∀ (n : Nat) (s : List UInt8), s.length ≤ n → showL s = showR s
  | 0, s, h => by
    have : s = [] := List.eq_nil_of_length_eq_zero (by omega)
    subst this; rfl
  | n + 1, s, h => by
    by_cases hs : s = []
    · subst hs; rfl
    have hpos : 0 < s.length := List.length_pos_iff.2 hs
    have hw := dec_pos s
    have hle := dec_le hs
    have ih := show_same n (s.drop (dec s).2) (by simp; omega)
    rw [showL_step hs, ih]
    by_cases hp : plainR (dec s).1 = true
    · -- a plain rune is no error: the document sees it too
      have hstep : stepR s = (s.take (dec s).2, (dec s).2) := by
        rcases rsz_dec s with ⟨_, h1⟩ | ⟨h0, h1⟩
        · rw [h1] at hp; exact absurd hp (by decide)
        · unfold stepR
          rw [h1] at hp ⊢
          rw [if_pos ⟨h0, hp⟩]
      rw [showR_step hs, hstep]
      unfold piece
      rw [if_pos hp]
    · have hstep : stepR s = ((s.take 1).flatMap hexL, 1) := by
        unfold stepR
        rw [if_neg]
        rintro ⟨h0, h1⟩
        rcases rsz_dec s with ⟨h2, _⟩ | ⟨_, h2⟩
        · rw [h2] at h0; exact absurd h0 (by decide)
        · rw [h2] at hp; exact hp h1
      rw [showR_step hs, hstep]
      unfold piece
      rw [if_neg hp]
      have hx := showR_hexes ((dec s).2 - 1) (s.drop 1) (by simp; omega) (fun k hk => by
        have := dec_conts (s := s) (k := 1 + k) (by omega) (by omega)
        simpa [at0, List.getElem?_drop, Nat.add_comm] using this)
      rw [hx, List.drop_drop, show 1 + ((dec s).2 - 1) = (dec s).2 by omega, ← List.append_assoc, ← List.flatMap_append]
      congr 2
      rw [← List.take_add, show 1 + ((dec s).2 - 1) = (dec s).2 by omega]
/-- any text, shown -/
def showN (s : List UInt8) : List UInt8 := if s = [] then [37] else showL s

/-- a digit's value; below nought: it is none -/
def valD (c : UInt8) : Int := if digL.findIdx (· == c) < digL.length then (digL.findIdx (· == c) : Nat) else -1
/-- the text that is shown so -/
def unhex : List UInt8 → Option (List UInt8)
  | [] => some []
  | c :: r => if c ≠ 37 then (unhex r).map (c :: ·) else
    match r with
    | a :: b :: r' => if valD a < 0 ∨ valD b < 0 then none else (unhex r').map (UInt8.ofNat ((valD a).toNat * 16 + (valD b).toNat) :: ·)
    | _ => none
theorem unhex_skip {c : UInt8} (h : c ≠ 37) (r : List UInt8) : unhex (c :: r) = (unhex r).map (c :: ·) := by
  conv => lhs; unfold unhex
  exact if_pos h
theorem unhex_hex (a b : UInt8) (r : List UInt8) : unhex (37 :: a :: b :: r) = if valD a < 0 ∨ valD b < 0 then none else (unhex r).map (UInt8.ofNat ((valD a).toNat * 16 + (valD b).toNat) :: ·) := by
  rw [unhex, if_neg (by decide)]
theorem unhex_free : ∀ (p r : List UInt8), (∀ c ∈ p, c ≠ 37) → unhex (p ++ r) = (unhex r).map (p ++ ·)
  | [], r, _ => by simp
  | c :: p, r, h => by
    rw [List.cons_append, unhex_skip (h c (by simp)), unhex_free p r (fun x hx => h x (by simp [hx])), Option.map_map]
    rfl
theorem valD_dig : ∀ n : Nat, n < 16 → valD (dig n) = n := by decide
theorem unhex_hexL (b : UInt8) (r : List UInt8) : unhex (hexL b ++ r) = (unhex r).map (b :: ·) := by
  have hb : b.toNat < 256 := UInt8.toNat_lt _
  have h1 := valD_dig (b.toNat / 16) (by omega)
  have h2 := valD_dig (b.toNat % 16) (by omega)
  show unhex (37 :: dig (b.toNat / 16) :: dig (b.toNat % 16) :: r) = _
  rw [unhex_hex, h1, h2, if_neg (by omega)]
  have e : UInt8.ofNat ((((b.toNat / 16 : Nat) : Int)).toNat * 16 + (((b.toNat % 16 : Nat) : Int)).toNat) = b := by
    rw [Int.toNat_natCast, Int.toNat_natCast, show b.toNat / 16 * 16 + b.toNat % 16 = b.toNat by omega]
    exact UInt8.ofNat_toNat
  rw [e]
theorem unhex_hexes : ∀ (p r : List UInt8), unhex (p.flatMap hexL ++ r) = (unhex r).map (p ++ ·)
  | [], r => by simp
  | b :: p, r => by
    rw [List.flatMap_cons, List.append_assoc, unhex_hexL, unhex_hexes p r, Option.map_map]
    rfl
theorem piece_plain {s : List UInt8} (h : plainR (dec s).1 = true) : ∀ c ∈ s.take (dec s).2, c ≠ 37 := by
  intro c hc e
  subst e
  obtain ⟨k, hk, he⟩ := List.mem_take_iff_getElem.1 hc
  have hat : at0 s k = 37 := by unfold at0; rw [List.getElem?_eq_getElem (by omega), he]; rfl
  rcases Nat.eq_zero_or_pos k with rfl | h0
  · have hd : dec s = (37, 1) := by unfold dec; rw [hat]; rfl
    rw [hd] at h
    exact absurd h (by decide)
  · have := dec_conts h0 (by omega : k < (dec s).2)
    omega
theorem unhex_show : ∀ (n : Nat) (s : List UInt8), s.length ≤ n → unhex (showL s) = some s
  | 0, s, h => by
    have : s = [] := List.eq_nil_of_length_eq_zero (by omega)
    subst this; rfl
  | n + 1, s, h => by
    by_cases hs : s = []
    · subst hs; rfl
    have hpos : 0 < s.length := List.length_pos_iff.2 hs
    have hw := dec_pos s
    have ih := unhex_show n (s.drop (dec s).2) (by simp; omega)
    rw [showL_step hs]
    unfold piece
    split
    · rename_i hp
      rw [unhex_free _ _ (piece_plain hp), ih]
      simp
    · rw [unhex_hexes, ih]
      simp
theorem showL_ne {s : List UInt8} : showL s ≠ [37] := by
  intro h
  have := unhex_show s.length s (Nat.le_refl _)
  rw [h, show unhex [37] = none by decide +kernel] at this
  cases this
theorem showN_ne {s : List UInt8} (h : s ≠ []) : showN s = showL s := if_neg h
end Go.Proofs.YtgifmpobokaejaaGreatDoor


/-
  Layer 21, walks: the least number that is free. No condition but at most 2^40 nodes.
-/

namespace Go.Proofs.YtgifmpobokaejaaGreatDoor
open Go.RowKit

set_option maxRecDepth 20000 in
set_option maxHeartbeats 800000 in
theorem indexFunc_any (A : Option Addr) (c : Nat) (ns : List Nd) (w : World) (f : Nat) (cap : Array Value) (p : Nd → Bool) (hl : ns.length ≤ 1000000000000) (hA : At w 15 A (ns.map Nd.vals)) (hf : Tells w f cap p) :
    Calls Tryz.prog 120 #[.slice A ns.length c, .func (.func f) #[] cap] w fun e w' => e = .returned (.int .i64 (findI p ns)) ∧ Below w.heap.size w w' := by
  go_enter Tryz.func120, Tryz.ntmps120
  go_wp2
  go_loopw [8] (fun i wr => ∃ k : Nat, k ≤ ns.length ∧ i = .int .i64 k ∧ (ns.take k).any p = false ∧ Below w.heap.size w wr) (fun i _ => ns.length - (intOf i).toNat)
  case atStart => exact ⟨0, Nat.zero_le _, rfl, rfl, Below.refl _ _⟩
  case round =>
    obtain ⟨k, hk, rfl, hn, hB⟩ := hrel
    have HN := Lib.hid hn
    clear hn
    by_cases hlt : k < ns.length
    · have hA2 := hA.below hB
      obtain ⟨b, off, rfl, hb, hc⟩ := nodeCell hA2 hlt
      have hrun := hf.run
      go_wp2_with (first
        | (refine wpList_load_mid (by rfl) 65 _ (by rfl) _ _ (by rfl) _ _ hc Tryz.underlying65 (by rfl) (by kernel_rfl) ?_)
        | fail)
      refine (hf.calls _ _ hB).mono ?_
      rintro e w1 ⟨rfl, hb1⟩
      have hB1 : Below w.heap.size w w1 := below_then hB hb1
      by_cases h : p ns[k] = true
      · have HS := Lib.hid (findI_hit hlt HN.out h)
        clear hrun hc hA hA2 hf hb1 HN
        go_wp2
        go_ret
        exact ⟨ret_int HS.out.symm, hB1⟩
      · rw [Bool.not_eq_true] at h
        have HS := Lib.hid (any_step hlt HN.out h)
        clear hrun hc hA hA2 hf hb1 HN
        go_wp2
        go_roundw
        case rel => exact ⟨k + 1, by omega, by go_num, HS.out, hB1⟩
        case measure => simp [intOf]; omega
    · have HS := Lib.hid (findI_none (any_end (by omega) HN.out))
      go_wp2
      go_ret
      exact ⟨ret_int HS.out.symm, hB⟩

theorem containsFunc_any (A : Option Addr) (c : Nat) (ns : List Nd) (w : World) (f : Nat) (cap : Array Value) (p : Nd → Bool) (hl : ns.length ≤ 1000000000000) (hA : At w 15 A (ns.map Nd.vals)) (hf : Tells w f cap p) :
    Calls Tryz.prog 95 #[.slice A ns.length c, .func (.func f) #[] cap] w fun e w' => e = .returned (.bool (ns.any p)) ∧ Below w.heap.size w w' := by
  go_enter Tryz.func95, Tryz.ntmps95
  go_wp2_with (go_at_call 120; refine (indexFunc_any A c ns _ f cap p hl hA hf).mono ?_; rintro e w' ⟨rfl, hb⟩)
  go_ret
  exact ⟨ret_bool (findI_any _ _), hb⟩

end Go.Proofs.YtgifmpobokaejaaGreatDoor


/-
  Layer 21, walks: the reference's least number; two lists of numbers held against each other; the least of some numbers. Conditions: at most 70 nodes; lists of known numbers.
-/
namespace Go.Proofs.YtgifmpobokaejaaGreatDoor
open Go.RowKit

theorem any_or {ns : List Nd} {p : Nd → Bool} {k : Nat} (hk : k < ns.length) : (ns.take (k + 1)).any p = ((ns.take k).any p || p ns[k]) := by
  rw [take_succ _ _ hk, List.any_append]; simp

/-- a slice of numbers that is known -/
def ints (l : List Int) : List (List Value) := l.map fun n => [.int .i64 n]
theorem intCell {w : World} {A : Option Addr} {l : List Int} (hA : At w 1 A (ints l)) {k : Nat} (hk : k < l.length) :
    ∃ b off, A = some ⟨b, off, none⟩ ∧ b < w.heap.size ∧ w.cell? ⟨b, off + k, none⟩ = some (.int .i64 l[k]) := by
  obtain ⟨b, off, rfl, hb, hc⟩ := hA.getD (k := k) (by simpa [ints] using hk)
  exact ⟨b, off, rfl, hb, by simpa using hc 0 _ (by simp [ints])⟩

theorem ints_new (l : List Int) (w : World) (T : TypeId) : At (w.alloc (.cells (l.map (Value.int .i64)).toArray T)) 1 (some ⟨w.heap.size, 0, none⟩) (ints l) := by
  intro i r hr
  refine ⟨w.heap.size, 0, rfl, by simp, fun j u hu => ?_⟩
  simp only [ints, List.getElem?_map, Option.map_eq_some_iff] at hr
  obtain ⟨n, hn, rfl⟩ := hr
  match j, hu with
  | 0, hu =>
    simp only [List.getElem?_cons_zero, Option.some.injEq] at hu
    subst hu
    rw [World.cell?_alloc_at _ _ _ _ rfl]
    simp [hn]

/-- the least of a list of numbers that is not empty -/
def leastOf : List Int → Int
  | [] => 0
  | x :: l => l.foldl min x
theorem leastOf_two (a b : Int) : leastOf [a, b] = min a b := rfl

set_option maxRecDepth 20000 in
set_option maxHeartbeats 800000 in
theorem min_any (A : Option Addr) (c : Nat) (a b : Int) (w : World) (hA : At w 1 A (ints [a, b])) :
    Calls Tryz.prog 154 #[.slice A 2 c] w fun e w' => e = .returned (.int .i64 (min a b)) ∧ Below w.heap.size w w' := by
  obtain ⟨b0, off, rfl, hb1, hc0⟩ := intCell hA (k := 0) (by simp)
  obtain ⟨b1, off1, he, hb2, hc1⟩ := intCell hA (k := 1) (by simp)
  simp only [Option.some.injEq, Addr.mk.injEq] at he
  obtain ⟨rfl, rfl, _⟩ := he
  simp only [List.getElem_cons_zero, List.getElem_cons_succ, Nat.add_zero] at hc0 hc1
  by_cases hab : b < a
  all_goals
    go_enter Tryz.func154, Tryz.ntmps154
    go_wp2
    refine wp_loop_rounds 2 ?_
    rw [rounds_succ]
    go_wp2
    rw [rounds_succ]
    go_wp2
    go_ret
    exact ⟨ret_int (by omega), Below.refl _ _⟩

theorem least_any (A : Option Addr) (c : Nat) (a b : Int) (w : World) (hA : At w 1 A (ints [a, b])) :
    Calls Tryz.prog 145 #[.slice A 2 c] w fun e w' => e = .returned (.int .i64 (min a b)) ∧ Below w.heap.size w w' := by
  go_enter Tryz.func145, Tryz.ntmps145
  go_wp2_with (go_at_call 154; refine (min_any A c a b _ hA).mono ?_; rintro e w' ⟨rfl, hb⟩)
  go_ret
  exact ⟨rfl, hb⟩

end Go.Proofs.YtgifmpobokaejaaGreatDoor


/-
  Layer 21, walks: what is free, what a user may have more, why not. Conditions: at most 70 nodes, of at most 2000 bytes each; limits that may be.
-/
namespace Go.Proofs.YtgifmpobokaejaaGreatDoor
open Go.RowKit
attribute [local go_sem ↓] Go.wp_at_zero Go.wp_at_succ

theorem ldTree {ρ : Operand → Value} {w : World} {dst : Option Tmp} {ty : TypeId} {pos : String} {after : Array Edge} {g : Option (Nat × Bool)} {x : Operand} (h : (rowAt w 6 (ρ x)).isSome = true) :
    (execOp ρ ⟨dst, .load 26 x, ty, pos, after, g⟩).run Tryz.prog w = .ok (.value (.agg ((rowAt w 6 (ρ x)).getD #[]))) w := ex_load 26 6 Tryz.underlying26 rfl (by kernel_rfl) h
attribute [local go_sem ↓] ldTree

attribute [local go_sem] rowAt_ptr rowOf_drew rowOf_drewN rowOf_alloc_at rowOf_alloc_past Tr.len

set_option maxRecDepth 20000 in
set_option maxHeartbeats 800000 in
theorem free_any (t : Tr) (w : World) (hs : small t.ns) (ho : t.lim.ok = true) (hA : At w 15 t.na (t.ns.map Nd.vals)) :
    Calls Tryz.prog 131 #[t.val] w fun e w' => e = .returned (.int .i64 (free t)) ∧ Below w.heap.size w w' := by
  have hl := hs.1
  have hu : used t.ns ≤ 2000 * 70 := Nat.le_trans (used_le _ hs.2) (Nat.mul_le_mul (Nat.le_refl _) hl)
  have hlb := Lim.bounds ho
  have c0 := range_new w t.vals 26 0 _ rfl
  have c5 := range_new w t.vals 26 5 _ rfl
  have hz : w.heap.size < (w.alloc (.cells t.vals.toArray 26)).heap.size := by simp
  have hA1 := hA.alloc (.cells t.vals.toArray 26)
  have hB1 : Below w.heap.size w (w.alloc (.cells t.vals.toArray 26)) := (Below.refl _ _).alloc (Nat.le_refl _) _
  have hwr : IntKind.i64.wrap (t.lim.space - (used t.ns : Int)) = t.lim.space - (used t.ns : Int) := IntWalk.i64_in _ (by omega)
  have HO := Lib.hid ho
  clear ho
  have HS := Lib.hid hs
  clear hs
  unfold Tr.val
  go_enter Tryz.func131, Tryz.ntmps131
  go_wp2_with fail
  generalize w.alloc (.cells t.vals.toArray 26) = w1 at *
  go_region_held3 (fun W => Stb w1 W) (first | exact Stb.start | assumption | (exact Stb.call (by assumption) (by assumption))) (first | (go_at_call 144; refine (used_any _ _ t.ns _ HS.out (hA1.stb (by assumption))).mono ?_; rintro e w' ⟨rfl, hb⟩))
  go_wp2
  all_goals
    go_ret
    refine ⟨ret_int ?_, hB1.trans ((by assumption : Stb w1 _).below.mono hB1.size)⟩
    unfold free
    omega

theorem used_small {ns : List Nd} (hs : small ns) : used ns ≤ 2000 * 70 := Nat.le_trans (used_le _ hs.2) (Nat.mul_le_mul (Nat.le_refl _) hs.1)
theorem owned_small {ns : List Nd} (hs : small ns) (uid : Int) : owned ns uid ≤ 2000 * 70 := Nat.le_trans (used_filter_le _ _) (used_small hs)

set_option maxRecDepth 20000 in
set_option maxHeartbeats 1600000 in
theorem left_any (t : Tr) (uid : Int) (w : World) (hs : small t.ns) (ho : t.lim.ok = true) (hA : At w 15 t.na (t.ns.map Nd.vals)) :
    Calls Tryz.prog 132 #[t.val, .int .i64 uid] w fun e w' => e = .returned (.int .i64 (left t uid)) ∧ Below w.heap.size w w' := by
  have hu := owned_small hs uid
  have hlb := Lim.bounds ho
  have hcr := range_new w t.vals 26
  have hrow := rowOf_of hcr (Tr.len t) (by omega)
  have c1 := hcr 1 _ rfl
  have c5 := hcr 5 _ rfl
  have hz : w.heap.size < (w.alloc (.cells t.vals.toArray 26)).heap.size := by simp
  have hA1 := hA.alloc (.cells t.vals.toArray 26)
  have hB1 : Below w.heap.size w (w.alloc (.cells t.vals.toArray 26)) := (Below.refl _ _).alloc (Nat.le_refl _) _
  have hwr : IntKind.i64.wrap (t.lim.quota - (owned t.ns uid : Int)) = t.lim.quota - (owned t.ns uid : Int) := IntWalk.i64_in _ (by omega)
  have HO := Lib.hid ho
  clear ho
  have HS := Lib.hid hs
  clear hs
  by_cases h0 : (uid == 0) = true
  · have hL : Hid (left t uid = free t) := by show left t uid = free t; unfold left; rw [if_pos h0]
    go_enter Tryz.func132, Tryz.ntmps132
    unfold Tr.val
    go_wp2_with (refine wpList_load_mid (by rfl) 26 _ (by rfl) _ _ (by rfl) t.vals _ hcr Tryz.underlying26 (by rfl) (by kernel_rfl) ?_)
    refine (free_any t _ HS.out HO.out hA1).mono ?_
    rintro e w' ⟨rfl, hb⟩
    go_wp2
    go_ret
    exact ⟨ret_int hL.out.symm, below_new _ hb⟩
  · rw [Bool.not_eq_true] at h0
    have hL : Hid (left t uid = min (free t) (max 0 (t.lim.quota - owned t.ns uid))) := by show _ = _; unfold left; rw [if_neg (by simp [h0])]
    unfold Tr.val
    by_cases hq : (owned t.ns uid : Int) < t.lim.quota
    all_goals
      go_enter Tryz.func132, Tryz.ntmps132
      go_wp2_with fail
      generalize w.alloc (.cells t.vals.toArray 26) = w1 at *
      go_region_held3 (fun W => Stb w1 W) (first | exact Stb.start | assumption | (exact Stb.alloc (by assumption) _) | (exact Stb.call (by assumption) (by assumption))) (first | (go_at_call 146; refine (owned_any _ _ t.ns _ _ HS.out (hA1.stb (by assumption))).mono ?_; rintro e w' ⟨rfl, hb⟩) | (go_at_call 131; refine (free_any t _ HS.out HO.out (hA1.stb (by assumption))).mono ?_; rintro e w' ⟨rfl, hb⟩) | (go_at_call 145; refine (least_any _ _ _ _ _ (ints_new [_, _] _ _)).mono ?_; rintro e w' ⟨rfl, hb⟩))
      go_wp2
      go_ret
      refine ⟨ret_int ?_, hB1.trans ((by assumption : Stb w1 _).below.mono hB1.size)⟩
      rw [hL.out]
      congr 1
      omega
end Go.Proofs.YtgifmpobokaejaaGreatDoor


/-
  Layer 21, walks: which limits may be, whether a user may have more. Conditions: at most 70 nodes, of at most 2000 bytes each; limits that may be.
-/
namespace Go.Proofs.YtgifmpobokaejaaGreatDoor
open Go.RowKit
attribute [local go_sem ↓] Go.wp_at_zero Go.wp_at_succ ldTree

attribute [local go_sem] rowAt_ptr rowOf_drew rowOf_drewN rowOf_alloc_at rowOf_alloc_past Tr.len

theorem Lim.cases (l : Lim) : (0 ≤ l.space ∧ l.space ≤ 1073741824 ∧ 0 ≤ l.quota ∧ l.quota ≤ 1073741824 ∧ 1 ≤ l.nodes ∧ l.nodes ≤ 64) ∨ (l.space < 0) ∨ (0 ≤ l.space ∧ 1073741824 < l.space) ∨ (0 ≤ l.space ∧ l.space ≤ 1073741824 ∧ l.quota < 0) ∨
    (0 ≤ l.space ∧ l.space ≤ 1073741824 ∧ 0 ≤ l.quota ∧ 1073741824 < l.quota) ∨ (0 ≤ l.space ∧ l.space ≤ 1073741824 ∧ 0 ≤ l.quota ∧ l.quota ≤ 1073741824 ∧ l.nodes < 1) ∨
    (0 ≤ l.space ∧ l.space ≤ 1073741824 ∧ 0 ≤ l.quota ∧ l.quota ≤ 1073741824 ∧ 1 ≤ l.nodes ∧ 64 < l.nodes) := by omega
theorem Lim.ok_iff (l : Lim) : l.ok = decide (0 ≤ l.space ∧ l.space ≤ 1073741824 ∧ 0 ≤ l.quota ∧ l.quota ≤ 1073741824 ∧ 1 ≤ l.nodes ∧ l.nodes ≤ 64) := by
  rw [Bool.eq_iff_iff]; simp only [Lim.ok, Bool.and_eq_true, decide_eq_true_eq]; omega
/-- OK, or an error -/
def errv (c : Int) (ok : Bool) : Int := if ok then 0 else c
theorem Lim.yes {l : Lim} (h : 0 ≤ l.space ∧ l.space ≤ 1073741824 ∧ 0 ≤ l.quota ∧ l.quota ≤ 1073741824 ∧ 1 ≤ l.nodes ∧ l.nodes ≤ 64) : l.ok = true := by rw [Lim.ok_iff]; exact decide_eq_true h
theorem Lim.no {l : Lim} (h : ¬ (0 ≤ l.space ∧ l.space ≤ 1073741824 ∧ 0 ≤ l.quota ∧ l.quota ≤ 1073741824 ∧ 1 ≤ l.nodes ∧ l.nodes ≤ 64)) : l.ok = false := by rw [Lim.ok_iff]; exact decide_eq_false h

set_option maxRecDepth 20000 in
set_option maxHeartbeats 1600000 in
theorem refCheck_any (l : Lim) (w : World) :
    Calls Tryz.prog 20 #[.agg l.vals.toArray] w fun e w' => e = .returned (.bool l.ok) ∧ Below w.heap.size w w' := by
  have hcr := range_new w l.vals 23
  have c0 := hcr 0 _ rfl
  have c1 := hcr 1 _ rfl
  have c2 := hcr 2 _ rfl
  have hB1 : Below w.heap.size w (w.alloc (.cells l.vals.toArray 23)) := (Below.refl _ _).alloc (Nat.le_refl _) _
  clear hcr
  rcases Lim.cases l with h | h | h | h | h | h | h
  · have hr := Lib.hid (Lim.yes h)
    go_enter Tryz.func20, Tryz.ntmps20
    go_wp2
    go_ret
    exact ⟨ret_bool (by rw [hr.out]; first | done | rfl | (simp; done) | (simp; omega)), hB1⟩
  all_goals
    have hr := Lib.hid (Lim.no (l := l) (by omega))
    go_enter Tryz.func20, Tryz.ntmps20
    go_wp2
    go_ret
    exact ⟨ret_bool (by rw [hr.out]; first | done | rfl | (simp; done) | (simp; omega)), hB1⟩

set_option maxRecDepth 20000 in
set_option maxHeartbeats 1600000 in
theorem check_any (l : Lim) (w : World) :
    Calls Tryz.prog 57 #[.agg l.vals.toArray] w fun e w' => e = .returned (.int .i64 (errv 3 l.ok)) ∧ Below w.heap.size w w' := by
  have hcr := range_new w l.vals 23
  have c0 := hcr 0 _ rfl
  have c1 := hcr 1 _ rfl
  have c2 := hcr 2 _ rfl
  have hB1 : Below w.heap.size w (w.alloc (.cells l.vals.toArray 23)) := (Below.refl _ _).alloc (Nat.le_refl _) _
  clear hcr
  rcases Lim.cases l with h | h | h | h | h | h | h
  · have hr := Lib.hid (Lim.yes h)
    go_enter Tryz.func57, Tryz.ntmps57
    go_wp2
    go_ret
    exact ⟨ret_int (by rw [hr.out]; rfl), hB1⟩
  all_goals
    have hr := Lib.hid (Lim.no (l := l) (by omega))
    go_enter Tryz.func57, Tryz.ntmps57
    go_wp2
    go_ret
    exact ⟨ret_int (by rw [hr.out]; rfl), hB1⟩

end Go.Proofs.YtgifmpobokaejaaGreatDoor
