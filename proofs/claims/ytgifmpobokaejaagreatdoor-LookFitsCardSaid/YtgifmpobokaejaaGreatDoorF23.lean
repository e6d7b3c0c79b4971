/-
  Layer 22, walks: handles of nodes, by both. Conditions: machine texts; the library's tables and errors are laid.
-/
import Derived.Test.YtgifmpobokaejaaGreatDoorF15
import Derived.Test.YtgifmpobokaejaaGreatDoorF16
import Derived.Test.YtgifmpobokaejaaGreatDoorF07
import Derived.Test.YtgifmpobokaejaaGreatDoorF19
import Derived.Lib.AppendIntMem
import Derived.Lib.AtoiErrMem
import Derived.Test.YtgifmpobokaejaaGreatDoorF12
import Derived.Test.YtgifmpobokaejaaGreatDoorRows
import Derived.Shelf.Vars
import Derived.Stop.LaidErr
import Derived.MakeChecks
import Derived.Lib.LaidTab
namespace Go.Proofs.YtgifmpobokaejaaGreatDoor
open Go.RowKit
attribute [local go_sem ↓] Go.wp_at_zero Go.wp_at_succ
attribute [local go_sem] rowAt_ptr rowOf_drew rowOf_drewN rowOf_alloc_past rowOf_new

/-- what the library reads is laid, from here on -/
def LookLaid (w : World) : Prop := ∀ W, Below w.heap.size w W → Lib.TabIs Tryz.prog W "internal/strconv.uint64pow10" .u64 Lib.pow10Tab ∧ (∃ tp p, W.var? Tryz.prog "strconv.ErrSyntax" = some #[.iface tp p]) ∧ (∃ tp p, W.var? Tryz.prog "strconv.ErrRange" = some #[.iface tp p])
theorem LookLaid.below {w w' : World} (h : LookLaid w) (hb : Below w.heap.size w w') : LookLaid w' := fun w2 h2 => h w2 (below_then hb h2)
theorem LookLaid.here {w : World} (h : LookLaid w) : Lib.TabIs Tryz.prog w "internal/strconv.uint64pow10" .u64 Lib.pow10Tab ∧ (∃ tp p, w.var? Tryz.prog "strconv.ErrSyntax" = some #[.iface tp p]) ∧ (∃ tp p, w.var? Tryz.prog "strconv.ErrRange" = some #[.iface tp p]) := h w (Below.refl _ _)
theorem itoa22_any (n : Nat) (w : World) (hn : (n : Int) ≤ 9223372036854775807) (ht : LookLaid w) : Calls Tryz.prog 112 #[.int .i64 (n : Int)] w fun e w' => e = .returned (.string (bs (Lib.decDigits n))) ∧ Below w.heap.size w w' := by
  refine (Tryz.strconv_Itoa (n : Int) (by omega) hn w ht.here.1).mono ?_
  rintro e w' ⟨rfl, k, os, rfl⟩
  rw [Lib.itoa_nonneg]
  exact ⟨rfl, Lib.below_grow _ _ (Nat.le_refl _) _ _⟩
/-- a node's handle -/
def genText (gen : Int) : List UInt8 := if gen < 1 then [] else Lib.decDigits gen.toNat
theorem lookText_any (gen : Int) (w : World) (hg : gen ≤ 9223372036854775807) (ht : LookLaid w) : Calls Tryz.prog 82 #[.int .i64 gen] w fun e w' => e = .returned (.string (bs (genText gen))) ∧ Below w.heap.size w w' := by
  by_cases h : gen < 1
  · have HT := Lib.hid (show genText gen = [] from if_pos h)
    go_enter Tryz.func82, Tryz.ntmps82
    go_wp2
    go_ret
    exact ⟨ret_string (by rw [HT.out]), Below.refl _ _⟩
  · obtain ⟨n, rfl⟩ : ∃ n : Nat, gen = n := ⟨gen.toNat, by omega⟩
    have HT := Lib.hid (show genText (n : Int) = Lib.decDigits n by unfold genText; rw [if_neg h, Int.toNat_natCast])
    go_enter Tryz.func82, Tryz.ntmps82
    go_wp2_with fail
    refine (itoa22_any n _ hg ht).mono ?_
    rintro e w1 ⟨rfl, hb⟩
    go_wp2
    go_ret
    exact ⟨ret_string (by rw [HT.out]), hb⟩
/-- the place of a node; -1: there is none -/
def placeOf (ns : List Nd) (gen : Int) : Int := findI (fun n : Nd => n.attr.gen == gen) ns
theorem any_next {ns : List Nd} {p : Nd → Bool} {k : Nat} (hk : k < ns.length) (hn : (ns.take k).any p = false) (h : p ns[k] = false) : (ns.take (k + 1)).any p = false := by
  rw [take_succ _ _ hk, List.any_append, hn]; simp [h]
set_option maxHeartbeats 800000 in
theorem lookOf_any (t : Tr) (gen : Int) (w : World) (_hl : t.ns.length ≤ 9223372036854775807) (hA : At w 15 t.na (t.ns.map Nd.vals)) :
    Calls Tryz.prog 83 #[t.val, .int .i64 gen] w fun e w' => e = .returned (.int .i64 (placeOf t.ns gen)) ∧ Below w.heap.size w w' := by
  have hX := Blk.new w 26 t.vals
  have hB : Below w.heap.size w (w.alloc (.cells t.vals.toArray 26)) := (Below.refl _ _).alloc (Nat.le_refl _) _
  have hA1 := hA.below hB
  obtain ⟨w1, hw1⟩ : ∃ V, V = w.alloc (.cells t.vals.toArray 26) := ⟨_, rfl⟩
  rw [← hw1] at hX hB hA1
  have c5 : w1.cell? ⟨w.heap.size, 5, none⟩ = some (.slice t.na t.ns.length t.nc) := hX.cell 5
  have HW1 := Lib.hid hw1
  have HP := Lib.hid (show placeOf t.ns gen = findI (fun n : Nd => n.attr.gen == gen) t.ns from rfl)
  have HB := Lib.hid hB
  clear hw1 hX hA hB
  unfold Tr.val
  generalize t.ns = ns at *
  generalize t.na = A at *
  go_enter Tryz.func83, Tryz.ntmps83
  go_upto_region 1 with fail
  change Code.wp _ _ _ _ (w.alloc (.cells t.vals.toArray 26))
  rw [← HW1.out]
  go_wp2
  go_loopw [9] (fun i wr => ∃ k : Nat, k ≤ ns.length ∧ i = .int .i64 k ∧ (ns.take k).any (fun n : Nd => n.attr.gen == gen) = false ∧ wr = w1) (fun i _ => ns.length - (intOf i).toNat)
  case atStart => exact ⟨0, Nat.zero_le _, rfl, rfl, rfl⟩
  case round =>
    obtain ⟨k, hk, rfl, hn, rfl⟩ := hrel
    by_cases hlt : k < ns.length
    · obtain ⟨b, off, rfl, hb, -, cc⟩ := rowCell8 Nd.len (by decide) hA1 hlt
      have c7 := cc 7 _ rfl
      have hk0 : (0 : Int) ≤ (k : Int) := Int.natCast_nonneg _
      have hk1 : (k : Int) < (ns.length : Int) := by omega
      have hiw : IntKind.i64.wrap ((k : Int) + 1) = (k : Int) + 1 := IntWalk.i64_in _ (by omega)
      by_cases hg : ns[k].attr.gen = gen
      · have HF := Lib.hid (show findI (fun n : Nd => n.attr.gen == gen) ns = k from findI_hit hlt hn (by simpa using hg))
        rw [hg] at c7
        clear hn cc hA1
        go_wp2
        go_ret
        exact ⟨ret_int (by rw [HP.out, HF.out]), HB.out⟩
      · have HN := Lib.hid (any_next hlt hn (p := fun n : Nd => n.attr.gen == gen) (by simpa using hg))
        have hg2 : (ns[k].attr.gen == gen) = false := by simpa using hg
        clear hn cc hA1
        go_wp2
        go_roundw
        case rel => exact ⟨k + 1, by omega, by go_num, HN.out, by first | rfl | trivial⟩
        case measure => simp [intOf]; omega
    · obtain rfl : k = ns.length := by omega
      rw [List.take_length] at hn
      have HF := Lib.hid (findI_none hn)
      clear hn hA1
      go_wp2
      go_ret
      exact ⟨ret_int (by rw [HP.out, HF.out]), HB.out⟩
end Go.Proofs.YtgifmpobokaejaaGreatDoor

/-
  Layer 22, walks: the number of a handle's text and its place, by the document. Condition: machine texts.
-/
namespace Go.Proofs.YtgifmpobokaejaaGreatDoor
open Go.RowKit
attribute [local go_sem ↓] Go.wp_at_zero Go.wp_at_succ
attribute [local go_sem] rowAt_ptr rowOf_drew rowOf_drewN rowOf_alloc_past rowOf_new

theorem dec_head {n : Nat} (h : 0 < n) : ∀ c r, Lib.decDigits n = c :: r → c.toNat ≠ 48 := by
  induction n using Nat.strongRecOn with
  | _ n ih =>
    intro c r e
    by_cases hn : n < 10
    · rw [Lib.decDigits.eq_def n, dif_pos hn] at e
      injection e with e1 e2
      rw [← e1, dig_toNat hn]
      omega
    · rw [decDigits_snoc hn] at e
      cases hq : Lib.decDigits (n / 10) with
      | nil => exact absurd hq (dec_ne _)
      | cons d q =>
        rw [hq] at e
        injection e with e1 e2
        rw [← e1]
        exact ih (n / 10) (by omega) (by omega) d q hq
/-- a numeral is its number's -/
theorem canon : ∀ (m : Nat) (l : List UInt8), l.length = m → l ≠ [] → (∀ c ∈ l, isDig c) → (∀ c r, l = c :: r → r = [] ∨ c.toNat ≠ 48) → Lib.decDigits (decVal l) = l ∧ (l.length = 1 ∨ 0 < decVal l) := by
  intro m
  induction m with
  | zero =>
    intro l h hne
    exact absurd (List.eq_nil_of_length_eq_zero h) hne
  | succ m ih =>
    intro l h hne hd hh
    obtain ⟨r, c, rfl⟩ : ∃ r c, l = r ++ [c] := ⟨l.dropLast, l.getLast hne, (List.dropLast_concat_getLast hne).symm⟩
    have hc : isDig c := hd c (by simp)
    rw [decVal_snoc]
    by_cases hr : r = []
    · subst hr
      have h0 : decVal [] = 0 := rfl
      rw [h0]
      have h10 : 10 * 0 + (c.toNat - 48) < 10 := by have := hc.1; have := hc.2; omega
      rw [Lib.decDigits.eq_def, dif_pos h10]
      refine ⟨?_, .inl rfl⟩
      have : (48 + (10 * 0 + (c.toNat - 48))) = c.toNat := by have := hc.1; omega
      rw [this]
      simp
    · have hrl : r.length = m := by simpa using h
      have hhead : ∀ d q, r = d :: q → q = [] ∨ d.toNat ≠ 48 := fun d q e => by
        rcases hh d (q ++ [c]) (by rw [e]; rfl) with h1 | h1
        · simp at h1
        · exact .inr h1
      obtain ⟨h1, h2⟩ := ih r hrl hr (fun d hd' => hd d (by simp [hd'])) hhead
      have hpos : 0 < decVal r := by
        rcases h2 with h2 | h2
        · obtain ⟨d, rfl⟩ : ∃ d, r = [d] := by
            match r, h2 with
            | [d], _ => exact ⟨d, rfl⟩
          have hd1 := hd d (by simp)
          have hd2 := hh d [c] rfl
          have : decVal [d] = d.toNat - 48 := by simp [decVal]
          rw [this]
          have := hd1.1
          rcases hd2 with hd2 | hd2
          · cases hd2
          · omega
        · exact h2
      have hc1 := hc.1
      have hc2 := hc.2
      have hn : ¬ 10 * decVal r + (c.toNat - 48) < 10 := by omega
      rw [decDigits_snoc hn]
      have e1 : (10 * decVal r + (c.toNat - 48)) / 10 = decVal r := by omega
      have e2 : 48 + (10 * decVal r + (c.toNat - 48)) % 10 = c.toNat := by omega
      rw [e1, e2, h1]
      refine ⟨by simp, .inr (by omega)⟩
theorem genOf_long {l : List UInt8} (h : 19 < l.length) : genOf l = 0 := genOf_no fun m hm _ e => by
  have := dec_len19 hm
  rw [← e] at this
  omega
theorem genOf_zero {l : List UInt8} {c : UInt8} {r : List UInt8} (e : l = c :: r) (h : c.toNat = 48) : genOf l = 0 := genOf_no fun _ _ h0 e2 => dec_head h0 c r (e2.symm.trans e) h
theorem genOf_dig {l : List UInt8} {k : Nat} (hk : k < l.length) (h : ¬ isDig l[k]) : genOf l = 0 := genOf_no fun m _ _ e => h (dec_dig m _ (by rw [← e]; exact List.getElem_mem hk))
theorem genOf_big {l : List UInt8} {k : Nat} (h : 9223372036854775807 < decVal (l.take (k + 1))) : genOf l = 0 := genOf_no fun m hm _ e => by
  have h1 := decVal_le (l.take (k + 1)) (l.drop (k + 1))
  rw [List.take_append_drop, e, decVal_dec] at h1
  rw [e] at h
  omega

set_option maxHeartbeats 800000 in
theorem refOf22_any (t : Tr) (gen : Int) (w : World) (_hl : t.ns.length ≤ 9223372036854775807) (hA : At w 15 t.na (t.ns.map Nd.vals)) :
    Calls Tryz.prog 66 #[t.val, .int .i64 gen] w fun e w' => e = .returned (.int .i64 (placeOf t.ns gen)) ∧ Below w.heap.size w w' := by
  have hX := Blk.new w 26 t.vals
  have hB : Below w.heap.size w (w.alloc (.cells t.vals.toArray 26)) := (Below.refl _ _).alloc (Nat.le_refl _) _
  have hA1 := hA.below hB
  obtain ⟨w1, hw1⟩ : ∃ V, V = w.alloc (.cells t.vals.toArray 26) := ⟨_, rfl⟩
  rw [← hw1] at hX hB hA1
  have c5 : w1.cell? ⟨w.heap.size, 5, none⟩ = some (.slice t.na t.ns.length t.nc) := hX.cell 5
  have HW1 := Lib.hid hw1
  have HP := Lib.hid (show placeOf t.ns gen = findI (fun n : Nd => n.attr.gen == gen) t.ns from rfl)
  have HB := Lib.hid hB
  clear hw1 hX hA hB
  unfold Tr.val
  generalize t.ns = ns at *
  generalize t.na = A at *
  go_enter Tryz.func66, Tryz.ntmps66
  go_upto_region 1 with fail
  change Code.wp _ _ _ _ (w.alloc (.cells t.vals.toArray 26))
  rw [← HW1.out]
  go_wp2
  go_loopw [5] (fun i wr => ∃ k : Nat, k ≤ ns.length ∧ i = .int .i64 k ∧ (ns.take k).any (fun n : Nd => n.attr.gen == gen) = false ∧ wr = w1) (fun i _ => ns.length - (intOf i).toNat)
  case atStart => exact ⟨0, Nat.zero_le _, rfl, rfl, rfl⟩
  case round =>
    obtain ⟨k, hk, rfl, hn, rfl⟩ := hrel
    by_cases hlt : k < ns.length
    · obtain ⟨b, off, rfl, hb, -, cc⟩ := rowCell8 Nd.len (by decide) hA1 hlt
      have c7 := cc 7 _ rfl
      have hk0 : (0 : Int) ≤ (k : Int) := Int.natCast_nonneg _
      have hk1 : (k : Int) < (ns.length : Int) := by omega
      have hiw : IntKind.i64.wrap ((k : Int) + 1) = (k : Int) + 1 := IntWalk.i64_in _ (by omega)
      by_cases hg : ns[k].attr.gen = gen
      · have HF := Lib.hid (show findI (fun n : Nd => n.attr.gen == gen) ns = k from findI_hit hlt hn (by simpa using hg))
        rw [hg] at c7
        clear hn cc hA1
        go_wp2
        go_ret
        exact ⟨ret_int (by rw [HP.out, HF.out]), HB.out⟩
      · have HN := Lib.hid (any_next hlt hn (p := fun n : Nd => n.attr.gen == gen) (by simpa using hg))
        have hg2 : (ns[k].attr.gen == gen) = false := by simpa using hg
        clear hn cc hA1
        go_wp2
        go_roundw
        case rel => exact ⟨k + 1, by omega, by go_num, HN.out, by first | rfl | trivial⟩
        case measure => simp [intOf]; omega
    · obtain rfl : k = ns.length := by omega
      rw [List.take_length] at hn
      have HF := Lib.hid (findI_none hn)
      clear hn hA1
      go_wp2
      go_ret
      exact ⟨ret_int (by rw [HP.out, HF.out]), HB.out⟩

set_option maxRecDepth 20000 in
set_option maxHeartbeats 1600000 in
theorem refNumber22_any (l : List UInt8) (w : World) (hl : l.length ≤ 9223372036854775807) : Calls Tryz.prog 90 #[.string (bs l)] w fun e w' => e = .returned (.int .i64 (genOf l)) ∧ w = w' := by
  have hsz := bs_size l
  cases l with
  | nil =>
    have HG := Lib.hid (show genOf [] = 0 from genOf_no fun m _ _ e => dec_ne m e.symm)
    go_enter Tryz.func90, Tryz.ntmps90
    go_wp2
    go_ret
    exact ⟨ret_int (by rw [HG.out]), rfl⟩
  | cons c0 r0 =>
    have hne : (c0 :: r0) ≠ [] := by simp
    obtain ⟨l, hl0⟩ : ∃ l, l = c0 :: r0 := ⟨_, rfl⟩
    rw [← hl0] at hne hl hsz ⊢
    have hpos : 0 < l.length := by rw [hl0]; simp
    have hgt : l[0] = c0 := by simp [hl0]
    have HL0 := Lib.hid hl0
    clear hl0
    by_cases h19 : 19 < l.length
    · have HG := Lib.hid (genOf_long h19)
      have hg : (19 : Int) < (l.length : Int) := by omega
      clear h19
      go_enter Tryz.func90, Tryz.ntmps90
      go_wp2
      go_ret
      exact ⟨ret_int (by rw [HG.out]), rfl⟩
    have hg : ¬ (19 : Int) < (l.length : Int) := by omega
    have hq0 : ((bs l)[0]'(by rw [hsz]; exact hpos)).toNat = l[0].toNat := rfl
    by_cases h48 : l[0].toNat = 48
    · have HG := Lib.hid (genOf_zero HL0.out (by rw [← hgt]; exact h48))
      rw [h48] at hq0
      clear h48 h19
      go_enter Tryz.func90, Tryz.ntmps90
      go_wp2
      go_ret
      exact ⟨ret_int (by rw [HG.out]), rfl⟩
    have h48' : ((c0.toNat : Int) == 48) = false := by rw [← hgt, beq_eq_false_iff_ne]; omega
    have hem : l.isEmpty = false := by cases l with
      | nil => exact absurd rfl hne
      | cons a b => rfl
    have hl19 : l.length ≤ 19 := by omega
    have HH48 := Lib.hid (show c0.toNat ≠ 48 by rw [← hgt]; exact h48)
    clear h19 h48 hne
    go_enter Tryz.func90, Tryz.ntmps90
    go_wp2
    go_loop [3, 4] (fun nv iv => ∃ (k : Nat) (a : Int), k ≤ l.length ∧ iv = .int .i64 (k : Int) ∧ nv = .int .i64 a ∧ (0 ≤ a ∧ a ≤ 9223372036854775807) ∧ Hid (a = (decVal (l.take k) : Int)) ∧ ∀ j (hj : j < l.length), j < k → isDig l[j]) (fun _ iv => l.length - (intOf iv).toNat)
    case atStart => exact ⟨0, 0, Nat.zero_le _, rfl, rfl, by omega, Lib.hid rfl, fun _ _ h => absurd h (Nat.not_lt_zero _)⟩
    case round =>
      clear hq0 h48' hem hgt hg
      obtain ⟨k, a, hkl, rfl, rfl, ⟨ha0, ha1⟩, HA, hall⟩ := hrel
      by_cases hk : k < l.length
      · have hqv : ((((bs l)[k]'(by rw [hsz]; exact hk)).toNat : Nat) : Int) = (l[k].toNat : Int) := rfl
        have hk2 : (k : Int) < (l.length : Int) := by omega
        have e0 : IntKind.i64.wrap ((k : Int) + 1) = (k : Int) + 1 := IntWalk.i64_in _ (by omega)
        have hsnoc : decVal (l.take (k + 1)) = 10 * decVal (l.take k) + (l[k].toNat - 48) := by rw [take_snoc hk, decVal_snoc]
        have HND := Lib.hid (fun h => genOf_dig hk h)
        have HNB := Lib.hid (fun h => genOf_big (l := l) (k := k) h)
        have HALL := Lib.hid (fun (h : isDig l[k]) j (hj : j < l.length) (hj2 : j < k + 1) => (show isDig l[j] by
          rcases Nat.lt_or_ge j k with h2 | h2
          · exact hall j hj h2
          · obtain rfl : j = k := by omega
            exact h))
        clear hall
        obtain ⟨x, hx⟩ : ∃ x : Int, x = (l[k].toNat : Int) := ⟨_, rfl⟩
        have hx256 : 0 ≤ x ∧ x < 256 := by rw [hx]; have := UInt8.toNat_lt l[k]; omega
        have hdx : isDig l[k] ↔ 48 ≤ x ∧ x ≤ 57 := by unfold isDig; omega
        have e1 : IntKind.i64.wrap (x - 48) = x - 48 := IntWalk.i64_in _ (by omega)
        have HS := Lib.hid hsnoc
        have HX := Lib.hid hx
        have HDX := Lib.hid hdx
        rw [← hx] at hqv
        clear hsnoc hx hdx
        by_cases hd : 48 ≤ x ∧ x ≤ 57
        · have hd0 := Lib.hid hd
          obtain ⟨hd1, hd2⟩ := hd
          have g1 : ¬ x < 48 := by omega
          have g2 : ¬ 57 < x := by omega
          by_cases h1 : 922337203685477580 < a
          · have trv : True := trivial
            have HF := Lib.hid (HNB.out (by have h5 := HS.out; have h6 := HA.out; have h7 := HX.out; omega))
            go_wp2
            go_ret
            exact ⟨ret_int (by rw [HF.out]), rfl⟩
          · by_cases h2 : a = 922337203685477580
            · subst h2
              by_cases h3 : 7 < x - 48
              · have trv : True := trivial
                have HF := Lib.hid (HNB.out (by have h5 := HS.out; have h6 := HA.out; have h7 := HX.out; omega))
                go_wp2
                go_ret
                exact ⟨ret_int (by rw [HF.out]), rfl⟩
              · have trv : True := trivial
                have e3 : IntKind.i64.wrap (9223372036854775800 + (x - 48)) = 9223372036854775800 + (x - 48) := IntWalk.i64_in _ (by omega)
                have HA2 := Lib.hid (show 9223372036854775800 + (x - 48) = (decVal (l.take (k + 1)) : Int) by have h5 := HS.out; have h6 := HA.out; have h7 := HX.out; omega)
                have hb2 : 0 ≤ 9223372036854775800 + (x - 48) ∧ 9223372036854775800 + (x - 48) ≤ 9223372036854775807 := by omega
                go_wp2
                go_round
                case rel => exact ⟨k + 1, 9223372036854775800 + (x - 48), by omega, by go_num, rfl, hb2, HA2, HALL.out (HDX.out.2 hd0.out)⟩
                case measure => simp [intOf]; omega
            · have h2' : (a == 922337203685477580) = false := by simpa using h2
              have e2 : IntKind.i64.wrap (10 * a) = 10 * a := IntWalk.i64_in _ (by omega)
              have e3 : IntKind.i64.wrap (10 * a + (x - 48)) = 10 * a + (x - 48) := IntWalk.i64_in _ (by omega)
              have HA2 := Lib.hid (show 10 * a + (x - 48) = (decVal (l.take (k + 1)) : Int) by have h5 := HS.out; have h6 := HA.out; have h7 := HX.out; omega)
              have hb2 : 0 ≤ 10 * a + (x - 48) ∧ 10 * a + (x - 48) ≤ 9223372036854775807 := by omega
              go_wp2
              go_round
              case rel => exact ⟨k + 1, 10 * a + (x - 48), by omega, by go_num, rfl, hb2, HA2, HALL.out (HDX.out.2 hd0.out)⟩
              case measure => simp [intOf]; omega
        · have HF := Lib.hid (HND.out fun h => hd (HDX.out.1 h))
          by_cases h1 : x < 48
          · go_wp2
            go_ret
            exact ⟨ret_int (by rw [HF.out]), rfl⟩
          · have h2 : 57 < x := by omega
            go_wp2
            go_ret
            exact ⟨ret_int (by rw [HF.out]), rfl⟩
      · obtain rfl : k = l.length := by omega
        rw [List.take_length] at HA
        have HF := Lib.hid (show genOf l = a by
          have hc := (canon l.length l rfl (by intro e; rw [e] at hpos; simp at hpos) (fun c hc => by
            obtain ⟨j, hj, rfl⟩ := List.getElem_of_mem hc
            exact hall j hj hj) (fun c r e => .inr (by
              have h9 := HL0.out.symm.trans e
              injection h9 with h9 _
              rw [← h9]
              exact HH48.out))).1
          unfold genOf
          rw [if_pos ⟨hc, by have := HA.out; omega⟩]
          exact HA.out.symm)
        clear hall
        go_wp2
        go_ret
        exact ⟨ret_int (by rw [HF.out]), rfl⟩
end Go.Proofs.YtgifmpobokaejaaGreatDoor


/-
  Layer 22, walks: the place of a handle's node, by both. Conditions: machine texts; the library's tables and errors are laid.
-/
namespace Go.Proofs.YtgifmpobokaejaaGreatDoor
open Go.RowKit
attribute [local go_sem ↓] Go.wp_at_zero Go.wp_at_succ
attribute [local go_sem] rowAt_ptr rowOf_drew rowOf_drewN rowOf_alloc_past rowOf_new

theorem ldTree22 {ρ : Operand → Value} {w : World} {dst : Option Tmp} {ty : TypeId} {pos : String} {after : Array Edge} {g : Option (Nat × Bool)} {x : Operand} (h : (rowAt w 6 (ρ x)).isSome = true) :
    (execOp ρ ⟨dst, .load 26 x, ty, pos, after, g⟩).run Tryz.prog w = .ok (.value (.agg ((rowAt w 6 (ρ x)).getD #[]))) w := ex_load 26 6 Tryz.underlying26 rfl (by kernel_rfl) h
attribute [local go_sem ↓] ldTree22

/-- the place of a handle's node, and why there is none -/
def atP (ns : List Nd) (s : List UInt8) : Int × Int := if genOf s = 0 then (0, 10001) else if placeOf ns (genOf s) < 0 then (0, 70) else (placeOf ns (genOf s), 0)
set_option maxRecDepth 20000 in
set_option maxHeartbeats 800000 in
theorem refAt22_any (t : Tr) (s : List UInt8) (w : World) (hl : t.ns.length ≤ 9223372036854775807) (hs : s.length ≤ 9223372036854775807) (hA : At w 15 t.na (t.ns.map Nd.vals)) :
    Calls Tryz.prog 36 #[t.val, .string (bs s)] w fun e w' => e = .returned (.tuple #[.int .i64 (atP t.ns s).1, .int .i64 (atP t.ns s).2]) ∧ Below w.heap.size w w' := by
  have hX := Blk.new w 26 t.vals
  have hB : Below w.heap.size w (w.alloc (.cells t.vals.toArray 26)) := (Below.refl _ _).alloc (Nat.le_refl _) _
  have hA1 := hA.below hB
  obtain ⟨w1, hw1⟩ : ∃ V, V = w.alloc (.cells t.vals.toArray 26) := ⟨_, rfl⟩
  rw [← hw1] at hX hB hA1
  have r6 := hX.row 0 6 (by simp [Tr.len])
  rw [show (t.vals.drop 0).take 6 = t.vals from rfl] at r6
  have HW1 := Lib.hid hw1
  have HP := Lib.hid (show atP t.ns s = if genOf s = 0 then (0, 10001) else if placeOf t.ns (genOf s) < 0 then (0, 70) else (placeOf t.ns (genOf s), 0) from rfl)
  have HB := Lib.hid hB
  have KN := Lib.hid (fun W => refNumber22_any s W hs)
  have KO := Lib.hid (refOf22_any t (genOf s) w1 hl hA1)
  clear hw1 hX hA hB hA1
  unfold Tr.val at KO ⊢
  generalize atP t.ns s = res at *
  generalize placeOf t.ns (genOf s) = pl at *
  generalize genOf s = g at *
  go_enter Tryz.func36, Tryz.ntmps36
  go_wp2_with fail
  change Calls _ _ _ (w.alloc (.cells t.vals.toArray 26)) _
  rw [← HW1.out]
  refine (KN.out _).mono ?_
  rintro e w2 ⟨rfl, rfl⟩
  by_cases hg : g = 0
  · have HF := Lib.hid (HP.out.trans (if_pos hg))
    subst hg
    go_wp2
    go_ret2
    exact ⟨by rw [HF.out]; rfl, HB.out⟩
  · have HQ := Lib.hid (HP.out.trans (if_neg hg))
    have hg2 : (g == 0) = false := by simpa using hg
    go_wp2_with fail
    refine KO.out.mono ?_
    rintro e w3 ⟨rfl, hb⟩
    have HB3 := Lib.hid (below_then HB.out hb)
    clear hb
    by_cases hp : pl < 0
    · have HF := Lib.hid (HQ.out.trans (if_pos hp))
      go_wp2
      go_ret2
      exact ⟨by rw [HF.out]; rfl, HB3.out⟩
    · have HF := Lib.hid (HQ.out.trans (if_neg hp))
      go_wp2
      go_ret2
      exact ⟨by rw [HF.out]; rfl, HB3.out⟩
theorem atoiOk22_any (s : List UInt8) (v : Int) (w : World) (hs : s.length ≤ 140737488355328) (h : Lib.atoiAll s = .ok v) : Calls Tryz.prog 81 #[.string (bs s)] w fun e w' => e = .returned (.tuple #[.int .i64 v, .nilIface]) ∧ Below w.heap.size w w' := by
  refine (Tryz.strconv_Atoi_ok (bs s) (by rw [bs_size]; omega) v (by simpa [bs] using h) w).mono ?_
  rintro e w' ⟨rfl, hw⟩
  refine ⟨rfl, ?_⟩
  rcases hw with rfl | ⟨t, rfl⟩
  · exact Below.refl _ _
  · exact Lib.bytesWorld_below _ _ _
theorem atoiNo22_any (s : List UInt8) (w : World) (hs : s.length ≤ 140737488355328) (h : ∀ v, Lib.atoiAll s ≠ .ok v) (hL : LookLaid w) : Calls Tryz.prog 81 #[.string (bs s)] w fun e w' => (∃ v T N, e = .returned (.tuple #[.int .i64 v, .iface T (.pointer (some ⟨N, 0, none⟩))])) ∧ Below w.heap.size w w' := by
  obtain ⟨_, ⟨tp, p, h1⟩, ⟨tq, q, h2⟩⟩ := hL.here
  rcases ha : Lib.atoiAll s with v | - | -
  · exact absurd ha (h v)
  · refine (Tryz.strconv_Atoi_syntax_var (bs s) (by rw [bs_size]; omega) (by rw [show (bs s).data.toList = s by simp, ha]; rfl) tp p w h1).mono ?_
    rintro e w' ⟨N, rfl, _, _, hb⟩
    exact ⟨⟨_, _, N, rfl⟩, hb⟩
  · refine (Tryz.strconv_Atoi_range_var (bs s) (by rw [bs_size]; omega) (by simpa [bs] using ha) tq q w h2).mono ?_
    rintro e w' ⟨N, rfl, _, _, hb⟩
    exact ⟨⟨_, _, N, rfl⟩, hb⟩

set_option maxRecDepth 20000 in
set_option maxHeartbeats 1600000 in
theorem lookAt_any (t : Tr) (s : List UInt8) (w : World) (hl : t.ns.length ≤ 9223372036854775807) (hs : s.length ≤ 140737488355328) (hA : At w 15 t.na (t.ns.map Nd.vals)) (hL : LookLaid w) :
    Calls Tryz.prog 32 #[t.val, .string (bs s)] w fun e w' => e = .returned (.tuple #[.int .i64 (atP t.ns s).1, .int .i64 (atP t.ns s).2]) ∧ Below w.heap.size w w' := by
  have hX := Blk.new w 26 t.vals
  have hB : Below w.heap.size w (w.alloc (.cells t.vals.toArray 26)) := (Below.refl _ _).alloc (Nat.le_refl _) _
  have hA1 := hA.below hB
  have hL1 := hL.below hB
  obtain ⟨w1, hw1⟩ : ∃ V, V = w.alloc (.cells t.vals.toArray 26) := ⟨_, rfl⟩
  rw [← hw1] at hX hB hA1 hL1
  have HW1 := Lib.hid hw1
  have HP := Lib.hid (show atP t.ns s = if genOf s = 0 then (0, 10001) else if placeOf t.ns (genOf s) < 0 then (0, 70) else (placeOf t.ns (genOf s), 0) from rfl)
  have HX := Lib.hid hX
  have HB := Lib.hid hB
  have KO := fun W hAW => lookOf_any t (genOf s) W hl hAW
  unfold Tr.val at KO ⊢
  by_cases hok : ∃ v, Lib.atoiAll s = .ok v
  · obtain ⟨v, hv⟩ := hok
    have hg := genOf_atoi hv
    have hb := Lib.atoiAll_bounds hv
    have K1 := Lib.hid (fun W => atoiOk22_any s v W hs hv)
    generalize atP t.ns s = res at *
    generalize genOf s = g at *
    have HG := Lib.hid hg
    clear hw1 hX hA hB hv hg
    go_enter Tryz.func32, Tryz.ntmps32
    go_wp2_with fail
    change Calls _ _ _ (w.alloc (.cells t.vals.toArray 26)) _
    rw [← HW1.out]
    refine (K1.out _).mono ?_
    rintro e w2 ⟨rfl, hb2⟩
    have hX2 := HX.out.stays hb2
    have r6 := hX2.row 0 6 (by simp [Tr.len])
    rw [show (t.vals.drop 0).take 6 = t.vals from rfl] at r6
    have hA2 := hA1.below hb2
    have hL2 := hL1.below hb2
    have HB2 := Lib.hid (below_then HB.out hb2)
    have hlt := hX2.lt
    clear hb2 hA1 hL1
    by_cases h1 : v < 1
    · have HF := Lib.hid (HP.out.trans (if_pos (show g = 0 by rw [HG.out, if_neg (fun h => by omega)])))
      go_wp2
      go_ret2
      exact ⟨by rw [HF.out]; rfl, HB2.out⟩
    have HT := Lib.hid (show genText v = Lib.decDigits v.toNat from if_neg h1)
    have KT := Lib.hid (lookText_any v w2 (by omega) hL2)
    rw [HT.out] at KT
    go_wp2_with fail
    refine KT.out.mono ?_
    rintro e w3 ⟨rfl, hb3⟩
    have hX3 := hX2.stays hb3
    have r6 := hX3.row 0 6 (by simp [Tr.len])
    rw [show (t.vals.drop 0).take 6 = t.vals from rfl] at r6
    have hA3 := hA2.below hb3
    have HB3 := Lib.hid (below_then HB2.out hb3)
    clear hb3 hX2 hA2 hL2 hlt
    by_cases h2 : Lib.decDigits v.toNat = s
    · have hgv : g = v := by rw [HG.out, if_pos ⟨by omega, h2⟩]
      have hne : ¬ g = 0 := by omega
      have HQ := Lib.hid (HP.out.trans (if_neg hne))
      have h2' : (Lib.decDigits v.toNat == s) = true := by simpa using h2
      have KO3 := Lib.hid (KO _ hA3)
      rw [hgv] at KO3 HQ
      generalize placeOf t.ns v = pl at *
      clear hgv hne h2
      go_wp2_with fail
      refine KO3.out.mono ?_
      rintro e w4 ⟨rfl, hb4⟩
      have HB4 := Lib.hid (below_then HB3.out hb4)
      clear hb4
      by_cases hp : pl < 0
      · have HF := Lib.hid (HQ.out.trans (if_pos hp))
        go_wp2
        go_ret2
        exact ⟨by rw [HF.out]; rfl, HB4.out⟩
      · have HF := Lib.hid (HQ.out.trans (if_neg hp))
        go_wp2
        go_ret2
        exact ⟨by rw [HF.out]; rfl, HB4.out⟩
    · have HF := Lib.hid (HP.out.trans (if_pos (show g = 0 by rw [HG.out, if_neg (fun h => h2 h.2)])))
      have h2' : (Lib.decDigits v.toNat == s) = false := by simpa using h2
      go_wp2
      go_ret2
      exact ⟨by rw [HF.out]; rfl, HB3.out⟩
  · have hbad : ∀ v, Lib.atoiAll s ≠ .ok v := fun v h => hok ⟨v, h⟩
    have hg := genOf_bad hbad
    have HF := Lib.hid (HP.out.trans (if_pos hg))
    have K1 := Lib.hid (atoiNo22_any s w1 hs hbad hL1)
    generalize atP t.ns s = res at *
    clear hw1 hX hA hB hg hbad hok
    go_enter Tryz.func32, Tryz.ntmps32
    go_wp2_with fail
    change Calls _ _ _ (w.alloc (.cells t.vals.toArray 26)) _
    rw [← HW1.out]
    refine K1.out.mono ?_
    rintro e w2 ⟨⟨v, T, N, rfl⟩, hb2⟩
    have HB2 := Lib.hid (below_then HB.out hb2)
    clear hb2
    go_wp2
    go_ret2
    exact ⟨by rw [HF.out]; rfl, HB2.out⟩
end Go.Proofs.YtgifmpobokaejaaGreatDoor


/-
  Layer 22: what is laid: the table of tens' powers and the library's two errors. No condition.
-/
namespace Go.Proofs.YtgifmpobokaejaaGreatDoor
open Go.ChangeShapes Go.WideShapes Go.ChangeAt Go.RowKit Go.Deep

theorem tabB_of22 {W : World} {rest : List (String × DataW Unit)} (h : laidMet Tryz.prog (("internal/strconv.uint64pow10", Rows.laid_internal_strconv_uint64pow10) :: rest) W) : Lib.TabIs Tryz.prog W "internal/strconv.uint64pow10" .u64 Lib.pow10Tab := by
  have e : (Rows.laid_internal_strconv_uint64pow10 : DataW Unit) = Lib.tabData .u64 Lib.pow10Tab := by
    have e2 : Lib.pow10Tab = [1, 10, 100, 1000, 10000, 100000, 1000000, 10000000, 100000000, 1000000000, 10000000000, 100000000000, 1000000000000, 10000000000000, 100000000000000, 1000000000000000, 10000000000000000, 100000000000000000, 1000000000000000000, 10000000000000000000] := by decide +kernel
    rw [e2]; rfl
  rw [e] at h
  exact Lib.tabIs_of_head (g := 3) (by kernel_rfl) (by kernel_rfl) (Tryz.underlying185) Tryz.underlying162 (by kernel_rfl) (by kernel_rfl) h
theorem rowErr22 (u : TypeId) (h : Tryz.prog.typeName? 3 u = some "*errors.errorString") : u = 174 :=
  typeName_ptr_named (nm := "errors.errorString") (by rw [show "*" ++ "errors.errorString" = "*errors.errorString" by decide]; kernel_rfl) (by kernel_rfl) (by decide) u (by rw [show "*" ++ "errors.errorString" = "*errors.errorString" by decide]; exact h)
theorem range_of22 {W : World} {rest : List (String × DataW Unit)} (h : laidMet Tryz.prog (("strconv.ErrRange", Rows.laid_strconv_ErrRange) :: rest) W) : ∃ tp p, W.var? Tryz.prog "strconv.ErrRange" = some #[.iface tp p] := by
  obtain ⟨a, s, hv, -⟩ := laid_sentinel (g := 1) (ti := 111) (te := 176) (ts := 9) h (by kernel_rfl) (by kernel_rfl) Tryz.underlying111 rowErr22 Tryz.underlying174 Tryz.underlying176 rfl rfl Tryz.underlying9 (by kernel_rfl) (by kernel_rfl)
  exact ⟨_, _, hv⟩
theorem syntax_of22 {W : World} {rest : List (String × DataW Unit)} (h : laidMet Tryz.prog (("strconv.ErrSyntax", Rows.laid_strconv_ErrSyntax) :: rest) W) : ∃ tp p, W.var? Tryz.prog "strconv.ErrSyntax" = some #[.iface tp p] := by
  obtain ⟨a, s, hv, -⟩ := laid_sentinel (g := 0) (ti := 111) (te := 176) (ts := 9) h (by kernel_rfl) (by kernel_rfl) Tryz.underlying111 rowErr22 Tryz.underlying174 Tryz.underlying176 rfl rfl Tryz.underlying9 (by kernel_rfl) (by kernel_rfl)
  exact ⟨_, _, hv⟩
/-- what is laid stays -/
theorem tabIs_below22 {W V : World} (h : Lib.TabIs Tryz.prog W "internal/strconv.uint64pow10" .u64 Lib.pow10Tab) (hb : Below W.heap.size W V) : Lib.TabIs Tryz.prog V "internal/strconv.uint64pow10" .u64 Lib.pow10Tab := Lib.tabBelow_of_tabIs h V hb
theorem var_below22 {W V : World} {n : String} {cs : Array Value} (h : W.var? Tryz.prog n = some cs) (hb : Below W.heap.size W V) : V.var? Tryz.prog n = some cs := by
  unfold World.var? at h ⊢
  cases hg : Tryz.prog.globalNamed n with
  | none => simp [hg] at h
  | some g =>
    simp only [hg, Option.bind_some] at h ⊢
    have hlt : g < W.heap.size := by
      rcases Nat.lt_or_ge g W.heap.size with h' | h'
      · exact h'
      · simp [Array.getElem?_eq_none h'] at h
    rw [hb.block g hlt]
    exact h
/-- a row that lays the two tables of bits, the table of tens' powers and the two errors -/
theorem lookLaid_of {W : World} {a b : String × DataW Unit} (h : laidMetH Tryz.prog [a, b, ("internal/strconv.uint64pow10", Rows.laid_internal_strconv_uint64pow10), ("strconv.ErrRange", Rows.laid_strconv_ErrRange), ("strconv.ErrSyntax", Rows.laid_strconv_ErrSyntax)] W)
    (hp : ([a, b, ("internal/strconv.uint64pow10", (Rows.laid_internal_strconv_uint64pow10 : DataW Unit)), ("strconv.ErrRange", Rows.laid_strconv_ErrRange), ("strconv.ErrSyntax", Rows.laid_strconv_ErrSyntax)].all fun x => x.2.handleName?.isNone) = true) : LookLaid W := by
  rw [MakeChecks.laidMetH_plain _ _ _ hp] at h
  have ht := tabB_of22 (laidMet.tail (laidMet.tail h))
  obtain ⟨t1, p1, hr⟩ := range_of22 (laidMet.tail (laidMet.tail (laidMet.tail h)))
  obtain ⟨t2, p2, hs⟩ := syntax_of22 (laidMet.tail (laidMet.tail (laidMet.tail (laidMet.tail h))))
  exact fun V hb => ⟨tabIs_below22 ht hb, ⟨t2, p2, var_below22 hs hb⟩, ⟨t1, p1, var_below22 hr hb⟩⟩
end Go.Proofs.YtgifmpobokaejaaGreatDoor
