/-
  Layer 1, walks: the document's reading of texts of so many bytes, and of what is left. Conditions: none but machine numbers.
-/
import Derived.Test.YtapcjojlkeaadaaGreatDoorP11
import Derived.Test.YtapcjojlkeaadaaGreatDoorP17
import Derived.Test.YtapcjojlkeaadaaGreatDoorP12
import Derived.Test.YtapcjojlkeaadaaGreatDoorP19
import Derived.Test.YtapcjojlkeaadaaGreatDoorP21
import Derived.Test.YtapcjojlkeaadaaGreatDoorP07
import Derived.Test.YtapcjojlkeaadaaGreatDoorP09
namespace Go.Proofs.YtapcjojlkeaadaaGreatDoor
open Go.RowKit
attribute [local go_sem ↓] Go.wp_at_zero Go.wp_at_succ
attribute [local go_sem] rowAt_ptr rowOf_drew rowOf_drewN rowOf_alloc_past rowOf_new
attribute [local go_sem] bs_get

theorem bs_cut (s : List UInt8) (a n : Nat) : (bs s).extract a (a + n) = bs ((s.drop a).take n) := by
  apply ByteArray.ext
  simp [List.extract]
theorem padn_step {m : Nat} (h : m % 4 ≠ 0) : padn m = padn (m + 1) + 1 := by unfold padn; omega
theorem padn_zero {m : Nat} (h : m % 4 = 0) : padn m = 0 := by unfold padn; omega
theorem rFixed_short {n : Nat} {s : List UInt8} (h : s.length < n + padn n) : rFixed n ⟨s, 0⟩ = ([], Rs.fail 10) := by
  have hn : ¬ ((n : Int) < 0) := by omega
  simp only [rFixed, ne_eq, not_true_eq_false, if_false, hn, rPadded, Int.toNat_natCast]
  by_cases h1 : s.length < n
  · rw [if_pos h1]
  · rw [if_neg h1, if_pos (by rw [List.length_drop]; omega)]
theorem zeros_next {l : List UInt8} {j : Nat} (hj : j < l.length) (h : (l.take j).all (· == 0) = true) (h0 : l[j] = 0) : (l.take (j + 1)).all (· == 0) = true := by
  rw [List.take_succ_eq_append_getElem hj, List.all_append, h]; simp [h0]
theorem zeros_not {l : List UInt8} {j p : Nat} (hj : j < l.length) (hp : j < p) (h0 : l[j] ≠ 0) : ¬ (l.take p).all (· == 0) = true := by
  intro h
  rw [List.all_eq_true] at h
  have : (l.take p)[j]? = some l[j] := by rw [List.getElem?_take, if_pos hp, List.getElem?_eq_getElem hj]
  exact h0 (by simpa using h _ (List.mem_of_getElem? this))
theorem rFixed_pads {n : Nat} {s : List UInt8} (h : n + padn n ≤ s.length) : rFixed n ⟨s, 0⟩ = if ((s.drop n).take (padn n)).all (· == 0) = true then (s.take n, ⟨s.drop (n + padn n), 0⟩) else ([], Rs.fail 11) := by
  have hn : ¬ ((n : Int) < 0) := by omega
  simp only [rFixed, ne_eq, not_true_eq_false, if_false, hn, rPadded, Int.toNat_natCast]
  rw [if_neg (by omega), if_neg (by rw [List.length_drop]; omega), List.drop_drop]

set_option maxRecDepth 20000 in
set_option maxHeartbeats 3200000 in
theorem refFixed_nat (g n : Nat) (s : List UInt8) (w : World) (hR : RdF w g ⟨s, 0⟩) (hn : (n : Int) ≤ 9223372036854775807) :
    Calls Tryz.prog 71 #[.pointer (some ⟨g, 0, none⟩), .int .i64 n] w (GaveF g (rFixed n ⟨s, 0⟩).2 (.string (bs (rFixed n ⟨s, 0⟩).1)) w) := by
  obtain ⟨S, a, hB, ha, hS, h0, -⟩ := hR
  have h0 := h0 rfl
  simp only at h0
  subst h0
  have hc := hB.cell
  have hf := hB.frozen
  have hsz := bs_size S
  have hw1 : IntKind.i64.wrap ((S.length : Int) - (a : Int)) = (S.length : Int) - a := IntWalk.i64_in _ (by omega)
  have HB := Lib.hid hB
  have hp := padn_lt n
  clear hB
  go_enter Tryz.func71, Tryz.ntmps71
  go_wp2
  go_loop [5] (fun v => ∃ m : Nat, v = .int .i64 m ∧ n ≤ m ∧ m + padn m = n + padn n ∧ (m = n ∨ m ≤ S.length + 1)) (fun v => padn (intOf v).toNat)
  case atStart => exact ⟨n, rfl, Nat.le_refl _, rfl, .inl rfl⟩
  case round =>
    obtain ⟨m, rfl, hnm, hmp, hmS⟩ := hrel
    by_cases hc4 : m % 4 ≠ 0 ∧ m ≤ S.length
    · obtain ⟨h4, hmL⟩ := hc4
      have ht1 : ((m : Int) % 4 != 0) = true := by rw [bne_iff_ne]; omega
      have hst := padn_step h4
      clear h4
      go_wp2
      go_round
      case rel => exact ⟨m + 1, by go_num, by omega, by omega, .inr (by omega)⟩
      case measure => simp [intOf]; omega
    · have hall : m = n + padn n ∨ S.length < m := by
        by_cases h4 : m % 4 = 0
        · left; have := padn_zero h4; omega
        · right; omega
      by_cases hsh : S.length - a < n + padn n
      · have HN := Lib.hid (rFixed_short (n := n) (s := S.drop a) (by rw [List.length_drop]; omega))
        have hfin : ∀ W : World, RdF ((W.drewN 0).setCell ⟨g, 2, none⟩ (.int .i64 10)) g (Rs.fail 10) → True := fun _ _ => trivial
        clear hfin
        have hcond : (((m : Int) % 4 != 0) = false) ∨ (((m : Int) % 4 != 0) = true ∧ ¬ ((m : Int) ≤ (S.length : Int))) := by
          by_cases h4 : m % 4 = 0
          · left; simp; omega
          · right; exact ⟨by rw [bne_iff_ne]; omega, by omega⟩
        have hm1 : (S.length : Int) - a < m := by rcases hall with h | h <;> omega
        by_cases hn1 : (S.length : Int) - a < n
        · rcases hcond with h4 | ⟨h4, h5⟩
          all_goals
            go_wp2
            go_quiet (fail)
            go_wp2
            go_ret
            rw [HN.out]
            exact ⟨rfl, ⟨S, a, (HB.out.drewN _).set_ 2 (.int .i64 10), ha, by assumption, (fun h => by cases h), fun _ => rfl⟩, ((Touch.refl (fun k => k = g) w).drewN _).setCell_ (g := g) (o := 2) (.inl rfl) (.int .i64 10)⟩
        · have hd1 : decide ((S.length : Int) - a < n) = false := decide_eq_false hn1
          rcases hcond with h4 | ⟨h4, h5⟩
          all_goals
            go_wp2
            go_quiet (fail)
            go_wp2
            go_ret
            rw [HN.out]
            exact ⟨rfl, ⟨S, a, (HB.out.drewN _).set_ 2 (.int .i64 10), ha, by assumption, (fun h => by cases h), fun _ => rfl⟩, ((Touch.refl (fun k => k = g) w).drewN _).setCell_ (g := g) (o := 2) (.inl rfl) (.int .i64 10)⟩
      · obtain rfl : m = n + padn n := by omega
        have HN := Lib.hid (rFixed_pads (n := n) (s := S.drop a) (by rw [List.length_drop]; omega))
        have h4 : ((((n : Int) + (padn n : Int)) % 4) != 0) = false := by
          have : (n + padn n) % 4 = 0 := by unfold padn; omega
          simp; omega
        have hn1 : decide ((S.length : Int) - a < n) = false := decide_eq_false (by omega)
        have hn2 : decide ((S.length : Int) - a < (n : Int) + (padn n : Int)) = false := decide_eq_false (by omega)
        have hpl : a + n + padn n ≤ S.length := by omega
        have HZ := Lib.hid (show rFixed n ⟨S.drop a, 0⟩ = if ((S.drop (a + n)).take (padn n)).all (· == 0) = true then ((S.drop a).take n, ⟨S.drop (a + n + padn n), 0⟩) else ([], Rs.fail 11) by
          rw [HN.out, List.drop_drop, List.drop_drop, Nat.add_assoc a])
        clear HN hmp hmS hall hc4 hsh hnm
        go_wp2
        go_quiet (fail)
        go_wp2
        have HB2 := Lib.hid (HB.out.drewN nq)
        have hT2 : Touch (fun k => k = g) w (w.drewN nq) := (Touch.refl (fun k => k = g) w).drewN _
        generalize w.drewN nq = w2 at *
        clear hc hf HB hw1 hn1 hn2 h4
        go_loopw [6] (fun v wr => ∃ j : Nat, v = .int .i64 ((n + j : Nat) : Int) ∧ j ≤ padn n ∧ ((S.drop (a + n)).take j).all (· == 0) = true ∧ Blk wr g 59 [.string (bs S), .int .i64 a, .int .i64 0] ∧ Touch (fun k => k = g) w wr) (fun v _ => n + padn n - (intOf v).toNat)
        case atStart => exact ⟨0, rfl, Nat.zero_le _, rfl, HB2.out, hT2⟩
        case round =>
          obtain ⟨j, rfl, hj, hz, hB3, hT3⟩ := hrel
          have hc := hB3.cell
          have hf := hB3.frozen
          clear hT2
          by_cases hlt : j < padn n
          · have hjl : j < (S.drop (a + n)).length := by rw [List.length_drop]; omega
            have hlS : a + (n + j) < S.length := by omega
            have hget : (S.drop (a + n))[j] = S[a + (n + j)] := by rw [List.getElem_drop]; congr 1; omega
            have hw2 : IntKind.i64.wrap ((a : Int) + ((n + j : Nat) : Int)) = ((a + (n + j) : Nat) : Int) := by rw [IntWalk.i64_in _ (by omega)]; omega
            have hw3 : IntKind.i64.wrap ((a : Int) + ((n : Int) + (j : Int))) = (a : Int) + ((n : Int) + (j : Int)) := by rw [IntWalk.i64_in _ (by omega)]
            have hi0 : (0 : Int) ≤ (a : Int) + ((n : Int) + (j : Int)) := by omega
            have hi1 : (a : Int) + ((n : Int) + (j : Int)) < (S.length : Int) := by omega
            have hi2 : ((a : Int) + ((n : Int) + (j : Int))).toNat = a + (n + j) := by omega
            have hbb := S[a + (n + j)].toNat_lt
            by_cases h0 : S[a + (n + j)] = 0
            · have ht : ((S[a + (n + j)].toNat : Int) != 0) = false := by rw [h0]; rfl
              have HS := Lib.hid (zeros_next hjl hz (by rw [hget]; exact h0))
              have HB3 := Lib.hid hB3
              have HT3 := Lib.hid hT3
              clear h0 hget hz hB3 hT3
              go_wp2
              go_quiet (fail)
              go_wp2
              go_roundw
              case rel => exact ⟨j + 1, by go_num, by omega, HS.out, HB3.out.drewN _, HT3.out.drewN _⟩
              case measure => simp [intOf]; omega
            · have ht : ((S[a + (n + j)].toNat : Int) != 0) = true := by
                rw [bne_iff_ne]; intro e; apply h0; apply UInt8.toNat_inj.1; simpa using e
              have HS := Lib.hid (HZ.out.trans (if_neg (zeros_not hjl hlt (by rw [hget]; exact h0))))
              have HB3 := Lib.hid hB3
              have HT3 := Lib.hid hT3
              clear h0 hget hz hB3 hT3
              go_wp2
              go_quiet (fail)
              go_wp2
              go_ret
              rw [HS.out]
              exact ⟨rfl, ⟨S, a, (HB3.out.drewN _).set_ 2 (.int .i64 11), ha, by assumption, (fun h => by cases h), fun _ => rfl⟩, (HT3.out.drewN _).setCell_ (g := g) (o := 2) (.inl rfl) (.int .i64 11)⟩
          · obtain rfl : j = padn n := by omega
            have HS := Lib.hid (HZ.out.trans (if_pos hz))
            have HB3 := Lib.hid hB3
            have HT3 := Lib.hid hT3
            have hw2 : IntKind.i64.wrap ((a : Int) + (n : Int)) = ((a + n : Nat) : Int) := by rw [IntWalk.i64_in _ (by omega)]; omega
            have hi0 : (0 : Int) ≤ ((a + n : Nat) : Int) := by omega
            have hi1 : ((a + n : Nat) : Int) ≤ (S.length : Int) := by omega
            have hi2 : (a : Int) ≤ ((a + n : Nat) : Int) := by omega
            have hi3 : (0 : Int) ≤ (a : Int) := by omega
            clear hz hB3 hT3 HZ
            have hsum : (a : Int) + ((n : Int) + (padn n : Int)) = ((a + n + padn n : Nat) : Int) := by omega
            have HSUM := Lib.hid hsum
            have hw4 : IntKind.i64.wrap ((a : Int) + ((n : Int) + (padn n : Int))) = (a : Int) + ((n : Int) + (padn n : Int)) := by rw [IntWalk.i64_in _ (by omega)]
            clear hsum
            go_wp2
            go_quiet (fail)
            go_wp2
            go_ret
            rw [HS.out]
            refine ⟨?_, ⟨S, a + n + padn n, ?_, hpl, by assumption, fun _ => rfl, fun h => absurd rfl h⟩, ?_⟩
            · show Ending.returned (.string ((bs S).extract a (a + n))) = _
              rw [bs_cut]
            · have h := (HB3.out.drewN nq).set_ 1 (.int .i64 ((a : Int) + ((n : Int) + (padn n : Int))))
              simp only [List.set_cons_zero, List.set_cons_succ] at h
              rw [HSUM.out] at h ⊢
              exact h
            · exact (HT3.out.drewN nq).setCell_ (g := g) (o := 1) (.inl rfl) _

theorem RdF.setE {w : World} {g : Nat} {r : Rs} (h : RdF w g r) (n : Int) (hn : n ≠ 0) : RdF (w.setCell ⟨g, 2, none⟩ (.int .i64 n)) g (Rs.fail n) := (RdF.fail (ReadsF.refl h) n hn rfl).1
set_option maxHeartbeats 800000 in
theorem refFixed_any (g : Nat) (n : Int) (r : Rs) (w : World) (hR : RdF w g r) (hn : n ≤ 9223372036854775807) :
    Calls Tryz.prog 71 #[.pointer (some ⟨g, 0, none⟩), .int .i64 n] w (GaveF g (rFixed n r).2 (.string (bs (rFixed n r).1)) w) := by
  have hc := ReadsF.err hR
  by_cases he : r.e = 0
  · by_cases hn0 : n < 0
    · have HF := Lib.hid (show rFixed n r = ([], Rs.fail 2) by simp [rFixed, he, hn0])
      have HQ := Lib.hid (RdF.fail (ReadsF.refl hR) 2 (by decide) (r' := Rs.fail 2) rfl)
      have hf : w.frozen? ⟨g, 2, none⟩ = false := by obtain ⟨_, _, h, _⟩ := hR; exact h.frozen 2
      rw [he] at hc
      clear he hR
      go_enter Tryz.func71, Tryz.ntmps71
      go_wp2
      go_ret
      rw [HF.out]
      exact ⟨rfl, HQ.out⟩
    · obtain ⟨m, rfl⟩ := Int.eq_ofNat_of_zero_le (show 0 ≤ n by omega)
      obtain ⟨s, e⟩ := r
      simp only at he
      subst he
      exact refFixed_nat g m s w hR hn
  · have he2 : (r.e != 0) = true := by simpa using he
    have HF := Lib.hid (show rFixed n r = ([], r) by simp [rFixed, he])
    have HR := Lib.hid hR
    clear he hR
    go_enter Tryz.func71, Tryz.ntmps71
    go_wp2
    go_ret
    rw [HF.out]
    exact ⟨rfl, ReadsF.refl HR.out⟩

set_option maxHeartbeats 800000 in
theorem refTextR_any (g : Nat) (most : Int) (r : Rs) (w : World) (hR : RdF w g r) (_hl : r.s.length ≤ 9223372036854775807) :
    Calls Tryz.prog 45 #[.pointer (some ⟨g, 0, none⟩), .int .i64 most] w (GaveF g (rOpaque most r).2 (.string (bs (rOpaque most r).1)) w) := by
  have hu := refU4_any g r w hR
  have hlt : (rU32 r).1 < 4294967296 := by
    unfold rU32 rNum
    split
    · simp
    · split
      · simp
      · have := beVal_lt (r.s.take 4)
        simp only
        have h2 : (r.s.take 4).length ≤ 4 := List.length_take_le _ _
        have h3 := Nat.pow_le_pow_right (n := 256) (by omega) h2
        omega
  have HO := Lib.hid (show rOpaque most r = if (rU32 r).2.e ≠ 0 then ([], (rU32 r).2) else if most < ((rU32 r).1 : Int) then ([], Rs.fail 4) else rPadded (rU32 r).1 (rU32 r).2 from rfl)
  generalize rU32 r = x at *
  obtain ⟨m, r2⟩ := x
  simp only at HO hu hlt
  have HU := Lib.hid hu
  clear hu hR
  go_enter Tryz.func45, Tryz.ntmps45
  go_wp2_with fail
  refine HU.out.mono ?_
  rintro e w1 ⟨rfl, hQ1⟩
  have hc := ReadsF.err hQ1.1
  have HQ1 := Lib.hid hQ1
  have hf : w1.frozen? ⟨g, 2, none⟩ = false := by obtain ⟨_, _, h, _⟩ := hQ1.1; exact h.frozen 2
  clear hQ1 HU
  by_cases he : r2.e = 0
  · rw [he] at hc
    by_cases hm : most < (m : Int)
    · have HF := Lib.hid (show rOpaque most r = ([], Rs.fail 4) by rw [HO.out, if_neg (by simpa using he), if_pos hm])
      have HQ := Lib.hid (RdF.fail HQ1.out 4 (by decide) (r' := Rs.fail 4) rfl)
      clear he
      go_wp2
      go_ret
      rw [HF.out]
      exact ⟨rfl, HQ.out⟩
    · have HF := Lib.hid (show rOpaque most r = rFixed m r2 by
        rw [HO.out, if_neg (by simpa using he), if_neg hm]
        unfold rFixed
        rw [if_neg (by simpa using he), if_neg (by omega)]; rfl)
      clear he
      go_wp2_with fail
      refine (refFixed_any g m r2 _ HQ1.out.1 (by omega)).mono ?_
      rintro e w3 ⟨rfl, hQ⟩
      have HQ := Lib.hid (HQ1.out.trans hQ)
      clear hQ
      go_wp2
      go_ret
      rw [HF.out]
      exact ⟨rfl, HQ.out⟩
  · have he2 : (r2.e != 0) = true := by simpa using he
    have HF := Lib.hid (show rOpaque most r = ([], r2) by rw [HO.out, if_pos he])
    clear he
    go_wp2
    go_ret
    rw [HF.out]
    exact ⟨rfl, HQ1.out⟩

theorem refLeft_any (g : Nat) (r : Rs) (w : World) (hR : RdF w g r) : Calls Tryz.prog 23 #[.pointer (some ⟨g, 0, none⟩)] w fun e w' => e = .returned (.int .i64 (rLeft r)) ∧ Below w.heap.size w w' := by
  obtain ⟨S, a, hB, ha, hS, h0, h1⟩ := hR
  have hc := hB.cell
  have hsz := bs_size S
  have hw1 : IntKind.i64.wrap ((S.length : Int) - (a : Int)) = (S.length : Int) - a := IntWalk.i64_in _ (by omega)
  by_cases he : r.e = 0
  · have HF := Lib.hid (show (rLeft r : Int) = (S.length : Int) - a by simp [rLeft, he, h0 he]; omega)
    rw [he] at hc
    clear he hB h0 h1
    go_enter Tryz.func23, Tryz.ntmps23
    go_wp2
    go_quiet (fail)
    go_wp2
    go_ret
    rw [HF.out]
    exact ⟨rfl, bdN (Below.refl _ _) _⟩
  · have he2 : (r.e != 0) = true := by simpa using he
    have HF := Lib.hid (show rLeft r = 0 by simp [rLeft, he])
    clear he hB h0 h1
    go_enter Tryz.func23, Tryz.ntmps23
    go_wp2
    go_ret
    rw [HF.out]
    exact ⟨rfl, Below.refl _ _⟩
end Go.Proofs.YtapcjojlkeaadaaGreatDoor

/-
  Layer 1, walks: a thing of a kind is taken, by the program's reader and by the document's (written by wip/tools/gentake.py). Conditions: sizes.
-/
namespace Go.Proofs.YtapcjojlkeaadaaGreatDoor
open Go.RowKit
attribute [local go_sem ↓] Go.wp_at_zero Go.wp_at_succ
attribute [local go_sem] rowAt_ptr rowOf_drew rowOf_drewN rowOf_alloc_past rowOf_new
theorem Thing.tlen (x : Thing) : x.vals.length = 4 := rfl
theorem Thing.tlat0 (x : Thing) : x.vals[0]? = some (.int .i64 x.kind) := rfl
theorem Thing.tlat1 (x : Thing) : x.vals[1]? = some (.int .i64 x.n) := rfl
theorem Thing.tlat2 (x : Thing) : x.vals[2]? = some (.bool x.is) := rfl
theorem Thing.tlat3 (x : Thing) : x.vals[3]? = some (.string (bs x.s)) := rfl
theorem Reads.poke {w wx : World} {g b o : Nat} {r : Rs} (h : Reads g r w wx) (hne : b ≠ g) (hB : w.heap.size ≤ b) (v : Value) : Reads g r w (wx.setCell ⟨b, o, none⟩ v) :=
  ⟨h.1.touch ((Touch.refl (fun k => k = b) wx).setCell_ (g := b) (o := o) (.inl rfl) v) (fun e => hne e.symm), h.2.setCell_ (g := b) (o := o) (.inr hB) v⟩
theorem ReadsF.poke {w wx : World} {g b o : Nat} {r : Rs} (h : ReadsF g r w wx) (hne : b ≠ g) (hB : w.heap.size ≤ b) (v : Value) : ReadsF g r w (wx.setCell ⟨b, o, none⟩ v) :=
  ⟨h.1.touch ((Touch.refl (fun k => k = b) wx).setCell_ (g := b) (o := o) (.inl rfl) v) (fun e => hne e.symm), h.2.setCell_ (g := b) (o := o) (.inr hB) v⟩

/-- a thing of a kind is taken -/
def tTake (k n : Int) (r : Rs) : Thing × Rs :=
  if k = 1 then (⟨k, (rU32 r).1, false, []⟩, (rU32 r).2)
  else if k = 2 then (⟨k, (rU64 r).1, false, []⟩, (rU64 r).2)
  else if k = 3 then (⟨k, 0, (rBool r).1, []⟩, (rBool r).2)
  else if k = 4 then (⟨k, 0, false, (rFixed n r).1⟩, (rFixed n r).2)
  else if k = 5 then (⟨k, 0, false, (rOpaque n r).1⟩, (rOpaque n r).2)
  else if k = 6 then (⟨k, (rOpt r).1.2, (rOpt r).1.1, []⟩, (rOpt r).2)
  else (⟨k, 0, false, []⟩, r)
def thing0 : Thing := ⟨0, 0, false, []⟩
theorem optV_lat0 (o : Bool × Nat) : (optV o)[0]? = some (.bool o.1) := rfl
theorem optV_lat1 (o : Bool × Nat) : (optV o)[1]? = some (.int .i64 o.2) := rfl
attribute [local go_sem] optV_lat0 optV_lat1 Thing.tlat0 Thing.tlat1 Thing.tlat2 Thing.tlat3

end Go.Proofs.YtapcjojlkeaadaaGreatDoor


/-
  Layer 1, walks: whether things are too many or too long; the laws XdrPads and XdrWrites. No condition.
-/
namespace Go.Proofs.YtapcjojlkeaadaaGreatDoor
open Go.RowKit
attribute [local go_sem ↓] Go.wp_at_zero Go.wp_at_succ

def long (t : Thing) : Bool := decide (200 < t.s.length)
theorem thingCell {w : World} {A : Option Addr} {ts : List Thing} (hA : At w 4 A (ts.map Thing.vals)) {k : Nat} (hk : k < ts.length) :
    ∃ b off, A = some ⟨b, off, none⟩ ∧ b < w.heap.size ∧ ∀ j u, ts[k].vals[j]? = some u → w.cell? ⟨b, off + k * 4 + j, none⟩ = some u := by
  obtain ⟨b, off, rfl, hb, hc⟩ := hA.getD (k := k) (by simpa using hk)
  exact ⟨b, off, rfl, hb, fun j u hu => hc j u (by simpa using hu)⟩

def bytesOf (ts : List Thing) : List UInt8 := ts.flatMap Thing.bytes
theorem bytesOf_succ {ts : List Thing} {k : Nat} (hk : k < ts.length) : bytesOf (ts.take (k + 1)) = bytesOf (ts.take k) ++ ts[k].bytes := by
  unfold bytesOf; rw [take_next _ _ hk, List.flatMap_append]; simp
theorem bytesOf_len (ts : List Thing) (h : ∀ t ∈ ts, t.s.length ≤ 200) : (bytesOf ts).length ≤ 216 * ts.length := by
  induction ts with
  | nil => simp [bytesOf]
  | cons t ts ih =>
    have h1 := t.bytes_len
    have h2 := h t (by simp)
    have h3 := ih fun x hx => h x (by simp [hx])
    unfold bytesOf at *
    simp only [List.flatMap_cons, List.length_append, List.length_cons]
    omega

end Go.Proofs.YtapcjojlkeaadaaGreatDoor


/-
  Layer 1, walks: the law XdrReads. No condition but machine numbers.
-/
namespace Go.Proofs.YtapcjojlkeaadaaGreatDoor
open Go.RowKit
attribute [local go_sem ↓] Go.wp_at_zero Go.wp_at_succ
attribute [local go_sem] rowAt_ptr rowOf_drew rowOf_drewN rowOf_alloc_past rowOf_new
attribute [local go_sem] Thing.tlat0 Thing.tlat1 Thing.tlat2 Thing.tlat3

def otherKind (k : Int) : Prop := k ≠ 1 ∧ k ≠ 2 ∧ k ≠ 3 ∧ k ≠ 4 ∧ k ≠ 5 ∧ k ≠ 6
theorem tTake_other {k n : Int} {r : Rs} (h : otherKind k) : tTake k n r = (⟨k, 0, false, []⟩, r) := by
  obtain ⟨h1, h2, h3, h4, h5, h6⟩ := h
  simp [tTake, h1, h2, h3, h4, h5, h6]
theorem kind_cases (k : Int) : k = 1 ∨ k = 2 ∨ k = 3 ∨ k = 4 ∨ k = 5 ∨ k = 6 ∨ otherKind k := by unfold otherKind; omega
theorem rFixed_len {n : Int} {r : Rs} (h : r.s.length ≤ 9223372036854775807) : (rFixed n r).2.s.length ≤ r.s.length := by
  unfold rFixed; split
  · exact Nat.le_refl _
  · split
    · simp [Rs.fail]
    · exact rPadded_len h
theorem rOpaque_len {n : Int} {r : Rs} (h : r.s.length ≤ 9223372036854775807) : (rOpaque n r).2.s.length ≤ r.s.length := by
  unfold rOpaque; split
  · exact rU32_len h
  · split
    · simp [Rs.fail]
    · exact Nat.le_trans (rPadded_len (Nat.le_trans (rU32_len h) h)) (rU32_len h)
theorem tTake_len {k n : Int} {r : Rs} (h : r.s.length ≤ 9223372036854775807) : (tTake k n r).2.s.length ≤ r.s.length := by
  rcases kind_cases k with rfl | rfl | rfl | rfl | rfl | rfl | hk
  · exact rU32_len h
  · exact rU64_len h
  · exact rBool_len h
  · exact rFixed_len h
  · exact rOpaque_len h
  · exact rOpt_len h
  · rw [tTake_other hk]; exact Nat.le_refl _
end Go.Proofs.YtapcjojlkeaadaaGreatDoor
