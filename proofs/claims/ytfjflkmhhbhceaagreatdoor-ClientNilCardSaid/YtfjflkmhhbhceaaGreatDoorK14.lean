/-
  Layer 9, walks: whether a message may be. No condition.
-/
import Derived.Test.YtfjflkmhhbhceaaGreatDoorProg
import Derived.Test.YtfjflkmhhbhceaaGreatDoorK05
import Derived.Test.YtfjflkmhhbhceaaGreatDoorK07
import Derived.Test.YtfjflkmhhbhceaaGreatDoorK09
import Derived.Deep.Light
import Derived.Test.YtfjflkmhhbhceaaGreatDoorK11
namespace Go.Proofs.YtfjflkmhhbhceaaGreatDoor
open Go.RowKit
attribute [local go_sem ↓] Go.wp_at_zero Go.wp_at_succ

theorem number9_any (n least : Int) (w : World) : Calls Tryz.prog 169 #[.int .i64 n, .int .i64 least] w fun e w' => e = .returned (.bool (num32 n least)) ∧ w = w' := by
  go_enter Tryz.func169, Tryz.ntmps169
  go_wp2
  all_goals
    go_ret
    exact ⟨ret_bool (by grind [num32]), rfl⟩
theorem there9_any (n : Int) (w : World) : Calls Tryz.prog 135 #[.int .i64 n] w fun e w' => e = .returned (.bool (thereP n)) ∧ w = w' := by
  go_enter Tryz.func135, Tryz.ntmps135
  go_wp2
  all_goals
    go_ret
    exact ⟨ret_bool (by grind [thereP]), rfl⟩

set_option maxHeartbeats 1600000 in
theorem owner9_any (c : Cred) (w : World) : Calls Tryz.prog 136 #[.agg c.vals.toArray] w fun e w' => e = .returned (.bool c.ok) ∧ Below w.heap.size w w' := by
  have hr := range_new w c.vals 63
  have hc0 := hr 0 _ rfl
  have hc1 := hr 1 _ rfl
  have hc2 := hr 2 _ rfl
  have hc3 := hr 3 _ rfl
  have hB0 : Below w.heap.size w (w.alloc (.cells c.vals.toArray 63)) := (Below.refl _ _).alloc (Nat.le_refl _) _
  clear hr
  go_enter Tryz.func136, Tryz.ntmps136
  go_wp2_with (first | (go_at_call 169; refine (number9_any _ _ _).mono ?_; rintro e w' ⟨rfl, rfl⟩) | fail)
  all_goals
    clear hc0 hc1 hc2 hc3
    go_ret
    exact ⟨ret_bool (by grind [Cred.ok]), hB0⟩

theorem guardCred : Tryz.prog.eqGuardType Tryz.prog.depth 63 = false := by kernel_rfl
theorem leafsCred : leafs Tryz.prog 8 63 = some (List.replicate 4 (.i .i64)) := by kernel_rfl
theorem fitsCred (a : Cred) : fits (List.replicate 4 (.i .i64)) a.vals = true := by rfl
theorem valsCred {a b : Cred} (h : a.vals = b.vals) : a = b := by
  cases a; cases b; simp_all [Cred.vals]
theorem eqCred (a b : Cred) (w : World) : (binOp .eql 63 (.agg a.vals.toArray) (.agg b.vals.toArray)).run Tryz.prog w = .ok (.bool (decide (a = b))) w := by
  by_cases h : a = b
  · subst h
    rw [eql_same leafsCred (by kernel_rfl) w _ _ (fitsCred a) rfl]
    simp
  · rw [eql_other leafsCred (by kernel_rfl) w _ _ (fitsCred a) (fitsCred b) fun hh => h (valsCred hh)]
    simp [h]
theorem eqCred0 (a : Cred) (w : World) : (binOp .eql 63 (.agg a.vals.toArray) (.agg #[.int .i64 0, .int .i64 0, .int .i64 0, .int .i64 0])).run Tryz.prog w = .ok (.bool (decide (a = cred0))) w := eqCred a cred0 w
theorem ldCred {ρ : Operand → Value} {w : World} {dst : Option Tmp} {ty : TypeId} {pos : String} {after : Array Edge} {g : Option (Nat × Bool)} {x : Operand} (h : (rowAt w 4 (ρ x)).isSome = true) :
    (execOp ρ ⟨dst, .load 63 x, ty, pos, after, g⟩).run Tryz.prog w = .ok (.value (.agg ((rowAt w 4 (ρ x)).getD #[]))) w := ex_load 63 4 Tryz.underlying63 rfl (by kernel_rfl) h
theorem ldMessage {ρ : Operand → Value} {w : World} {dst : Option Tmp} {ty : TypeId} {pos : String} {after : Array Edge} {g : Option (Nat × Bool)} {x : Operand} (h : (rowAt w 10 (ρ x)).isSome = true) :
    (execOp ρ ⟨dst, .load 81 x, ty, pos, after, g⟩).run Tryz.prog w = .ok (.value (.agg ((rowAt w 10 (ρ x)).getD #[]))) w := ex_load 81 10 Tryz.underlying81 rfl (by kernel_rfl) h
attribute [local go_sem ↓] eqCred eqCred0 ldCred ldMessage

attribute [local go_sem] guardCred rowAt_ptr rowOf_drew rowOf_drewN

set_option maxHeartbeats 3200000 in
theorem may9_any (m : Message) (w : World) (hl : m.body.length ≤ 9223372036854775807) : Calls Tryz.prog 139 #[.agg m.vals.toArray] w fun e w' => e = .returned (.bool m.may) ∧ Below w.heap.size w w' := by
  have hr := range_new w m.vals 81
  have hc0 := hr 0 _ rfl
  have hc1 := hr 1 _ rfl
  have hc2 := hr 2 _ rfl
  have hc3 := hr 3 _ rfl
  have hc8 := hr 8 _ rfl
  have hc9 := hr 9 _ rfl
  have hb0 := Blk.new w 81 m.vals
  have h4 : rowOf (w.alloc (.cells m.vals.toArray 81)) w.heap.size 4 4 = some m.cred.vals.toArray := hb0.row 4 4 (by simp [Message.len])
  have hB0 : Below w.heap.size w (w.alloc (.cells m.vals.toArray 81)) := (Below.refl _ _).alloc (Nat.le_refl _) _
  have hz : w.heap.size < (w.alloc (.cells m.vals.toArray 81)).heap.size := by simp
  have hsz := bs_size m.body
  clear hr hb0
  go_enter Tryz.func139, Tryz.ntmps139
  go_wp2_with (first
    | (go_at_call 169; refine (number9_any _ _ _).mono ?_; rintro e w' ⟨rfl, rfl⟩)
    | (go_at_call 135; refine (there9_any _ _).mono ?_; rintro e w' ⟨rfl, rfl⟩)
    | (go_at_call 136; refine (owner9_any _ _).mono ?_; rintro e w' ⟨rfl, hb⟩; have hs := Stb.of hb) | fail)
  all_goals
    go_ret
    clear hc0 hc1 hc2 hc3 hc8 hc9 h4 hz hsz
    go_light
    refine ⟨ret_bool ?_, by first | exact hB0 | exact below_then hB0 (Stb.below (by assumption))⟩
    grind [Message.may]
end Go.Proofs.YtfjflkmhhbhceaaGreatDoor

/-
  Layer 1, walks: the document's reading of texts of so many bytes, and of what is left. Conditions: none but machine numbers.
-/
namespace Go.Proofs.YtfjflkmhhbhceaaGreatDoor
open Go.RowKit
attribute [local go_sem ↓] Go.wp_at_zero Go.wp_at_succ
attribute [local go_sem] rowAt_ptr rowOf_drew rowOf_drewN rowOf_alloc_past rowOf_new
attribute [local go_sem] bs_get

theorem bs_cut (s : List UInt8) (a n : Nat) : (bs s).extract a (a + n) = bs ((s.drop a).take n) := by
  apply ByteArray.ext
  simp [List.extract]
theorem padn_step {m : Nat} (h : m % 4 ≠ 0) : padn m = padn (m + 1) + 1 := by unfold padn; omega
theorem padn_zero {m : Nat} (h : m % 4 = 0) : padn m = 0 := by unfold padn; omega
theorem rFixed_short {n : Nat} {s : List UInt8} (h : s.length < n + padn n) : rFixed n ⟨s, 0⟩ = ([], Rs.fail 10) := by
  have hn : ¬ ((n : Int) < 0) := by omega
  simp only [rFixed, ne_eq, not_true_eq_false, if_false, hn, rPadded, Int.toNat_natCast]
  by_cases h1 : s.length < n
  · rw [if_pos h1]
  · rw [if_neg h1, if_pos (by rw [List.length_drop]; omega)]
theorem zeros_next {l : List UInt8} {j : Nat} (hj : j < l.length) (h : (l.take j).all (· == 0) = true) (h0 : l[j] = 0) : (l.take (j + 1)).all (· == 0) = true := by
  rw [List.take_succ_eq_append_getElem hj, List.all_append, h]; simp [h0]
theorem zeros_not {l : List UInt8} {j p : Nat} (hj : j < l.length) (hp : j < p) (h0 : l[j] ≠ 0) : ¬ (l.take p).all (· == 0) = true := by
  intro h
  rw [List.all_eq_true] at h
  have : (l.take p)[j]? = some l[j] := by rw [List.getElem?_take, if_pos hp, List.getElem?_eq_getElem hj]
  exact h0 (by simpa using h _ (List.mem_of_getElem? this))
theorem rFixed_pads {n : Nat} {s : List UInt8} (h : n + padn n ≤ s.length) : rFixed n ⟨s, 0⟩ = if ((s.drop n).take (padn n)).all (· == 0) = true then (s.take n, ⟨s.drop (n + padn n), 0⟩) else ([], Rs.fail 11) := by
  have hn : ¬ ((n : Int) < 0) := by omega
  simp only [rFixed, ne_eq, not_true_eq_false, if_false, hn, rPadded, Int.toNat_natCast]
  rw [if_neg (by omega), if_neg (by rw [List.length_drop]; omega), List.drop_drop]

set_option maxRecDepth 20000 in
set_option maxHeartbeats 3200000 in
theorem refFixed_nat (g n : Nat) (s : List UInt8) (w : World) (hR : RdF w g ⟨s, 0⟩) (hn : (n : Int) ≤ 9223372036854775807) :
    Calls Tryz.prog 109 #[.pointer (some ⟨g, 0, none⟩), .int .i64 n] w (GaveF g (rFixed n ⟨s, 0⟩).2 (.string (bs (rFixed n ⟨s, 0⟩).1)) w) := by
  obtain ⟨S, a, hB, ha, hS, h0, -⟩ := hR
  have h0 := h0 rfl
  simp only at h0
  subst h0
  have hc := hB.cell
  have hf := hB.frozen
  have hsz := bs_size S
  have hw1 : IntKind.i64.wrap ((S.length : Int) - (a : Int)) = (S.length : Int) - a := IntWalk.i64_in _ (by omega)
  have HB := Lib.hid hB
  have hp := padn_lt n
  clear hB
  go_enter Tryz.func109, Tryz.ntmps109
  go_wp2
  go_loop [5] (fun v => ∃ m : Nat, v = .int .i64 m ∧ n ≤ m ∧ m + padn m = n + padn n ∧ (m = n ∨ m ≤ S.length + 1)) (fun v => padn (intOf v).toNat)
  case atStart => exact ⟨n, rfl, Nat.le_refl _, rfl, .inl rfl⟩
  case round =>
    obtain ⟨m, rfl, hnm, hmp, hmS⟩ := hrel
    by_cases hc4 : m % 4 ≠ 0 ∧ m ≤ S.length
    · obtain ⟨h4, hmL⟩ := hc4
      have ht1 : ((m : Int) % 4 != 0) = true := by rw [bne_iff_ne]; omega
      have hst := padn_step h4
      clear h4
      go_wp2
      go_round
      case rel => exact ⟨m + 1, by go_num, by omega, by omega, .inr (by omega)⟩
      case measure => simp [intOf]; omega
    · have hall : m = n + padn n ∨ S.length < m := by
        by_cases h4 : m % 4 = 0
        · left; have := padn_zero h4; omega
        · right; omega
      by_cases hsh : S.length - a < n + padn n
      · have HN := Lib.hid (rFixed_short (n := n) (s := S.drop a) (by rw [List.length_drop]; omega))
        have hfin : ∀ W : World, RdF ((W.drewN 0).setCell ⟨g, 2, none⟩ (.int .i64 10)) g (Rs.fail 10) → True := fun _ _ => trivial
        clear hfin
        have hcond : (((m : Int) % 4 != 0) = false) ∨ (((m : Int) % 4 != 0) = true ∧ ¬ ((m : Int) ≤ (S.length : Int))) := by
          by_cases h4 : m % 4 = 0
          · left; simp; omega
          · right; exact ⟨by rw [bne_iff_ne]; omega, by omega⟩
        have hm1 : (S.length : Int) - a < m := by rcases hall with h | h <;> omega
        by_cases hn1 : (S.length : Int) - a < n
        · rcases hcond with h4 | ⟨h4, h5⟩
          all_goals
            go_wp2
            go_quiet (fail)
            go_wp2
            go_ret
            rw [HN.out]
            exact ⟨rfl, ⟨S, a, (HB.out.drewN _).set_ 2 (.int .i64 10), ha, by assumption, (fun h => by cases h), fun _ => rfl⟩, ((Touch.refl (fun k => k = g) w).drewN _).setCell_ (g := g) (o := 2) (.inl rfl) (.int .i64 10)⟩
        · have hd1 : decide ((S.length : Int) - a < n) = false := decide_eq_false hn1
          rcases hcond with h4 | ⟨h4, h5⟩
          all_goals
            go_wp2
            go_quiet (fail)
            go_wp2
            go_ret
            rw [HN.out]
            exact ⟨rfl, ⟨S, a, (HB.out.drewN _).set_ 2 (.int .i64 10), ha, by assumption, (fun h => by cases h), fun _ => rfl⟩, ((Touch.refl (fun k => k = g) w).drewN _).setCell_ (g := g) (o := 2) (.inl rfl) (.int .i64 10)⟩
      · obtain rfl : m = n + padn n := by omega
        have HN := Lib.hid (rFixed_pads (n := n) (s := S.drop a) (by rw [List.length_drop]; omega))
        have h4 : ((((n : Int) + (padn n : Int)) % 4) != 0) = false := by
          have : (n + padn n) % 4 = 0 := by unfold padn; omega
          simp; omega
        have hn1 : decide ((S.length : Int) - a < n) = false := decide_eq_false (by omega)
        have hn2 : decide ((S.length : Int) - a < (n : Int) + (padn n : Int)) = false := decide_eq_false (by omega)
        have hpl : a + n + padn n ≤ S.length := by omega
        have HZ := Lib.hid (show rFixed n ⟨S.drop a, 0⟩ = if ((S.drop (a + n)).take (padn n)).all (· == 0) = true then ((S.drop a).take n, ⟨S.drop (a + n + padn n), 0⟩) else ([], Rs.fail 11) by
          rw [HN.out, List.drop_drop, List.drop_drop, Nat.add_assoc a])
        clear HN hmp hmS hall hc4 hsh hnm
        go_wp2
        go_quiet (fail)
        go_wp2
        have HB2 := Lib.hid (HB.out.drewN nq)
        have hT2 : Touch (fun k => k = g) w (w.drewN nq) := (Touch.refl (fun k => k = g) w).drewN _
        generalize w.drewN nq = w2 at *
        clear hc hf HB hw1 hn1 hn2 h4
        go_loopw [6] (fun v wr => ∃ j : Nat, v = .int .i64 ((n + j : Nat) : Int) ∧ j ≤ padn n ∧ ((S.drop (a + n)).take j).all (· == 0) = true ∧ Blk wr g 131 [.string (bs S), .int .i64 a, .int .i64 0] ∧ Touch (fun k => k = g) w wr) (fun v _ => n + padn n - (intOf v).toNat)
        case atStart => exact ⟨0, rfl, Nat.zero_le _, rfl, HB2.out, hT2⟩
        case round =>
          obtain ⟨j, rfl, hj, hz, hB3, hT3⟩ := hrel
          have hc := hB3.cell
          have hf := hB3.frozen
          clear hT2
          by_cases hlt : j < padn n
          · have hjl : j < (S.drop (a + n)).length := by rw [List.length_drop]; omega
            have hlS : a + (n + j) < S.length := by omega
            have hget : (S.drop (a + n))[j] = S[a + (n + j)] := by rw [List.getElem_drop]; congr 1; omega
            have hw2 : IntKind.i64.wrap ((a : Int) + ((n + j : Nat) : Int)) = ((a + (n + j) : Nat) : Int) := by rw [IntWalk.i64_in _ (by omega)]; omega
            have hw3 : IntKind.i64.wrap ((a : Int) + ((n : Int) + (j : Int))) = (a : Int) + ((n : Int) + (j : Int)) := by rw [IntWalk.i64_in _ (by omega)]
            have hi0 : (0 : Int) ≤ (a : Int) + ((n : Int) + (j : Int)) := by omega
            have hi1 : (a : Int) + ((n : Int) + (j : Int)) < (S.length : Int) := by omega
            have hi2 : ((a : Int) + ((n : Int) + (j : Int))).toNat = a + (n + j) := by omega
            have hbb := S[a + (n + j)].toNat_lt
            by_cases h0 : S[a + (n + j)] = 0
            · have ht : ((S[a + (n + j)].toNat : Int) != 0) = false := by rw [h0]; rfl
              have HS := Lib.hid (zeros_next hjl hz (by rw [hget]; exact h0))
              have HB3 := Lib.hid hB3
              have HT3 := Lib.hid hT3
              clear h0 hget hz hB3 hT3
              go_wp2
              go_quiet (fail)
              go_wp2
              go_roundw
              case rel => exact ⟨j + 1, by go_num, by omega, HS.out, HB3.out.drewN _, HT3.out.drewN _⟩
              case measure => simp [intOf]; omega
            · have ht : ((S[a + (n + j)].toNat : Int) != 0) = true := by
                rw [bne_iff_ne]; intro e; apply h0; apply UInt8.toNat_inj.1; simpa using e
              have HS := Lib.hid (HZ.out.trans (if_neg (zeros_not hjl hlt (by rw [hget]; exact h0))))
              have HB3 := Lib.hid hB3
              have HT3 := Lib.hid hT3
              clear h0 hget hz hB3 hT3
              go_wp2
              go_quiet (fail)
              go_wp2
              go_ret
              rw [HS.out]
              exact ⟨rfl, ⟨S, a, (HB3.out.drewN _).set_ 2 (.int .i64 11), ha, by assumption, (fun h => by cases h), fun _ => rfl⟩, (HT3.out.drewN _).setCell_ (g := g) (o := 2) (.inl rfl) (.int .i64 11)⟩
          · obtain rfl : j = padn n := by omega
            have HS := Lib.hid (HZ.out.trans (if_pos hz))
            have HB3 := Lib.hid hB3
            have HT3 := Lib.hid hT3
            have hw2 : IntKind.i64.wrap ((a : Int) + (n : Int)) = ((a + n : Nat) : Int) := by rw [IntWalk.i64_in _ (by omega)]; omega
            have hi0 : (0 : Int) ≤ ((a + n : Nat) : Int) := by omega
            have hi1 : ((a + n : Nat) : Int) ≤ (S.length : Int) := by omega
            have hi2 : (a : Int) ≤ ((a + n : Nat) : Int) := by omega
            have hi3 : (0 : Int) ≤ (a : Int) := by omega
            clear hz hB3 hT3 HZ
            have hsum : (a : Int) + ((n : Int) + (padn n : Int)) = ((a + n + padn n : Nat) : Int) := by omega
            have HSUM := Lib.hid hsum
            have hw4 : IntKind.i64.wrap ((a : Int) + ((n : Int) + (padn n : Int))) = (a : Int) + ((n : Int) + (padn n : Int)) := by rw [IntWalk.i64_in _ (by omega)]
            clear hsum
            go_wp2
            go_quiet (fail)
            go_wp2
            go_ret
            rw [HS.out]
            refine ⟨?_, ⟨S, a + n + padn n, ?_, hpl, by assumption, fun _ => rfl, fun h => absurd rfl h⟩, ?_⟩
            · show Ending.returned (.string ((bs S).extract a (a + n))) = _
              rw [bs_cut]
            · have h := (HB3.out.drewN nq).set_ 1 (.int .i64 ((a : Int) + ((n : Int) + (padn n : Int))))
              simp only [List.set_cons_zero, List.set_cons_succ] at h
              rw [HSUM.out] at h ⊢
              exact h
            · exact (HT3.out.drewN nq).setCell_ (g := g) (o := 1) (.inl rfl) _

theorem RdF.setE {w : World} {g : Nat} {r : Rs} (h : RdF w g r) (n : Int) (hn : n ≠ 0) : RdF (w.setCell ⟨g, 2, none⟩ (.int .i64 n)) g (Rs.fail n) := (RdF.fail (ReadsF.refl h) n hn rfl).1
set_option maxHeartbeats 800000 in
theorem refFixed_any (g : Nat) (n : Int) (r : Rs) (w : World) (hR : RdF w g r) (hn : n ≤ 9223372036854775807) :
    Calls Tryz.prog 109 #[.pointer (some ⟨g, 0, none⟩), .int .i64 n] w (GaveF g (rFixed n r).2 (.string (bs (rFixed n r).1)) w) := by
  have hc := ReadsF.err hR
  by_cases he : r.e = 0
  · by_cases hn0 : n < 0
    · have HF := Lib.hid (show rFixed n r = ([], Rs.fail 2) by simp [rFixed, he, hn0])
      have HQ := Lib.hid (RdF.fail (ReadsF.refl hR) 2 (by decide) (r' := Rs.fail 2) rfl)
      have hf : w.frozen? ⟨g, 2, none⟩ = false := by obtain ⟨_, _, h, _⟩ := hR; exact h.frozen 2
      rw [he] at hc
      clear he hR
      go_enter Tryz.func109, Tryz.ntmps109
      go_wp2
      go_ret
      rw [HF.out]
      exact ⟨rfl, HQ.out⟩
    · obtain ⟨m, rfl⟩ := Int.eq_ofNat_of_zero_le (show 0 ≤ n by omega)
      obtain ⟨s, e⟩ := r
      simp only at he
      subst he
      exact refFixed_nat g m s w hR hn
  · have he2 : (r.e != 0) = true := by simpa using he
    have HF := Lib.hid (show rFixed n r = ([], r) by simp [rFixed, he])
    have HR := Lib.hid hR
    clear he hR
    go_enter Tryz.func109, Tryz.ntmps109
    go_wp2
    go_ret
    rw [HF.out]
    exact ⟨rfl, ReadsF.refl HR.out⟩

set_option maxHeartbeats 800000 in
theorem refTextR_any (g : Nat) (most : Int) (r : Rs) (w : World) (hR : RdF w g r) (_hl : r.s.length ≤ 9223372036854775807) :
    Calls Tryz.prog 54 #[.pointer (some ⟨g, 0, none⟩), .int .i64 most] w (GaveF g (rOpaque most r).2 (.string (bs (rOpaque most r).1)) w) := by
  have hu := refU4_any g r w hR
  have hlt : (rU32 r).1 < 4294967296 := by
    unfold rU32 rNum
    split
    · simp
    · split
      · simp
      · have := beVal_lt (r.s.take 4)
        simp only
        have h2 : (r.s.take 4).length ≤ 4 := List.length_take_le _ _
        have h3 := Nat.pow_le_pow_right (n := 256) (by omega) h2
        omega
  have HO := Lib.hid (show rOpaque most r = if (rU32 r).2.e ≠ 0 then ([], (rU32 r).2) else if most < ((rU32 r).1 : Int) then ([], Rs.fail 4) else rPadded (rU32 r).1 (rU32 r).2 from rfl)
  generalize rU32 r = x at *
  obtain ⟨m, r2⟩ := x
  simp only at HO hu hlt
  have HU := Lib.hid hu
  clear hu hR
  go_enter Tryz.func54, Tryz.ntmps54
  go_wp2_with fail
  refine HU.out.mono ?_
  rintro e w1 ⟨rfl, hQ1⟩
  have hc := ReadsF.err hQ1.1
  have HQ1 := Lib.hid hQ1
  have hf : w1.frozen? ⟨g, 2, none⟩ = false := by obtain ⟨_, _, h, _⟩ := hQ1.1; exact h.frozen 2
  clear hQ1 HU
  by_cases he : r2.e = 0
  · rw [he] at hc
    by_cases hm : most < (m : Int)
    · have HF := Lib.hid (show rOpaque most r = ([], Rs.fail 4) by rw [HO.out, if_neg (by simpa using he), if_pos hm])
      have HQ := Lib.hid (RdF.fail HQ1.out 4 (by decide) (r' := Rs.fail 4) rfl)
      clear he
      go_wp2
      go_ret
      rw [HF.out]
      exact ⟨rfl, HQ.out⟩
    · have HF := Lib.hid (show rOpaque most r = rFixed m r2 by
        rw [HO.out, if_neg (by simpa using he), if_neg hm]
        unfold rFixed
        rw [if_neg (by simpa using he), if_neg (by omega)]; rfl)
      clear he
      go_wp2_with fail
      refine (refFixed_any g m r2 _ HQ1.out.1 (by omega)).mono ?_
      rintro e w3 ⟨rfl, hQ⟩
      have HQ := Lib.hid (HQ1.out.trans hQ)
      clear hQ
      go_wp2
      go_ret
      rw [HF.out]
      exact ⟨rfl, HQ.out⟩
  · have he2 : (r2.e != 0) = true := by simpa using he
    have HF := Lib.hid (show rOpaque most r = ([], r2) by rw [HO.out, if_pos he])
    clear he
    go_wp2
    go_ret
    rw [HF.out]
    exact ⟨rfl, HQ1.out⟩

theorem refLeft_any (g : Nat) (r : Rs) (w : World) (hR : RdF w g r) : Calls Tryz.prog 58 #[.pointer (some ⟨g, 0, none⟩)] w fun e w' => e = .returned (.int .i64 (rLeft r)) ∧ Below w.heap.size w w' := by
  obtain ⟨S, a, hB, ha, hS, h0, h1⟩ := hR
  have hc := hB.cell
  have hsz := bs_size S
  have hw1 : IntKind.i64.wrap ((S.length : Int) - (a : Int)) = (S.length : Int) - a := IntWalk.i64_in _ (by omega)
  by_cases he : r.e = 0
  · have HF := Lib.hid (show (rLeft r : Int) = (S.length : Int) - a by simp [rLeft, he, h0 he]; omega)
    rw [he] at hc
    clear he hB h0 h1
    go_enter Tryz.func58, Tryz.ntmps58
    go_wp2
    go_quiet (fail)
    go_wp2
    go_ret
    rw [HF.out]
    exact ⟨rfl, bdN (Below.refl _ _) _⟩
  · have he2 : (r.e != 0) = true := by simpa using he
    have HF := Lib.hid (show rLeft r = 0 by simp [rLeft, he])
    clear he hB h0 h1
    go_enter Tryz.func58, Tryz.ntmps58
    go_wp2
    go_ret
    rw [HF.out]
    exact ⟨rfl, Below.refl _ _⟩
end Go.Proofs.YtfjflkmhhbhceaaGreatDoor
