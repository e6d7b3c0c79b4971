/-
  Layer 1, walks: a text of so many bytes, and what fills it up, are taken; texts with their length; what is left. Conditions: sizes.
-/
import Derived.Test.YtlblenojhfeboaaDoorXdrReadC
import Derived.Test.YtlblenojhfeboaaDoorXdrWalkA
namespace Go.Proofs.YtlblenojhfeboaaDoor
open Go.RowKit
attribute [local go_sem ↓] Go.wp_at_zero Go.wp_at_succ
attribute [local go_sem] rowAt_ptr rowOf_drew rowOf_drewN rowOf_alloc_past rowOf_new

theorem callPadded1 (args : Array Value) (w : World) : (callFunc 93 args).run Tryd.prog w = .ok (.enter 93 args) w := by kernel_rfl
theorem callPadded2 (args : Array Value) (w : World) : (callFunc 94 args).run Tryd.prog w = .ok (.enter 94 args) w := by kernel_rfl
/-- the first bytes are taken -/
def rTake1 (n : Nat) (r : Rs) : List UInt8 × Rs := if r.e ≠ 0 then ([], r) else if r.s.length < n then ([], Rs.fail 10) else (r.s.take n, ⟨r.s.drop n, 0⟩)
/-- the noughts behind them are taken -/
def rTake2 (p : Nat) (r : Rs) : Rs := if r.e ≠ 0 then r else if r.s.length < p then Rs.fail 10 else if (r.s.take p).all (· == 0) then ⟨r.s.drop p, 0⟩ else Rs.fail 11
theorem rPadded_eq (n : Nat) (r : Rs) : rPadded n r = (if (rTake2 (padn n) (rTake1 n r).2).e ≠ 0 then [] else (rTake1 n r).1, rTake2 (padn n) (rTake1 n r).2) := by
  unfold rPadded rTake1 rTake2
  by_cases h1 : r.e ≠ 0
  · simp [h1]
  · rw [if_neg h1, if_neg h1]
    by_cases h2 : r.s.length < n
    · simp [h2, Rs.fail]
    · rw [if_neg h2, if_neg h2]
      simp only [ne_eq, not_true_eq_false, if_false]
      by_cases h3 : (r.s.drop n).length < padn n
      · rw [if_pos h3, if_pos h3]; simp [Rs.fail]
      · rw [if_neg h3, if_neg h3]
        by_cases h4 : ((r.s.drop n).take (padn n)).all (· == 0) = true
        · rw [if_pos h4, if_pos h4]; simp
        · rw [if_neg h4, if_neg h4]; simp [Rs.fail]

theorem padded1_any (b : Nat) (s old : List UInt8) (w : World) (hB : Blk w b 9 [.string (bs old)]) :
    Calls Tryd.prog 93 #[.string (bs s), .pointer (some ⟨b, 0, none⟩)] w fun e w' => e = .returned (.tuple #[]) ∧ (Blk w' b 9 [.string (bs s)] ∧ Touch (fun k => k = b) w w') := by
  have hc := hB.cell
  have hf := hB.frozen
  have HS := Lib.hid (hB.set_ 0 (.string (bs s)))
  have HT := Lib.hid ((Touch.refl (fun k => k = b) w).setCell_ (g := b) (o := 0) (.inl rfl) (.string (bs s)))
  clear hB
  go_enter Tryd.func93, Tryd.ntmps93
  go_wp2
  go_end0
  exact ⟨rfl, HS.out, HT.out⟩
theorem padded2_any (h g : Nat) (s : List UInt8) (r : Rs) (w : World) (hH : Blk w h 50 [.pointer (some ⟨g, 0, none⟩)]) (hR : Rd w g r) (hl : s.length ≤ 9223372036854775807) :
    Calls Tryd.prog 94 #[.string (bs s), .pointer (some ⟨h, 0, none⟩)] w fun e w' => e = .returned (.tuple #[]) ∧ Reads g (if s.all (· == 0) = true then r else Rs.fail 11) w w' := by
  go_enter Tryd.func94, Tryd.ntmps94
  go_wp2_with fail
  refine (trim_any s _ hl).mono ?_
  rintro e w1 ⟨m, rfl, hm, hb⟩
  have hH1 := hH.stays hb
  have hR1 := hR.stays hb
  have hc := hH1.cell
  have HB := Lib.hid hb
  clear hH hR hb
  cases m with
  | nil =>
    have HA := Lib.hid (hm.1 rfl)
    clear hm
    go_wp2
    go_end0
    exact ⟨rfl, by first | exact Reads.behind HB.out (Reads.refl hR1) | (rw [if_pos HA.out]; exact Reads.behind HB.out (Reads.refl hR1))⟩
  | cons a m =>
    have HA := Lib.hid (fun e => by simpa using hm.2 e : ¬ s.all (· == 0) = true)
    clear hm
    go_wp2_with fail
    refine (rFail_any g r 11 _ hR1).mono ?_
    rintro e w2 ⟨rfl, hQ⟩
    have HQ := Lib.hid (Reads.behind HB.out hQ)
    clear hQ
    go_wp2
    go_end0
    exact ⟨rfl, by first | exact HQ.out | (rw [if_neg HA.out]; exact HQ.out)⟩

theorem padTake1_any (g b n : Nat) (r : Rs) (w : World) (hR : Rd w g r) (hB : Blk w b 9 [.string (bs [])]) (hl : r.s.length ≤ 9223372036854775807) :
    Calls Tryd.prog 71 #[.pointer (some ⟨g, 0, none⟩), .int .i64 n, .func (.func 93) #[] #[.pointer (some ⟨b, 0, none⟩)]] w fun e w' =>
      e = .returned (.tuple #[]) ∧ Rd w' g (rTake1 n r).2 ∧ Blk w' b 9 [.string (bs (rTake1 n r).1)] ∧ Touch (fun k => k = g ∨ k = b) w w' := by
  have hne : b ≠ g := Blk.ne_ hB hR.1 (by decide)
  by_cases he : r.e ≠ 0
  · rw [show rTake1 n r = ([], r) by simp [rTake1, he]]
    refine (take_err g r n _ w hR he).mono ?_
    rintro e w1 ⟨rfl, rfl⟩
    exact ⟨rfl, hR, hB, Touch.refl _ _⟩
  · obtain ⟨s, e⟩ := r
    simp only [ne_eq, Decidable.not_not] at he hl
    subst he
    by_cases hs : s.length < n
    · rw [show rTake1 n ⟨s, 0⟩ = ([], Rs.fail 10) by simp [rTake1, hs]]
      refine (take_short g s n _ w hR hs).mono ?_
      rintro e w1 ⟨rfl, hQ⟩
      exact ⟨rfl, hQ.1, hQ.keeps hB hne, hQ.2.mono fun _ _ h => .inl h⟩
    · rw [show rTake1 n ⟨s, 0⟩ = (s.take n, ⟨s.drop n, 0⟩) by simp [rTake1, hs]]
      refine (take_ok g s n 93 #[.pointer (some ⟨b, 0, none⟩)] w hR (by omega) hl callPadded1 (fun w1 hQ => padded1_any b (s.take n) [] w1 (hQ.keeps hB hne))).mono ?_
      rintro e w2 ⟨w1, rfl, hQ, hb2, hT2⟩
      exact ⟨rfl, hQ.1.touch hT2 (fun h => hne h.symm), hb2, (hQ.2.mono fun _ _ h => .inl h).then_ (hT2.mono fun _ _ h => .inr h)⟩
theorem padTake2_any (g h n : Nat) (r : Rs) (w : World) (hR : Rd w g r) (hH : Blk w h 50 [.pointer (some ⟨g, 0, none⟩)]) (hl : r.s.length ≤ 9223372036854775807) :
    Calls Tryd.prog 71 #[.pointer (some ⟨g, 0, none⟩), .int .i64 n, .func (.func 94) #[] #[.pointer (some ⟨h, 0, none⟩)]] w fun e w' =>
      e = .returned (.tuple #[]) ∧ Reads g (rTake2 n r) w w' := by
  have hne : h ≠ g := Blk.ne_ hH hR.1 (by decide)
  by_cases he : r.e ≠ 0
  · rw [show rTake2 n r = r by simp [rTake2, he]]
    refine (take_err g r n _ w hR he).mono ?_
    rintro e w1 ⟨rfl, rfl⟩
    exact ⟨rfl, Reads.refl hR⟩
  · obtain ⟨s, e⟩ := r
    simp only [ne_eq, Decidable.not_not] at he hl
    subst he
    by_cases hs : s.length < n
    · rw [show rTake2 n ⟨s, 0⟩ = Rs.fail 10 by simp [rTake2, hs]]
      exact take_short g s n _ w hR hs
    · rw [show rTake2 n ⟨s, 0⟩ = if (s.take n).all (· == 0) = true then ⟨s.drop n, 0⟩ else Rs.fail 11 by simp [rTake2, hs]]
      refine (take_ok g s n 94 #[.pointer (some ⟨h, 0, none⟩)] w hR (by omega) hl callPadded2 (fun w1 hQ => padded2_any h g (s.take n) ⟨s.drop n, 0⟩ w1 (hQ.keeps hH hne) hQ.1 (by rw [List.length_take]; omega))).mono ?_
      rintro e w2 ⟨w1, rfl, hQ, hQ2⟩
      exact ⟨rfl, hQ.trans hQ2⟩
theorem rTake1_len {n : Nat} {r : Rs} (_h : r.s.length ≤ 9223372036854775807) : (rTake1 n r).2.s.length ≤ r.s.length := by
  unfold rTake1; split
  · exact Nat.le_refl _
  · split
    · simp [Rs.fail]
    · simp
theorem rTake2_len {n : Nat} {r : Rs} (_h : r.s.length ≤ 9223372036854775807) : (rTake2 n r).s.length ≤ r.s.length := by
  unfold rTake2; split
  · exact Nat.le_refl _
  · split
    · simp [Rs.fail]
    · split
      · simp
      · simp [Rs.fail]
theorem rPadded_len {n : Nat} {r : Rs} (h : r.s.length ≤ 9223372036854775807) : (rPadded n r).2.s.length ≤ r.s.length := by
  rw [rPadded_eq]; exact Nat.le_trans (rTake2_len (Nat.le_trans (rTake1_len h) h)) (rTake1_len h)

set_option maxRecDepth 20000 in
set_option maxHeartbeats 800000 in
theorem padded_any (g n : Nat) (r : Rs) (w : World) (hR : Rd w g r) (hn : (n : Int) ≤ 9223372036854775807) (hl : r.s.length ≤ 9223372036854775807) :
    Calls Tryd.prog 87 #[.pointer (some ⟨g, 0, none⟩), .int .i64 n] w (Gave g (rPadded n r).2 (.string (bs (rPadded n r).1)) w) := by
  have hH0 := Blk.new w 50 [.pointer (some ⟨g, 0, none⟩)]
  have hB0 := Blk.new (w.alloc (.cells #[.pointer (some ⟨g, 0, none⟩)] 50)) 9 [.string (bs [])]
  have hH1 := hH0.alloc (.cells #[.string (bs [])] 9)
  have hL0 : Below w.heap.size w (w.alloc (.cells #[.pointer (some ⟨g, 0, none⟩)] 50)) := (Below.refl _ _).alloc (Nat.le_refl _) _
  have hL1 := hL0.alloc hL0.size (.cells #[.string (bs [])] 9)
  have hs1 : (w.alloc (.cells #[.pointer (some ⟨g, 0, none⟩)] 50)).heap.size = w.heap.size + 1 := by simp
  rw [hs1] at hB0
  have hR1 := hR.stays hL1
  have hlt := hR.lt
  have hP := Lib.hid (rPadded_eq n r)
  have hc0 := hH1.cell
  clear hH0 hL0 hs1 hR
  go_enter Tryd.func87, Tryd.ntmps87
  go_wp2_with fail
  refine (padTake1_any g (w.heap.size + 1) n r _ hR1 hB0 hl).mono ?_
  rintro e w1 ⟨rfl, hR2, hB2, hT2⟩
  have hH2 := hH1.touch hT2 (by intro h; omega)
  have hc2 := hH2.cell
  have hT0 : Touch (fun k => k = g) w w1 := (Touch.of_below hL1 _).trans hT2 (fun i hi h => by omega)
  have hl2 := Nat.le_trans (rTake1_len (n := n) hl) hl
  have HT0 := Lib.hid hT0
  clear hT0 hT2 hc0 hH1 hB0 hR1
  generalize rTake1 n r = a at *
  have hpad := padn_lt n
  have hpd := fun W => pad_any n W hn
  simp only [Int.toNat_natCast] at hpd
  have HPD := Lib.hid hpd
  clear hpd
  go_wp2_with fail
  go_region_held3 (fun W => W.cell? ⟨w.heap.size, 0, none⟩ = some (.pointer (some ⟨g, 0, none⟩))) (first | exact hc2 0 | assumption) (first
    | (go_at_call 79; refine (HPD.out _).mono ?_; rintro e w' ⟨rfl, rfl⟩)
    | (go_at_call 71; refine (padTake2_any g w.heap.size (padn n) a.2 _ (show Rd w1.drew g a.2 from hR2) (show Blk w1.drew _ _ _ from hH2) hl2).mono ?_; rintro e w3 ⟨rfl, hQ⟩; have hH3 := hQ.keeps (show Blk w1.drew _ _ _ from hH2) (by omega); have hc3 := hH3.cell 0))
  all_goals
    have hT3 := HT0.out.drew.then_ hQ.2
    have hB3 := hQ.keeps (show Blk w1.drew _ _ _ from hB2) (by omega)
    have hR3 := hQ.1
    have hcB := hB3.cell
    have hcH := hH3.cell
    have HT := Lib.hid hT3
    clear hT3 hQ hB2 hH2 hR2 hc2 hc3 hH3 hB3
    generalize rTake2 (padn n) a.2 = b at *
    have HR := Lib.hid hR3
    go_wp2_with fail
    refine (rErr_any g b _ hR3).mono ?_
    rintro e w4 ⟨rfl, rfl⟩
    by_cases hb : b.e = 0
    · have hb2 : (b.e != 0) = false := by simpa using hb
      have HF := Lib.hid (show rPadded n r = (a.1, b) by rw [hP.out, if_neg (by simpa using hb)])
      clear hb hR3
      go_wp2
      go_ret
      rw [HF.out]
      exact ⟨rfl, HR.out, HT.out⟩
    · have hb2 : (b.e != 0) = true := by simpa using hb
      have HF := Lib.hid (show rPadded n r = ([], b) by rw [hP.out, if_pos hb])
      clear hb hR3
      go_wp2
      go_ret
      rw [HF.out]
      exact ⟨rfl, HR.out, HT.out⟩

set_option maxHeartbeats 800000 in
theorem rFixed_any (g : Nat) (n : Int) (r : Rs) (w : World) (hR : Rd w g r) (hn : n ≤ 9223372036854775807) (hl : r.s.length ≤ 9223372036854775807) :
    Calls Tryd.prog 80 #[.pointer (some ⟨g, 0, none⟩), .int .i64 n] w (Gave g (rFixed n r).2 (.string (bs (rFixed n r).1)) w) := by
  by_cases he : r.e = 0
  · have he2 : (r.e != 0) = false := by simpa using he
    by_cases hn0 : n < 0
    · have HF := Lib.hid (show rFixed n r = ([], Rs.fail 2) by simp [rFixed, he, hn0])
      have HR := Lib.hid hR
      clear he hR
      go_enter Tryd.func80, Tryd.ntmps80
      go_wp2_with fail
      refine (rErr_any g r _ HR.out).mono ?_
      rintro e w1 ⟨rfl, rfl⟩
      go_wp2_with fail
      refine (rFail_any g r 2 _ HR.out).mono ?_
      rintro e w2 ⟨rfl, hQ⟩
      have HQ := Lib.hid hQ
      clear hQ
      go_wp2
      go_ret
      rw [HF.out]
      exact ⟨rfl, HQ.out⟩
    · obtain ⟨m, rfl⟩ := Int.eq_ofNat_of_zero_le (show 0 ≤ n by omega)
      have HF := Lib.hid (show rFixed m r = rPadded m r by unfold rFixed; rw [if_neg (by simpa using he), if_neg hn0]; rfl)
      have HR := Lib.hid hR
      clear he hR
      go_enter Tryd.func80, Tryd.ntmps80
      go_wp2_with fail
      refine (rErr_any g r _ HR.out).mono ?_
      rintro e w1 ⟨rfl, rfl⟩
      go_wp2_with fail
      refine (padded_any g m r _ HR.out hn hl).mono ?_
      rintro e w2 ⟨rfl, hQ⟩
      have HQ := Lib.hid hQ
      clear hQ
      go_wp2
      go_ret
      rw [HF.out]
      exact ⟨rfl, HQ.out⟩
  · have he2 : (r.e != 0) = true := by simpa using he
    have HF := Lib.hid (show rFixed n r = ([], r) by simp [rFixed, he])
    have HR := Lib.hid hR
    clear he hR
    go_enter Tryd.func80, Tryd.ntmps80
    go_wp2_with fail
    refine (rErr_any g r _ HR.out).mono ?_
    rintro e w1 ⟨rfl, rfl⟩
    go_wp2
    go_ret
    rw [HF.out]
    exact ⟨rfl, Reads.refl HR.out⟩
theorem rU32_lt {r : Rs} (h : r.s.length ≤ 9223372036854775807) : (rU32 r).1 < 4294967296 := (rNum_lt (k := 4) h).1

theorem rLeft_any (g : Nat) (r : Rs) (w : World) (hR : Rd w g r) : Calls Tryd.prog 69 #[.pointer (some ⟨g, 0, none⟩)] w fun e w' => e = .returned (.int .i64 (rLeft r)) ∧ w = w' := by
  have hc := hR.1.cell
  have hsz := bs_size r.s
  by_cases he : r.e = 0
  · have he2 : (r.e != 0) = false := by simpa using he
    have HF := Lib.hid (show rLeft r = r.s.length by simp [rLeft, he])
    have HR := Lib.hid hR
    clear he hR
    go_enter Tryd.func69, Tryd.ntmps69
    go_wp2_with fail
    refine (rErr_any g r _ HR.out).mono ?_
    rintro e w1 ⟨rfl, rfl⟩
    go_wp2
    go_ret
    rw [HF.out]
    exact ⟨rfl, rfl⟩
  · have he2 : (r.e != 0) = true := by simpa using he
    have HF := Lib.hid (show rLeft r = 0 by simp [rLeft, he])
    have HR := Lib.hid hR
    clear he hR
    go_enter Tryd.func69, Tryd.ntmps69
    go_wp2_with fail
    refine (rErr_any g r _ HR.out).mono ?_
    rintro e w1 ⟨rfl, rfl⟩
    go_wp2
    go_ret
    rw [HF.out]
    exact ⟨rfl, rfl⟩
theorem rDone_any (g : Nat) (r : Rs) (w : World) (hR : Rd w g r) : Calls Tryd.prog 35 #[.pointer (some ⟨g, 0, none⟩)] w fun e w' => e = .returned (.int .i64 (rDone r)) ∧ w = w' := by
  have hc := hR.1.cell
  have hsz := bs_size r.s
  by_cases he : r.e = 0
  · have he2 : (r.e != 0) = false := by simpa using he
    have HF := Lib.hid (show rDone r = if 0 < r.s.length then 12 else 0 by simp [rDone, he])
    have HR := Lib.hid hR
    clear he hR
    by_cases hs : 0 < r.s.length
    all_goals
      go_enter Tryd.func35, Tryd.ntmps35
      go_wp2_with fail
      refine (rErr_any g r _ HR.out).mono ?_
      rintro e w1 ⟨rfl, rfl⟩
      go_wp2
      go_ret
      rw [HF.out]
      first
        | (rw [if_pos hs]; exact ⟨rfl, rfl⟩)
        | (rw [if_neg hs]; exact ⟨rfl, rfl⟩)
  · have he2 : (r.e != 0) = true := by simpa using he
    have HF := Lib.hid (show rDone r = r.e by simp [rDone, he])
    have HR := Lib.hid hR
    clear he hR
    go_enter Tryd.func35, Tryd.ntmps35
    go_wp2_with fail
    refine (rErr_any g r _ HR.out).mono ?_
    rintro e w1 ⟨rfl, rfl⟩
    go_wp2
    go_ret
    rw [HF.out]
    exact ⟨rfl, rfl⟩
/-- a new reader -/
theorem readNew_any (s : List UInt8) (w : World) : Calls Tryd.prog 31 #[.string (bs s)] w fun e w' => e = .returned (.pointer (some ⟨w.heap.size, 0, none⟩)) ∧ Rd w' w.heap.size ⟨s, 0⟩ ∧ Below w.heap.size w w' := by
  have hB := Blk.new w 81 [.string (bs s), .int .i64 0]
  have hb : Below w.heap.size w (w.alloc (.cells #[.string (bs s), .int .i64 0] 81)) := (Below.refl _ _).alloc (Nat.le_refl _) _
  have HB := Lib.hid hB
  go_enter Tryd.func31, Tryd.ntmps31
  go_wp2
  go_ret
  exact ⟨rfl, ⟨HB.out, fun h => absurd rfl h⟩, hb⟩
end Go.Proofs.YtlblenojhfeboaaDoor
