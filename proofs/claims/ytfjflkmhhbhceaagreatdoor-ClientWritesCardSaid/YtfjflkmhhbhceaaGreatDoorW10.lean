/-
  Layer 1, walks: a text of so many bytes, and what fills it up, are taken; texts with their length; what is left. Conditions: sizes.
-/
import Derived.Test.YtfjflkmhhbhceaaGreatDoorW07
import Derived.Test.YtfjflkmhhbhceaaGreatDoorW04
import Derived.Test.YtfjflkmhhbhceaaGreatDoorW08
namespace Go.Proofs.YtfjflkmhhbhceaaGreatDoor
open Go.RowKit
attribute [local go_sem ↓] Go.wp_at_zero Go.wp_at_succ
attribute [local go_sem] rowAt_ptr rowOf_drew rowOf_drewN rowOf_alloc_past rowOf_new

theorem callPadded1 (args : Array Value) (w : World) : (callFunc 185 args).run Tryz.prog w = .ok (.enter 185 args) w := by kernel_rfl
theorem callPadded2 (args : Array Value) (w : World) : (callFunc 186 args).run Tryz.prog w = .ok (.enter 186 args) w := by kernel_rfl
/-- the first bytes are taken -/
def rTake1 (n : Nat) (r : Rs) : List UInt8 × Rs := if r.e ≠ 0 then ([], r) else if r.s.length < n then ([], Rs.fail 10) else (r.s.take n, ⟨r.s.drop n, 0⟩)
/-- the noughts behind them are taken -/
def rTake2 (p : Nat) (r : Rs) : Rs := if r.e ≠ 0 then r else if r.s.length < p then Rs.fail 10 else if (r.s.take p).all (· == 0) then ⟨r.s.drop p, 0⟩ else Rs.fail 11
theorem rPadded_eq (n : Nat) (r : Rs) : rPadded n r = (if (rTake2 (padn n) (rTake1 n r).2).e ≠ 0 then [] else (rTake1 n r).1, rTake2 (padn n) (rTake1 n r).2) := by
  unfold rPadded rTake1 rTake2
  by_cases h1 : r.e ≠ 0
  · simp [h1]
  · rw [if_neg h1, if_neg h1]
    by_cases h2 : r.s.length < n
    · simp [h2, Rs.fail]
    · rw [if_neg h2, if_neg h2]
      simp only [ne_eq, not_true_eq_false, if_false]
      by_cases h3 : (r.s.drop n).length < padn n
      · rw [if_pos h3, if_pos h3]; simp [Rs.fail]
      · rw [if_neg h3, if_neg h3]
        by_cases h4 : ((r.s.drop n).take (padn n)).all (· == 0) = true
        · rw [if_pos h4, if_pos h4]; simp
        · rw [if_neg h4, if_neg h4]; simp [Rs.fail]

theorem padded1_any (b : Nat) (s old : List UInt8) (w : World) (hB : Blk w b 9 [.string (bs old)]) :
    Calls Tryz.prog 185 #[.string (bs s), .pointer (some ⟨b, 0, none⟩)] w fun e w' => e = .returned (.tuple #[]) ∧ (Blk w' b 9 [.string (bs s)] ∧ Touch (fun k => k = b) w w') := by
  have hc := hB.cell
  have hf := hB.frozen
  have HS := Lib.hid (hB.set_ 0 (.string (bs s)))
  have HT := Lib.hid ((Touch.refl (fun k => k = b) w).setCell_ (g := b) (o := 0) (.inl rfl) (.string (bs s)))
  clear hB
  go_enter Tryz.func185, Tryz.ntmps185
  go_wp2
  go_end0
  exact ⟨rfl, HS.out, HT.out⟩
theorem padded2_any (h g : Nat) (s : List UInt8) (r : Rs) (w : World) (hH : Blk w h 167 [.pointer (some ⟨g, 0, none⟩)]) (hR : Rd w g r) (hl : s.length ≤ 9223372036854775807) :
    Calls Tryz.prog 186 #[.string (bs s), .pointer (some ⟨h, 0, none⟩)] w fun e w' => e = .returned (.tuple #[]) ∧ Reads g (if s.all (· == 0) = true then r else Rs.fail 11) w w' := by
  go_enter Tryz.func186, Tryz.ntmps186
  go_wp2_with fail
  refine (trim_any s _ hl).mono ?_
  rintro e w1 ⟨m, rfl, hm, hb⟩
  have hH1 := hH.stays hb
  have hR1 := hR.stays hb
  have hc := hH1.cell
  have HB := Lib.hid hb
  clear hH hR hb
  cases m with
  | nil =>
    have HA := Lib.hid (hm.1 rfl)
    clear hm
    go_wp2
    go_end0
    exact ⟨rfl, by first | exact Reads.behind HB.out (Reads.refl hR1) | (rw [if_pos HA.out]; exact Reads.behind HB.out (Reads.refl hR1))⟩
  | cons a m =>
    have HA := Lib.hid (fun e => by simpa using hm.2 e : ¬ s.all (· == 0) = true)
    clear hm
    go_wp2_with fail
    refine (rFail_any g r 11 _ hR1).mono ?_
    rintro e w2 ⟨rfl, hQ⟩
    have HQ := Lib.hid (Reads.behind HB.out hQ)
    clear hQ
    go_wp2
    go_end0
    exact ⟨rfl, by first | exact HQ.out | (rw [if_neg HA.out]; exact HQ.out)⟩

theorem padTake1_any (g b n : Nat) (r : Rs) (w : World) (hR : Rd w g r) (hB : Blk w b 9 [.string (bs [])]) (hl : r.s.length ≤ 9223372036854775807) :
    Calls Tryz.prog 171 #[.pointer (some ⟨g, 0, none⟩), .int .i64 n, .func (.func 185) #[] #[.pointer (some ⟨b, 0, none⟩)]] w fun e w' =>
      e = .returned (.tuple #[]) ∧ Rd w' g (rTake1 n r).2 ∧ Blk w' b 9 [.string (bs (rTake1 n r).1)] ∧ Touch (fun k => k = g ∨ k = b) w w' := by
  have hne : b ≠ g := Blk.ne_ hB hR.1 (by decide)
  by_cases he : r.e ≠ 0
  · rw [show rTake1 n r = ([], r) by simp [rTake1, he]]
    refine (take_err g r n _ w hR he).mono ?_
    rintro e w1 ⟨rfl, rfl⟩
    exact ⟨rfl, hR, hB, Touch.refl _ _⟩
  · obtain ⟨s, e⟩ := r
    simp only [ne_eq, Decidable.not_not] at he hl
    subst he
    by_cases hs : s.length < n
    · rw [show rTake1 n ⟨s, 0⟩ = ([], Rs.fail 10) by simp [rTake1, hs]]
      refine (take_short g s n _ w hR hs).mono ?_
      rintro e w1 ⟨rfl, hQ⟩
      exact ⟨rfl, hQ.1, hQ.keeps hB hne, hQ.2.mono fun _ _ h => .inl h⟩
    · rw [show rTake1 n ⟨s, 0⟩ = (s.take n, ⟨s.drop n, 0⟩) by simp [rTake1, hs]]
      refine (take_ok g s n 185 #[.pointer (some ⟨b, 0, none⟩)] w hR (by omega) hl callPadded1 (fun w1 hQ => padded1_any b (s.take n) [] w1 (hQ.keeps hB hne))).mono ?_
      rintro e w2 ⟨w1, rfl, hQ, hb2, hT2⟩
      exact ⟨rfl, hQ.1.touch hT2 (fun h => hne h.symm), hb2, (hQ.2.mono fun _ _ h => .inl h).then_ (hT2.mono fun _ _ h => .inr h)⟩
theorem padTake2_any (g h n : Nat) (r : Rs) (w : World) (hR : Rd w g r) (hH : Blk w h 167 [.pointer (some ⟨g, 0, none⟩)]) (hl : r.s.length ≤ 9223372036854775807) :
    Calls Tryz.prog 171 #[.pointer (some ⟨g, 0, none⟩), .int .i64 n, .func (.func 186) #[] #[.pointer (some ⟨h, 0, none⟩)]] w fun e w' =>
      e = .returned (.tuple #[]) ∧ Reads g (rTake2 n r) w w' := by
  have hne : h ≠ g := Blk.ne_ hH hR.1 (by decide)
  by_cases he : r.e ≠ 0
  · rw [show rTake2 n r = r by simp [rTake2, he]]
    refine (take_err g r n _ w hR he).mono ?_
    rintro e w1 ⟨rfl, rfl⟩
    exact ⟨rfl, Reads.refl hR⟩
  · obtain ⟨s, e⟩ := r
    simp only [ne_eq, Decidable.not_not] at he hl
    subst he
    by_cases hs : s.length < n
    · rw [show rTake2 n ⟨s, 0⟩ = Rs.fail 10 by simp [rTake2, hs]]
      exact take_short g s n _ w hR hs
    · rw [show rTake2 n ⟨s, 0⟩ = if (s.take n).all (· == 0) = true then ⟨s.drop n, 0⟩ else Rs.fail 11 by simp [rTake2, hs]]
      refine (take_ok g s n 186 #[.pointer (some ⟨h, 0, none⟩)] w hR (by omega) hl callPadded2 (fun w1 hQ => padded2_any h g (s.take n) ⟨s.drop n, 0⟩ w1 (hQ.keeps hH hne) hQ.1 (by rw [List.length_take]; omega))).mono ?_
      rintro e w2 ⟨w1, rfl, hQ, hQ2⟩
      exact ⟨rfl, hQ.trans hQ2⟩
theorem rTake1_len {n : Nat} {r : Rs} (_h : r.s.length ≤ 9223372036854775807) : (rTake1 n r).2.s.length ≤ r.s.length := by
  unfold rTake1; split
  · exact Nat.le_refl _
  · split
    · simp [Rs.fail]
    · simp
theorem rTake2_len {n : Nat} {r : Rs} (_h : r.s.length ≤ 9223372036854775807) : (rTake2 n r).s.length ≤ r.s.length := by
  unfold rTake2; split
  · exact Nat.le_refl _
  · split
    · simp [Rs.fail]
    · split
      · simp
      · simp [Rs.fail]
theorem rPadded_len {n : Nat} {r : Rs} (h : r.s.length ≤ 9223372036854775807) : (rPadded n r).2.s.length ≤ r.s.length := by
  rw [rPadded_eq]; exact Nat.le_trans (rTake2_len (Nat.le_trans (rTake1_len h) h)) (rTake1_len h)

set_option maxRecDepth 20000 in
set_option maxHeartbeats 800000 in
theorem padded_any (g n : Nat) (r : Rs) (w : World) (hR : Rd w g r) (hn : (n : Int) ≤ 9223372036854775807) (hl : r.s.length ≤ 9223372036854775807) :
    Calls Tryz.prog 174 #[.pointer (some ⟨g, 0, none⟩), .int .i64 n] w (Gave g (rPadded n r).2 (.string (bs (rPadded n r).1)) w) := by
  have hH0 := Blk.new w 167 [.pointer (some ⟨g, 0, none⟩)]
  have hB0 := Blk.new (w.alloc (.cells #[.pointer (some ⟨g, 0, none⟩)] 167)) 9 [.string (bs [])]
  have hH1 := hH0.alloc (.cells #[.string (bs [])] 9)
  have hL0 : Below w.heap.size w (w.alloc (.cells #[.pointer (some ⟨g, 0, none⟩)] 167)) := (Below.refl _ _).alloc (Nat.le_refl _) _
  have hL1 := hL0.alloc hL0.size (.cells #[.string (bs [])] 9)
  have hs1 : (w.alloc (.cells #[.pointer (some ⟨g, 0, none⟩)] 167)).heap.size = w.heap.size + 1 := by simp
  rw [hs1] at hB0
  have hR1 := hR.stays hL1
  have hlt := hR.lt
  have hP := Lib.hid (rPadded_eq n r)
  have hc0 := hH1.cell
  clear hH0 hL0 hs1 hR
  go_enter Tryz.func174, Tryz.ntmps174
  go_wp2_with fail
  refine (padTake1_any g (w.heap.size + 1) n r _ hR1 hB0 hl).mono ?_
  rintro e w1 ⟨rfl, hR2, hB2, hT2⟩
  have hH2 := hH1.touch hT2 (by intro h; omega)
  have hc2 := hH2.cell
  have hT0 : Touch (fun k => k = g) w w1 := (Touch.of_below hL1 _).trans hT2 (fun i hi h => by omega)
  have hl2 := Nat.le_trans (rTake1_len (n := n) hl) hl
  have HT0 := Lib.hid hT0
  clear hT0 hT2 hc0 hH1 hB0 hR1
  generalize rTake1 n r = a at *
  have hpad := padn_lt n
  have hpd := fun W => pad_any n W hn
  simp only [Int.toNat_natCast] at hpd
  have HPD := Lib.hid hpd
  clear hpd
  go_wp2_with fail
  go_region_held3 (fun W => W.cell? ⟨w.heap.size, 0, none⟩ = some (.pointer (some ⟨g, 0, none⟩))) (first | exact hc2 0 | assumption) (first
    | (go_at_call 184; refine (HPD.out _).mono ?_; rintro e w' ⟨rfl, rfl⟩)
    | (go_at_call 171; refine (padTake2_any g w.heap.size (padn n) a.2 _ (show Rd w1.drew g a.2 from hR2) (show Blk w1.drew _ _ _ from hH2) hl2).mono ?_; rintro e w3 ⟨rfl, hQ⟩; have hH3 := hQ.keeps (show Blk w1.drew _ _ _ from hH2) (by omega); have hc3 := hH3.cell 0))
  all_goals
    have hT3 := HT0.out.drew.then_ hQ.2
    have hB3 := hQ.keeps (show Blk w1.drew _ _ _ from hB2) (by omega)
    have hR3 := hQ.1
    have hcB := hB3.cell
    have hcH := hH3.cell
    have HT := Lib.hid hT3
    clear hT3 hQ hB2 hH2 hR2 hc2 hc3 hH3 hB3
    generalize rTake2 (padn n) a.2 = b at *
    have HR := Lib.hid hR3
    go_wp2_with fail
    refine (rErr_any g b _ hR3).mono ?_
    rintro e w4 ⟨rfl, rfl⟩
    by_cases hb : b.e = 0
    · have hb2 : (b.e != 0) = false := by simpa using hb
      have HF := Lib.hid (show rPadded n r = (a.1, b) by rw [hP.out, if_neg (by simpa using hb)])
      clear hb hR3
      go_wp2
      go_ret
      rw [HF.out]
      exact ⟨rfl, HR.out, HT.out⟩
    · have hb2 : (b.e != 0) = true := by simpa using hb
      have HF := Lib.hid (show rPadded n r = ([], b) by rw [hP.out, if_pos hb])
      clear hb hR3
      go_wp2
      go_ret
      rw [HF.out]
      exact ⟨rfl, HR.out, HT.out⟩

set_option maxHeartbeats 800000 in
theorem rFixed_any (g : Nat) (n : Int) (r : Rs) (w : World) (hR : Rd w g r) (hn : n ≤ 9223372036854775807) (hl : r.s.length ≤ 9223372036854775807) :
    Calls Tryz.prog 170 #[.pointer (some ⟨g, 0, none⟩), .int .i64 n] w (Gave g (rFixed n r).2 (.string (bs (rFixed n r).1)) w) := by
  by_cases he : r.e = 0
  · have he2 : (r.e != 0) = false := by simpa using he
    by_cases hn0 : n < 0
    · have HF := Lib.hid (show rFixed n r = ([], Rs.fail 2) by simp [rFixed, he, hn0])
      have HR := Lib.hid hR
      clear he hR
      go_enter Tryz.func170, Tryz.ntmps170
      go_wp2_with fail
      refine (rErr_any g r _ HR.out).mono ?_
      rintro e w1 ⟨rfl, rfl⟩
      go_wp2_with fail
      refine (rFail_any g r 2 _ HR.out).mono ?_
      rintro e w2 ⟨rfl, hQ⟩
      have HQ := Lib.hid hQ
      clear hQ
      go_wp2
      go_ret
      rw [HF.out]
      exact ⟨rfl, HQ.out⟩
    · obtain ⟨m, rfl⟩ := Int.eq_ofNat_of_zero_le (show 0 ≤ n by omega)
      have HF := Lib.hid (show rFixed m r = rPadded m r by unfold rFixed; rw [if_neg (by simpa using he), if_neg hn0]; rfl)
      have HR := Lib.hid hR
      clear he hR
      go_enter Tryz.func170, Tryz.ntmps170
      go_wp2_with fail
      refine (rErr_any g r _ HR.out).mono ?_
      rintro e w1 ⟨rfl, rfl⟩
      go_wp2_with fail
      refine (padded_any g m r _ HR.out hn hl).mono ?_
      rintro e w2 ⟨rfl, hQ⟩
      have HQ := Lib.hid hQ
      clear hQ
      go_wp2
      go_ret
      rw [HF.out]
      exact ⟨rfl, HQ.out⟩
  · have he2 : (r.e != 0) = true := by simpa using he
    have HF := Lib.hid (show rFixed n r = ([], r) by simp [rFixed, he])
    have HR := Lib.hid hR
    clear he hR
    go_enter Tryz.func170, Tryz.ntmps170
    go_wp2_with fail
    refine (rErr_any g r _ HR.out).mono ?_
    rintro e w1 ⟨rfl, rfl⟩
    go_wp2
    go_ret
    rw [HF.out]
    exact ⟨rfl, Reads.refl HR.out⟩
theorem rU32_lt {r : Rs} (h : r.s.length ≤ 9223372036854775807) : (rU32 r).1 < 4294967296 := (rNum_lt (k := 4) h).1

set_option maxHeartbeats 800000 in
theorem rOpaque_any (g : Nat) (most : Int) (r : Rs) (w : World) (hR : Rd w g r) (hl : r.s.length ≤ 9223372036854775807) :
    Calls Tryz.prog 142 #[.pointer (some ⟨g, 0, none⟩), .int .i64 most] w (Gave g (rOpaque most r).2 (.string (bs (rOpaque most r).1)) w) := by
  have hl2 := Nat.le_trans (rU32_len hl) hl
  have hlt := rU32_lt hl
  have hu := rU32_any g r w hR hl
  have HO := Lib.hid (show rOpaque most r = if (rU32 r).2.e ≠ 0 then ([], (rU32 r).2) else if most < ((rU32 r).1 : Int) then ([], Rs.fail 4) else rPadded (rU32 r).1 (rU32 r).2 from rfl)
  generalize rU32 r = x at *
  obtain ⟨m, r2⟩ := x
  simp only at HO hl2 hlt hu
  have HU := Lib.hid hu
  clear hu hR
  go_enter Tryz.func142, Tryz.ntmps142
  go_wp2_with fail
  refine HU.out.mono ?_
  rintro e w1 ⟨rfl, hQ1⟩
  have HQ1 := Lib.hid hQ1
  clear hQ1 HU
  go_wp2_with fail
  refine (rErr_any g r2 _ HQ1.out.1).mono ?_
  rintro e w2 ⟨rfl, rfl⟩
  by_cases he : r2.e = 0
  · have he2 : (r2.e != 0) = false := by simpa using he
    by_cases hm : most < (m : Int)
    · have HF := Lib.hid (show rOpaque most r = ([], Rs.fail 4) by rw [HO.out, if_neg (by simpa using he), if_pos hm])
      clear he
      go_wp2_with fail
      refine (rFail_any g r2 4 _ HQ1.out.1).mono ?_
      rintro e w3 ⟨rfl, hQ⟩
      have HQ := Lib.hid (HQ1.out.trans hQ)
      clear hQ
      go_wp2
      go_ret
      rw [HF.out]
      exact ⟨rfl, HQ.out⟩
    · have HF := Lib.hid (show rOpaque most r = rPadded m r2 by rw [HO.out, if_neg (by simpa using he), if_neg hm])
      clear he
      go_wp2_with fail
      refine (padded_any g m r2 _ HQ1.out.1 (by omega) hl2).mono ?_
      rintro e w3 ⟨rfl, hQ⟩
      have HQ := Lib.hid (HQ1.out.trans hQ)
      clear hQ
      go_wp2
      go_ret
      rw [HF.out]
      exact ⟨rfl, HQ.out⟩
  · have he2 : (r2.e != 0) = true := by simpa using he
    have HF := Lib.hid (show rOpaque most r = ([], r2) by rw [HO.out, if_pos he])
    clear he
    go_wp2
    go_ret
    rw [HF.out]
    exact ⟨rfl, HQ1.out⟩

theorem rLeft_any (g : Nat) (r : Rs) (w : World) (hR : Rd w g r) : Calls Tryz.prog 137 #[.pointer (some ⟨g, 0, none⟩)] w fun e w' => e = .returned (.int .i64 (rLeft r)) ∧ w = w' := by
  have hc := hR.1.cell
  have hsz := bs_size r.s
  by_cases he : r.e = 0
  · have he2 : (r.e != 0) = false := by simpa using he
    have HF := Lib.hid (show rLeft r = r.s.length by simp [rLeft, he])
    have HR := Lib.hid hR
    clear he hR
    go_enter Tryz.func137, Tryz.ntmps137
    go_wp2_with fail
    refine (rErr_any g r _ HR.out).mono ?_
    rintro e w1 ⟨rfl, rfl⟩
    go_wp2
    go_ret
    rw [HF.out]
    exact ⟨rfl, rfl⟩
  · have he2 : (r.e != 0) = true := by simpa using he
    have HF := Lib.hid (show rLeft r = 0 by simp [rLeft, he])
    have HR := Lib.hid hR
    clear he hR
    go_enter Tryz.func137, Tryz.ntmps137
    go_wp2_with fail
    refine (rErr_any g r _ HR.out).mono ?_
    rintro e w1 ⟨rfl, rfl⟩
    go_wp2
    go_ret
    rw [HF.out]
    exact ⟨rfl, rfl⟩
theorem rDone_any (g : Nat) (r : Rs) (w : World) (hR : Rd w g r) : Calls Tryz.prog 104 #[.pointer (some ⟨g, 0, none⟩)] w fun e w' => e = .returned (.int .i64 (rDone r)) ∧ w = w' := by
  have hc := hR.1.cell
  have hsz := bs_size r.s
  by_cases he : r.e = 0
  · have he2 : (r.e != 0) = false := by simpa using he
    have HF := Lib.hid (show rDone r = if 0 < r.s.length then 12 else 0 by simp [rDone, he])
    have HR := Lib.hid hR
    clear he hR
    by_cases hs : 0 < r.s.length
    all_goals
      go_enter Tryz.func104, Tryz.ntmps104
      go_wp2_with fail
      refine (rErr_any g r _ HR.out).mono ?_
      rintro e w1 ⟨rfl, rfl⟩
      go_wp2
      go_ret
      rw [HF.out]
      first
        | (rw [if_pos hs]; exact ⟨rfl, rfl⟩)
        | (rw [if_neg hs]; exact ⟨rfl, rfl⟩)
  · have he2 : (r.e != 0) = true := by simpa using he
    have HF := Lib.hid (show rDone r = r.e by simp [rDone, he])
    have HR := Lib.hid hR
    clear he hR
    go_enter Tryz.func104, Tryz.ntmps104
    go_wp2_with fail
    refine (rErr_any g r _ HR.out).mono ?_
    rintro e w1 ⟨rfl, rfl⟩
    go_wp2
    go_ret
    rw [HF.out]
    exact ⟨rfl, rfl⟩
/-- a new reader -/
theorem readNew_any (s : List UInt8) (w : World) : Calls Tryz.prog 94 #[.string (bs s)] w fun e w' => e = .returned (.pointer (some ⟨w.heap.size, 0, none⟩)) ∧ Rd w' w.heap.size ⟨s, 0⟩ ∧ Below w.heap.size w w' := by
  have hB := Blk.new w 200 [.string (bs s), .int .i64 0]
  have hb : Below w.heap.size w (w.alloc (.cells #[.string (bs s), .int .i64 0] 200)) := (Below.refl _ _).alloc (Nat.le_refl _) _
  have HB := Lib.hid hB
  go_enter Tryz.func94, Tryz.ntmps94
  go_wp2
  go_ret
  exact ⟨rfl, ⟨HB.out, fun h => absurd rfl h⟩, hb⟩
end Go.Proofs.YtfjflkmhhbhceaaGreatDoor

/-
  Layer 1, walks: the document's reading of texts of so many bytes, and of what is left. Conditions: none but machine numbers.
-/
namespace Go.Proofs.YtfjflkmhhbhceaaGreatDoor
open Go.RowKit
attribute [local go_sem ↓] Go.wp_at_zero Go.wp_at_succ
attribute [local go_sem] rowAt_ptr rowOf_drew rowOf_drewN rowOf_alloc_past rowOf_new
attribute [local go_sem] bs_get

theorem bs_cut (s : List UInt8) (a n : Nat) : (bs s).extract a (a + n) = bs ((s.drop a).take n) := by
  apply ByteArray.ext
  simp [List.extract]
theorem padn_step {m : Nat} (h : m % 4 ≠ 0) : padn m = padn (m + 1) + 1 := by unfold padn; omega
theorem padn_zero {m : Nat} (h : m % 4 = 0) : padn m = 0 := by unfold padn; omega
theorem rFixed_short {n : Nat} {s : List UInt8} (h : s.length < n + padn n) : rFixed n ⟨s, 0⟩ = ([], Rs.fail 10) := by
  have hn : ¬ ((n : Int) < 0) := by omega
  simp only [rFixed, ne_eq, not_true_eq_false, if_false, hn, rPadded, Int.toNat_natCast]
  by_cases h1 : s.length < n
  · rw [if_pos h1]
  · rw [if_neg h1, if_pos (by rw [List.length_drop]; omega)]
theorem zeros_next {l : List UInt8} {j : Nat} (hj : j < l.length) (h : (l.take j).all (· == 0) = true) (h0 : l[j] = 0) : (l.take (j + 1)).all (· == 0) = true := by
  rw [List.take_succ_eq_append_getElem hj, List.all_append, h]; simp [h0]
theorem zeros_not {l : List UInt8} {j p : Nat} (hj : j < l.length) (hp : j < p) (h0 : l[j] ≠ 0) : ¬ (l.take p).all (· == 0) = true := by
  intro h
  rw [List.all_eq_true] at h
  have : (l.take p)[j]? = some l[j] := by rw [List.getElem?_take, if_pos hp, List.getElem?_eq_getElem hj]
  exact h0 (by simpa using h _ (List.mem_of_getElem? this))
theorem rFixed_pads {n : Nat} {s : List UInt8} (h : n + padn n ≤ s.length) : rFixed n ⟨s, 0⟩ = if ((s.drop n).take (padn n)).all (· == 0) = true then (s.take n, ⟨s.drop (n + padn n), 0⟩) else ([], Rs.fail 11) := by
  have hn : ¬ ((n : Int) < 0) := by omega
  simp only [rFixed, ne_eq, not_true_eq_false, if_false, hn, rPadded, Int.toNat_natCast]
  rw [if_neg (by omega), if_neg (by rw [List.length_drop]; omega), List.drop_drop]

set_option maxRecDepth 20000 in
set_option maxHeartbeats 3200000 in
theorem refFixed_nat (g n : Nat) (s : List UInt8) (w : World) (hR : RdF w g ⟨s, 0⟩) (hn : (n : Int) ≤ 9223372036854775807) :
    Calls Tryz.prog 109 #[.pointer (some ⟨g, 0, none⟩), .int .i64 n] w (GaveF g (rFixed n ⟨s, 0⟩).2 (.string (bs (rFixed n ⟨s, 0⟩).1)) w) := by
  obtain ⟨S, a, hB, ha, hS, h0, -⟩ := hR
  have h0 := h0 rfl
  simp only at h0
  subst h0
  have hc := hB.cell
  have hf := hB.frozen
  have hsz := bs_size S
  have hw1 : IntKind.i64.wrap ((S.length : Int) - (a : Int)) = (S.length : Int) - a := IntWalk.i64_in _ (by omega)
  have HB := Lib.hid hB
  have hp := padn_lt n
  clear hB
  go_enter Tryz.func109, Tryz.ntmps109
  go_wp2
  go_loop [5] (fun v => ∃ m : Nat, v = .int .i64 m ∧ n ≤ m ∧ m + padn m = n + padn n ∧ (m = n ∨ m ≤ S.length + 1)) (fun v => padn (intOf v).toNat)
  case atStart => exact ⟨n, rfl, Nat.le_refl _, rfl, .inl rfl⟩
  case round =>
    obtain ⟨m, rfl, hnm, hmp, hmS⟩ := hrel
    by_cases hc4 : m % 4 ≠ 0 ∧ m ≤ S.length
    · obtain ⟨h4, hmL⟩ := hc4
      have ht1 : ((m : Int) % 4 != 0) = true := by rw [bne_iff_ne]; omega
      have hst := padn_step h4
      clear h4
      go_wp2
      go_round
      case rel => exact ⟨m + 1, by go_num, by omega, by omega, .inr (by omega)⟩
      case measure => simp [intOf]; omega
    · have hall : m = n + padn n ∨ S.length < m := by
        by_cases h4 : m % 4 = 0
        · left; have := padn_zero h4; omega
        · right; omega
      by_cases hsh : S.length - a < n + padn n
      · have HN := Lib.hid (rFixed_short (n := n) (s := S.drop a) (by rw [List.length_drop]; omega))
        have hfin : ∀ W : World, RdF ((W.drewN 0).setCell ⟨g, 2, none⟩ (.int .i64 10)) g (Rs.fail 10) → True := fun _ _ => trivial
        clear hfin
        have hcond : (((m : Int) % 4 != 0) = false) ∨ (((m : Int) % 4 != 0) = true ∧ ¬ ((m : Int) ≤ (S.length : Int))) := by
          by_cases h4 : m % 4 = 0
          · left; simp; omega
          · right; exact ⟨by rw [bne_iff_ne]; omega, by omega⟩
        have hm1 : (S.length : Int) - a < m := by rcases hall with h | h <;> omega
        by_cases hn1 : (S.length : Int) - a < n
        · rcases hcond with h4 | ⟨h4, h5⟩
          all_goals
            go_wp2
            go_quiet (fail)
            go_wp2
            go_ret
            rw [HN.out]
            exact ⟨rfl, ⟨S, a, (HB.out.drewN _).set_ 2 (.int .i64 10), ha, by assumption, (fun h => by cases h), fun _ => rfl⟩, ((Touch.refl (fun k => k = g) w).drewN _).setCell_ (g := g) (o := 2) (.inl rfl) (.int .i64 10)⟩
        · have hd1 : decide ((S.length : Int) - a < n) = false := decide_eq_false hn1
          rcases hcond with h4 | ⟨h4, h5⟩
          all_goals
            go_wp2
            go_quiet (fail)
            go_wp2
            go_ret
            rw [HN.out]
            exact ⟨rfl, ⟨S, a, (HB.out.drewN _).set_ 2 (.int .i64 10), ha, by assumption, (fun h => by cases h), fun _ => rfl⟩, ((Touch.refl (fun k => k = g) w).drewN _).setCell_ (g := g) (o := 2) (.inl rfl) (.int .i64 10)⟩
      · obtain rfl : m = n + padn n := by omega
        have HN := Lib.hid (rFixed_pads (n := n) (s := S.drop a) (by rw [List.length_drop]; omega))
        have h4 : ((((n : Int) + (padn n : Int)) % 4) != 0) = false := by
          have : (n + padn n) % 4 = 0 := by unfold padn; omega
          simp; omega
        have hn1 : decide ((S.length : Int) - a < n) = false := decide_eq_false (by omega)
        have hn2 : decide ((S.length : Int) - a < (n : Int) + (padn n : Int)) = false := decide_eq_false (by omega)
        have hpl : a + n + padn n ≤ S.length := by omega
        have HZ := Lib.hid (show rFixed n ⟨S.drop a, 0⟩ = if ((S.drop (a + n)).take (padn n)).all (· == 0) = true then ((S.drop a).take n, ⟨S.drop (a + n + padn n), 0⟩) else ([], Rs.fail 11) by
          rw [HN.out, List.drop_drop, List.drop_drop, Nat.add_assoc a])
        clear HN hmp hmS hall hc4 hsh hnm
        go_wp2
        go_quiet (fail)
        go_wp2
        have HB2 := Lib.hid (HB.out.drewN nq)
        have hT2 : Touch (fun k => k = g) w (w.drewN nq) := (Touch.refl (fun k => k = g) w).drewN _
        generalize w.drewN nq = w2 at *
        clear hc hf HB hw1 hn1 hn2 h4
        go_loopw [6] (fun v wr => ∃ j : Nat, v = .int .i64 ((n + j : Nat) : Int) ∧ j ≤ padn n ∧ ((S.drop (a + n)).take j).all (· == 0) = true ∧ Blk wr g 131 [.string (bs S), .int .i64 a, .int .i64 0] ∧ Touch (fun k => k = g) w wr) (fun v _ => n + padn n - (intOf v).toNat)
        case atStart => exact ⟨0, rfl, Nat.zero_le _, rfl, HB2.out, hT2⟩
        case round =>
          obtain ⟨j, rfl, hj, hz, hB3, hT3⟩ := hrel
          have hc := hB3.cell
          have hf := hB3.frozen
          clear hT2
          by_cases hlt : j < padn n
          · have hjl : j < (S.drop (a + n)).length := by rw [List.length_drop]; omega
            have hlS : a + (n + j) < S.length := by omega
            have hget : (S.drop (a + n))[j] = S[a + (n + j)] := by rw [List.getElem_drop]; congr 1; omega
            have hw2 : IntKind.i64.wrap ((a : Int) + ((n + j : Nat) : Int)) = ((a + (n + j) : Nat) : Int) := by rw [IntWalk.i64_in _ (by omega)]; omega
            have hw3 : IntKind.i64.wrap ((a : Int) + ((n : Int) + (j : Int))) = (a : Int) + ((n : Int) + (j : Int)) := by rw [IntWalk.i64_in _ (by omega)]
            have hi0 : (0 : Int) ≤ (a : Int) + ((n : Int) + (j : Int)) := by omega
            have hi1 : (a : Int) + ((n : Int) + (j : Int)) < (S.length : Int) := by omega
            have hi2 : ((a : Int) + ((n : Int) + (j : Int))).toNat = a + (n + j) := by omega
            have hbb := S[a + (n + j)].toNat_lt
            by_cases h0 : S[a + (n + j)] = 0
            · have ht : ((S[a + (n + j)].toNat : Int) != 0) = false := by rw [h0]; rfl
              have HS := Lib.hid (zeros_next hjl hz (by rw [hget]; exact h0))
              have HB3 := Lib.hid hB3
              have HT3 := Lib.hid hT3
              clear h0 hget hz hB3 hT3
              go_wp2
              go_quiet (fail)
              go_wp2
              go_roundw
              case rel => exact ⟨j + 1, by go_num, by omega, HS.out, HB3.out.drewN _, HT3.out.drewN _⟩
              case measure => simp [intOf]; omega
            · have ht : ((S[a + (n + j)].toNat : Int) != 0) = true := by
                rw [bne_iff_ne]; intro e; apply h0; apply UInt8.toNat_inj.1; simpa using e
              have HS := Lib.hid (HZ.out.trans (if_neg (zeros_not hjl hlt (by rw [hget]; exact h0))))
              have HB3 := Lib.hid hB3
              have HT3 := Lib.hid hT3
              clear h0 hget hz hB3 hT3
              go_wp2
              go_quiet (fail)
              go_wp2
              go_ret
              rw [HS.out]
              exact ⟨rfl, ⟨S, a, (HB3.out.drewN _).set_ 2 (.int .i64 11), ha, by assumption, (fun h => by cases h), fun _ => rfl⟩, (HT3.out.drewN _).setCell_ (g := g) (o := 2) (.inl rfl) (.int .i64 11)⟩
          · obtain rfl : j = padn n := by omega
            have HS := Lib.hid (HZ.out.trans (if_pos hz))
            have HB3 := Lib.hid hB3
            have HT3 := Lib.hid hT3
            have hw2 : IntKind.i64.wrap ((a : Int) + (n : Int)) = ((a + n : Nat) : Int) := by rw [IntWalk.i64_in _ (by omega)]; omega
            have hi0 : (0 : Int) ≤ ((a + n : Nat) : Int) := by omega
            have hi1 : ((a + n : Nat) : Int) ≤ (S.length : Int) := by omega
            have hi2 : (a : Int) ≤ ((a + n : Nat) : Int) := by omega
            have hi3 : (0 : Int) ≤ (a : Int) := by omega
            clear hz hB3 hT3 HZ
            have hsum : (a : Int) + ((n : Int) + (padn n : Int)) = ((a + n + padn n : Nat) : Int) := by omega
            have HSUM := Lib.hid hsum
            have hw4 : IntKind.i64.wrap ((a : Int) + ((n : Int) + (padn n : Int))) = (a : Int) + ((n : Int) + (padn n : Int)) := by rw [IntWalk.i64_in _ (by omega)]
            clear hsum
            go_wp2
            go_quiet (fail)
            go_wp2
            go_ret
            rw [HS.out]
            refine ⟨?_, ⟨S, a + n + padn n, ?_, hpl, by assumption, fun _ => rfl, fun h => absurd rfl h⟩, ?_⟩
            · show Ending.returned (.string ((bs S).extract a (a + n))) = _
              rw [bs_cut]
            · have h := (HB3.out.drewN nq).set_ 1 (.int .i64 ((a : Int) + ((n : Int) + (padn n : Int))))
              simp only [List.set_cons_zero, List.set_cons_succ] at h
              rw [HSUM.out] at h ⊢
              exact h
            · exact (HT3.out.drewN nq).setCell_ (g := g) (o := 1) (.inl rfl) _

set_option maxHeartbeats 800000 in
theorem refFixed_any (g : Nat) (n : Int) (r : Rs) (w : World) (hR : RdF w g r) (hn : n ≤ 9223372036854775807) :
    Calls Tryz.prog 109 #[.pointer (some ⟨g, 0, none⟩), .int .i64 n] w (GaveF g (rFixed n r).2 (.string (bs (rFixed n r).1)) w) := by
  have hc := ReadsF.err hR
  by_cases he : r.e = 0
  · by_cases hn0 : n < 0
    · have HF := Lib.hid (show rFixed n r = ([], Rs.fail 2) by simp [rFixed, he, hn0])
      have HQ := Lib.hid (RdF.fail (ReadsF.refl hR) 2 (by decide) (r' := Rs.fail 2) rfl)
      have hf : w.frozen? ⟨g, 2, none⟩ = false := by obtain ⟨_, _, h, _⟩ := hR; exact h.frozen 2
      rw [he] at hc
      clear he hR
      go_enter Tryz.func109, Tryz.ntmps109
      go_wp2
      go_ret
      rw [HF.out]
      exact ⟨rfl, HQ.out⟩
    · obtain ⟨m, rfl⟩ := Int.eq_ofNat_of_zero_le (show 0 ≤ n by omega)
      obtain ⟨s, e⟩ := r
      simp only at he
      subst he
      exact refFixed_nat g m s w hR hn
  · have he2 : (r.e != 0) = true := by simpa using he
    have HF := Lib.hid (show rFixed n r = ([], r) by simp [rFixed, he])
    have HR := Lib.hid hR
    clear he hR
    go_enter Tryz.func109, Tryz.ntmps109
    go_wp2
    go_ret
    rw [HF.out]
    exact ⟨rfl, ReadsF.refl HR.out⟩

set_option maxHeartbeats 800000 in
theorem refTextR_any (g : Nat) (most : Int) (r : Rs) (w : World) (hR : RdF w g r) (_hl : r.s.length ≤ 9223372036854775807) :
    Calls Tryz.prog 54 #[.pointer (some ⟨g, 0, none⟩), .int .i64 most] w (GaveF g (rOpaque most r).2 (.string (bs (rOpaque most r).1)) w) := by
  have hu := refU4_any g r w hR
  have hlt : (rU32 r).1 < 4294967296 := by
    unfold rU32 rNum
    split
    · simp
    · split
      · simp
      · have := beVal_lt (r.s.take 4)
        simp only
        have h2 : (r.s.take 4).length ≤ 4 := List.length_take_le _ _
        have h3 := Nat.pow_le_pow_right (n := 256) (by omega) h2
        omega
  have HO := Lib.hid (show rOpaque most r = if (rU32 r).2.e ≠ 0 then ([], (rU32 r).2) else if most < ((rU32 r).1 : Int) then ([], Rs.fail 4) else rPadded (rU32 r).1 (rU32 r).2 from rfl)
  generalize rU32 r = x at *
  obtain ⟨m, r2⟩ := x
  simp only at HO hu hlt
  have HU := Lib.hid hu
  clear hu hR
  go_enter Tryz.func54, Tryz.ntmps54
  go_wp2_with fail
  refine HU.out.mono ?_
  rintro e w1 ⟨rfl, hQ1⟩
  have hc := ReadsF.err hQ1.1
  have HQ1 := Lib.hid hQ1
  have hf : w1.frozen? ⟨g, 2, none⟩ = false := by obtain ⟨_, _, h, _⟩ := hQ1.1; exact h.frozen 2
  clear hQ1 HU
  by_cases he : r2.e = 0
  · rw [he] at hc
    by_cases hm : most < (m : Int)
    · have HF := Lib.hid (show rOpaque most r = ([], Rs.fail 4) by rw [HO.out, if_neg (by simpa using he), if_pos hm])
      have HQ := Lib.hid (RdF.fail HQ1.out 4 (by decide) (r' := Rs.fail 4) rfl)
      clear he
      go_wp2
      go_ret
      rw [HF.out]
      exact ⟨rfl, HQ.out⟩
    · have HF := Lib.hid (show rOpaque most r = rFixed m r2 by
        rw [HO.out, if_neg (by simpa using he), if_neg hm]
        unfold rFixed
        rw [if_neg (by simpa using he), if_neg (by omega)]; rfl)
      clear he
      go_wp2_with fail
      refine (refFixed_any g m r2 _ HQ1.out.1 (by omega)).mono ?_
      rintro e w3 ⟨rfl, hQ⟩
      have HQ := Lib.hid (HQ1.out.trans hQ)
      clear hQ
      go_wp2
      go_ret
      rw [HF.out]
      exact ⟨rfl, HQ.out⟩
  · have he2 : (r2.e != 0) = true := by simpa using he
    have HF := Lib.hid (show rOpaque most r = ([], r2) by rw [HO.out, if_pos he])
    clear he
    go_wp2
    go_ret
    rw [HF.out]
    exact ⟨rfl, HQ1.out⟩

theorem refLeft_any (g : Nat) (r : Rs) (w : World) (hR : RdF w g r) : Calls Tryz.prog 58 #[.pointer (some ⟨g, 0, none⟩)] w fun e w' => e = .returned (.int .i64 (rLeft r)) ∧ Below w.heap.size w w' := by
  obtain ⟨S, a, hB, ha, hS, h0, h1⟩ := hR
  have hc := hB.cell
  have hsz := bs_size S
  have hw1 : IntKind.i64.wrap ((S.length : Int) - (a : Int)) = (S.length : Int) - a := IntWalk.i64_in _ (by omega)
  by_cases he : r.e = 0
  · have HF := Lib.hid (show (rLeft r : Int) = (S.length : Int) - a by simp [rLeft, he, h0 he]; omega)
    rw [he] at hc
    clear he hB h0 h1
    go_enter Tryz.func58, Tryz.ntmps58
    go_wp2
    go_quiet (fail)
    go_wp2
    go_ret
    rw [HF.out]
    exact ⟨rfl, bdN (Below.refl _ _) _⟩
  · have he2 : (r.e != 0) = true := by simpa using he
    have HF := Lib.hid (show rLeft r = 0 by simp [rLeft, he])
    clear he hB h0 h1
    go_enter Tryz.func58, Tryz.ntmps58
    go_wp2
    go_ret
    rw [HF.out]
    exact ⟨rfl, Below.refl _ _⟩
end Go.Proofs.YtfjflkmhhbhceaaGreatDoor
