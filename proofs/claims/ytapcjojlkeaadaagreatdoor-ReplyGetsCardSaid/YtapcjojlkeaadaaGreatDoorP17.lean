/-
  Layer 1, walks: a text of so many bytes, and what fills it up, are taken; texts with their length; what is left. Conditions: sizes.
-/
import Derived.Test.YtapcjojlkeaadaaGreatDoorP16
import Derived.Test.YtapcjojlkeaadaaGreatDoorP02
import Derived.Test.YtapcjojlkeaadaaGreatDoorP03
import Derived.Maps.AppendAt
import Derived.Deep.AppendLies
namespace Go.Proofs.YtapcjojlkeaadaaGreatDoor
open Go.RowKit
attribute [local go_sem ↓] Go.wp_at_zero Go.wp_at_succ
attribute [local go_sem] rowAt_ptr rowOf_drew rowOf_drewN rowOf_alloc_past rowOf_new

theorem callPadded1 (args : Array Value) (w : World) : (callFunc 92 args).run Tryz.prog w = .ok (.enter 92 args) w := by kernel_rfl
theorem callPadded2 (args : Array Value) (w : World) : (callFunc 94 args).run Tryz.prog w = .ok (.enter 94 args) w := by kernel_rfl
/-- the first bytes are taken -/
def rTake1 (n : Nat) (r : Rs) : List UInt8 × Rs := if r.e ≠ 0 then ([], r) else if r.s.length < n then ([], Rs.fail 10) else (r.s.take n, ⟨r.s.drop n, 0⟩)
/-- the noughts behind them are taken -/
def rTake2 (p : Nat) (r : Rs) : Rs := if r.e ≠ 0 then r else if r.s.length < p then Rs.fail 10 else if (r.s.take p).all (· == 0) then ⟨r.s.drop p, 0⟩ else Rs.fail 11
theorem rPadded_eq (n : Nat) (r : Rs) : rPadded n r = (if (rTake2 (padn n) (rTake1 n r).2).e ≠ 0 then [] else (rTake1 n r).1, rTake2 (padn n) (rTake1 n r).2) := by
  unfold rPadded rTake1 rTake2
  by_cases h1 : r.e ≠ 0
  · simp [h1]
  · rw [if_neg h1, if_neg h1]
    by_cases h2 : r.s.length < n
    · simp [h2, Rs.fail]
    · rw [if_neg h2, if_neg h2]
      simp only [ne_eq, not_true_eq_false, if_false]
      by_cases h3 : (r.s.drop n).length < padn n
      · rw [if_pos h3, if_pos h3]; simp [Rs.fail]
      · rw [if_neg h3, if_neg h3]
        by_cases h4 : ((r.s.drop n).take (padn n)).all (· == 0) = true
        · rw [if_pos h4, if_pos h4]; simp
        · rw [if_neg h4, if_neg h4]; simp [Rs.fail]

theorem padded1_any (b : Nat) (s old : List UInt8) (w : World) (hB : Blk w b 9 [.string (bs old)]) :
    Calls Tryz.prog 92 #[.string (bs s), .pointer (some ⟨b, 0, none⟩)] w fun e w' => e = .returned (.tuple #[]) ∧ (Blk w' b 9 [.string (bs s)] ∧ Touch (fun k => k = b) w w') := by
  have hc := hB.cell
  have hf := hB.frozen
  have HS := Lib.hid (hB.set_ 0 (.string (bs s)))
  have HT := Lib.hid ((Touch.refl (fun k => k = b) w).setCell_ (g := b) (o := 0) (.inl rfl) (.string (bs s)))
  clear hB
  go_enter Tryz.func92, Tryz.ntmps92
  go_wp2
  go_end0
  exact ⟨rfl, HS.out, HT.out⟩
theorem padded2_any (h g : Nat) (s : List UInt8) (r : Rs) (w : World) (hH : Blk w h 48 [.pointer (some ⟨g, 0, none⟩)]) (hR : Rd w g r) (hl : s.length ≤ 9223372036854775807) :
    Calls Tryz.prog 94 #[.string (bs s), .pointer (some ⟨h, 0, none⟩)] w fun e w' => e = .returned (.tuple #[]) ∧ Reads g (if s.all (· == 0) = true then r else Rs.fail 11) w w' := by
  go_enter Tryz.func94, Tryz.ntmps94
  go_wp2_with fail
  refine (trim_any s _ hl).mono ?_
  rintro e w1 ⟨m, rfl, hm, hb⟩
  have hH1 := hH.stays hb
  have hR1 := hR.stays hb
  have hc := hH1.cell
  have HB := Lib.hid hb
  clear hH hR hb
  cases m with
  | nil =>
    have HA := Lib.hid (hm.1 rfl)
    clear hm
    go_wp2
    go_end0
    exact ⟨rfl, by first | exact Reads.behind HB.out (Reads.refl hR1) | (rw [if_pos HA.out]; exact Reads.behind HB.out (Reads.refl hR1))⟩
  | cons a m =>
    have HA := Lib.hid (fun e => by simpa using hm.2 e : ¬ s.all (· == 0) = true)
    clear hm
    go_wp2_with fail
    refine (rFail_any g r 11 _ hR1).mono ?_
    rintro e w2 ⟨rfl, hQ⟩
    have HQ := Lib.hid (Reads.behind HB.out hQ)
    clear hQ
    go_wp2
    go_end0
    exact ⟨rfl, by first | exact HQ.out | (rw [if_neg HA.out]; exact HQ.out)⟩

theorem padTake1_any (g b n : Nat) (r : Rs) (w : World) (hR : Rd w g r) (hB : Blk w b 9 [.string (bs [])]) (hl : r.s.length ≤ 9223372036854775807) :
    Calls Tryz.prog 65 #[.pointer (some ⟨g, 0, none⟩), .int .i64 n, .func (.func 92) #[] #[.pointer (some ⟨b, 0, none⟩)]] w fun e w' =>
      e = .returned (.tuple #[]) ∧ Rd w' g (rTake1 n r).2 ∧ Blk w' b 9 [.string (bs (rTake1 n r).1)] ∧ Touch (fun k => k = g ∨ k = b) w w' := by
  have hne : b ≠ g := Blk.ne_ hB hR.1 (by decide)
  by_cases he : r.e ≠ 0
  · rw [show rTake1 n r = ([], r) by simp [rTake1, he]]
    refine (take_err g r n _ w hR he).mono ?_
    rintro e w1 ⟨rfl, rfl⟩
    exact ⟨rfl, hR, hB, Touch.refl _ _⟩
  · obtain ⟨s, e⟩ := r
    simp only [ne_eq, Decidable.not_not] at he hl
    subst he
    by_cases hs : s.length < n
    · rw [show rTake1 n ⟨s, 0⟩ = ([], Rs.fail 10) by simp [rTake1, hs]]
      refine (take_short g s n _ w hR hs).mono ?_
      rintro e w1 ⟨rfl, hQ⟩
      exact ⟨rfl, hQ.1, hQ.keeps hB hne, hQ.2.mono fun _ _ h => .inl h⟩
    · rw [show rTake1 n ⟨s, 0⟩ = (s.take n, ⟨s.drop n, 0⟩) by simp [rTake1, hs]]
      refine (take_ok g s n 92 #[.pointer (some ⟨b, 0, none⟩)] w hR (by omega) hl callPadded1 (fun w1 hQ => padded1_any b (s.take n) [] w1 (hQ.keeps hB hne))).mono ?_
      rintro e w2 ⟨w1, rfl, hQ, hb2, hT2⟩
      exact ⟨rfl, hQ.1.touch hT2 (fun h => hne h.symm), hb2, (hQ.2.mono fun _ _ h => .inl h).then_ (hT2.mono fun _ _ h => .inr h)⟩
theorem padTake2_any (g h n : Nat) (r : Rs) (w : World) (hR : Rd w g r) (hH : Blk w h 48 [.pointer (some ⟨g, 0, none⟩)]) (hl : r.s.length ≤ 9223372036854775807) :
    Calls Tryz.prog 65 #[.pointer (some ⟨g, 0, none⟩), .int .i64 n, .func (.func 94) #[] #[.pointer (some ⟨h, 0, none⟩)]] w fun e w' =>
      e = .returned (.tuple #[]) ∧ Reads g (rTake2 n r) w w' := by
  have hne : h ≠ g := Blk.ne_ hH hR.1 (by decide)
  by_cases he : r.e ≠ 0
  · rw [show rTake2 n r = r by simp [rTake2, he]]
    refine (take_err g r n _ w hR he).mono ?_
    rintro e w1 ⟨rfl, rfl⟩
    exact ⟨rfl, Reads.refl hR⟩
  · obtain ⟨s, e⟩ := r
    simp only [ne_eq, Decidable.not_not] at he hl
    subst he
    by_cases hs : s.length < n
    · rw [show rTake2 n ⟨s, 0⟩ = Rs.fail 10 by simp [rTake2, hs]]
      exact take_short g s n _ w hR hs
    · rw [show rTake2 n ⟨s, 0⟩ = if (s.take n).all (· == 0) = true then ⟨s.drop n, 0⟩ else Rs.fail 11 by simp [rTake2, hs]]
      refine (take_ok g s n 94 #[.pointer (some ⟨h, 0, none⟩)] w hR (by omega) hl callPadded2 (fun w1 hQ => padded2_any h g (s.take n) ⟨s.drop n, 0⟩ w1 (hQ.keeps hH hne) hQ.1 (by rw [List.length_take]; omega))).mono ?_
      rintro e w2 ⟨w1, rfl, hQ, hQ2⟩
      exact ⟨rfl, hQ.trans hQ2⟩
theorem rTake1_len {n : Nat} {r : Rs} (_h : r.s.length ≤ 9223372036854775807) : (rTake1 n r).2.s.length ≤ r.s.length := by
  unfold rTake1; split
  · exact Nat.le_refl _
  · split
    · simp [Rs.fail]
    · simp
theorem rTake2_len {n : Nat} {r : Rs} (_h : r.s.length ≤ 9223372036854775807) : (rTake2 n r).s.length ≤ r.s.length := by
  unfold rTake2; split
  · exact Nat.le_refl _
  · split
    · simp [Rs.fail]
    · split
      · simp
      · simp [Rs.fail]
theorem rPadded_len {n : Nat} {r : Rs} (h : r.s.length ≤ 9223372036854775807) : (rPadded n r).2.s.length ≤ r.s.length := by
  rw [rPadded_eq]; exact Nat.le_trans (rTake2_len (Nat.le_trans (rTake1_len h) h)) (rTake1_len h)

set_option maxRecDepth 20000 in
set_option maxHeartbeats 800000 in
theorem padded_any (g n : Nat) (r : Rs) (w : World) (hR : Rd w g r) (hn : (n : Int) ≤ 9223372036854775807) (hl : r.s.length ≤ 9223372036854775807) :
    Calls Tryz.prog 68 #[.pointer (some ⟨g, 0, none⟩), .int .i64 n] w (Gave g (rPadded n r).2 (.string (bs (rPadded n r).1)) w) := by
  have hH0 := Blk.new w 48 [.pointer (some ⟨g, 0, none⟩)]
  have hB0 := Blk.new (w.alloc (.cells #[.pointer (some ⟨g, 0, none⟩)] 48)) 9 [.string (bs [])]
  have hH1 := hH0.alloc (.cells #[.string (bs [])] 9)
  have hL0 : Below w.heap.size w (w.alloc (.cells #[.pointer (some ⟨g, 0, none⟩)] 48)) := (Below.refl _ _).alloc (Nat.le_refl _) _
  have hL1 := hL0.alloc hL0.size (.cells #[.string (bs [])] 9)
  have hs1 : (w.alloc (.cells #[.pointer (some ⟨g, 0, none⟩)] 48)).heap.size = w.heap.size + 1 := by simp
  rw [hs1] at hB0
  have hR1 := hR.stays hL1
  have hlt := hR.lt
  have hP := Lib.hid (rPadded_eq n r)
  have hc0 := hH1.cell
  clear hH0 hL0 hs1 hR
  go_enter Tryz.func68, Tryz.ntmps68
  go_wp2_with fail
  refine (padTake1_any g (w.heap.size + 1) n r _ hR1 hB0 hl).mono ?_
  rintro e w1 ⟨rfl, hR2, hB2, hT2⟩
  have hH2 := hH1.touch hT2 (by intro h; omega)
  have hc2 := hH2.cell
  have hT0 : Touch (fun k => k = g) w w1 := (Touch.of_below hL1 _).trans hT2 (fun i hi h => by omega)
  have hl2 := Nat.le_trans (rTake1_len (n := n) hl) hl
  have HT0 := Lib.hid hT0
  clear hT0 hT2 hc0 hH1 hB0 hR1
  generalize rTake1 n r = a at *
  have hpad := padn_lt n
  have hpd := fun W => pad_any n W hn
  simp only [Int.toNat_natCast] at hpd
  have HPD := Lib.hid hpd
  clear hpd
  go_wp2_with fail
  go_region_held3 (fun W => W.cell? ⟨w.heap.size, 0, none⟩ = some (.pointer (some ⟨g, 0, none⟩))) (first | exact hc2 0 | assumption) (first
    | (go_at_call 93; refine (HPD.out _).mono ?_; rintro e w' ⟨rfl, rfl⟩)
    | (go_at_call 65; refine (padTake2_any g w.heap.size (padn n) a.2 _ (show Rd w1.drew g a.2 from hR2) (show Blk w1.drew _ _ _ from hH2) hl2).mono ?_; rintro e w3 ⟨rfl, hQ⟩; have hH3 := hQ.keeps (show Blk w1.drew _ _ _ from hH2) (by omega); have hc3 := hH3.cell 0))
  all_goals
    have hT3 := HT0.out.drew.then_ hQ.2
    have hB3 := hQ.keeps (show Blk w1.drew _ _ _ from hB2) (by omega)
    have hR3 := hQ.1
    have hcB := hB3.cell
    have hcH := hH3.cell
    have HT := Lib.hid hT3
    clear hT3 hQ hB2 hH2 hR2 hc2 hc3 hH3 hB3
    generalize rTake2 (padn n) a.2 = b at *
    have HR := Lib.hid hR3
    go_wp2_with fail
    refine (rErr_any g b _ hR3).mono ?_
    rintro e w4 ⟨rfl, rfl⟩
    by_cases hb : b.e = 0
    · have hb2 : (b.e != 0) = false := by simpa using hb
      have HF := Lib.hid (show rPadded n r = (a.1, b) by rw [hP.out, if_neg (by simpa using hb)])
      clear hb hR3
      go_wp2
      go_ret
      rw [HF.out]
      exact ⟨rfl, HR.out, HT.out⟩
    · have hb2 : (b.e != 0) = true := by simpa using hb
      have HF := Lib.hid (show rPadded n r = ([], b) by rw [hP.out, if_pos hb])
      clear hb hR3
      go_wp2
      go_ret
      rw [HF.out]
      exact ⟨rfl, HR.out, HT.out⟩

theorem rU32_lt {r : Rs} (h : r.s.length ≤ 9223372036854775807) : (rU32 r).1 < 4294967296 := (rNum_lt (k := 4) h).1

set_option maxHeartbeats 800000 in
theorem rOpaque_any (g : Nat) (most : Int) (r : Rs) (w : World) (hR : Rd w g r) (hl : r.s.length ≤ 9223372036854775807) :
    Calls Tryz.prog 35 #[.pointer (some ⟨g, 0, none⟩), .int .i64 most] w (Gave g (rOpaque most r).2 (.string (bs (rOpaque most r).1)) w) := by
  have hl2 := Nat.le_trans (rU32_len hl) hl
  have hlt := rU32_lt hl
  have hu := rU32_any g r w hR hl
  have HO := Lib.hid (show rOpaque most r = if (rU32 r).2.e ≠ 0 then ([], (rU32 r).2) else if most < ((rU32 r).1 : Int) then ([], Rs.fail 4) else rPadded (rU32 r).1 (rU32 r).2 from rfl)
  generalize rU32 r = x at *
  obtain ⟨m, r2⟩ := x
  simp only at HO hl2 hlt hu
  have HU := Lib.hid hu
  clear hu hR
  go_enter Tryz.func35, Tryz.ntmps35
  go_wp2_with fail
  refine HU.out.mono ?_
  rintro e w1 ⟨rfl, hQ1⟩
  have HQ1 := Lib.hid hQ1
  clear hQ1 HU
  go_wp2_with fail
  refine (rErr_any g r2 _ HQ1.out.1).mono ?_
  rintro e w2 ⟨rfl, rfl⟩
  by_cases he : r2.e = 0
  · have he2 : (r2.e != 0) = false := by simpa using he
    by_cases hm : most < (m : Int)
    · have HF := Lib.hid (show rOpaque most r = ([], Rs.fail 4) by rw [HO.out, if_neg (by simpa using he), if_pos hm])
      clear he
      go_wp2_with fail
      refine (rFail_any g r2 4 _ HQ1.out.1).mono ?_
      rintro e w3 ⟨rfl, hQ⟩
      have HQ := Lib.hid (HQ1.out.trans hQ)
      clear hQ
      go_wp2
      go_ret
      rw [HF.out]
      exact ⟨rfl, HQ.out⟩
    · have HF := Lib.hid (show rOpaque most r = rPadded m r2 by rw [HO.out, if_neg (by simpa using he), if_neg hm])
      clear he
      go_wp2_with fail
      refine (padded_any g m r2 _ HQ1.out.1 (by omega) hl2).mono ?_
      rintro e w3 ⟨rfl, hQ⟩
      have HQ := Lib.hid (HQ1.out.trans hQ)
      clear hQ
      go_wp2
      go_ret
      rw [HF.out]
      exact ⟨rfl, HQ.out⟩
  · have he2 : (r2.e != 0) = true := by simpa using he
    have HF := Lib.hid (show rOpaque most r = ([], r2) by rw [HO.out, if_pos he])
    clear he
    go_wp2
    go_ret
    rw [HF.out]
    exact ⟨rfl, HQ1.out⟩

theorem rDone_any (g : Nat) (r : Rs) (w : World) (hR : Rd w g r) : Calls Tryz.prog 18 #[.pointer (some ⟨g, 0, none⟩)] w fun e w' => e = .returned (.int .i64 (rDone r)) ∧ w = w' := by
  have hc := hR.1.cell
  have hsz := bs_size r.s
  by_cases he : r.e = 0
  · have he2 : (r.e != 0) = false := by simpa using he
    have HF := Lib.hid (show rDone r = if 0 < r.s.length then 12 else 0 by simp [rDone, he])
    have HR := Lib.hid hR
    clear he hR
    by_cases hs : 0 < r.s.length
    all_goals
      go_enter Tryz.func18, Tryz.ntmps18
      go_wp2_with fail
      refine (rErr_any g r _ HR.out).mono ?_
      rintro e w1 ⟨rfl, rfl⟩
      go_wp2
      go_ret
      rw [HF.out]
      first
        | (rw [if_pos hs]; exact ⟨rfl, rfl⟩)
        | (rw [if_neg hs]; exact ⟨rfl, rfl⟩)
  · have he2 : (r.e != 0) = true := by simpa using he
    have HF := Lib.hid (show rDone r = r.e by simp [rDone, he])
    have HR := Lib.hid hR
    clear he hR
    go_enter Tryz.func18, Tryz.ntmps18
    go_wp2_with fail
    refine (rErr_any g r _ HR.out).mono ?_
    rintro e w1 ⟨rfl, rfl⟩
    go_wp2
    go_ret
    rw [HF.out]
    exact ⟨rfl, rfl⟩
/-- a new reader -/
theorem readNew_any (s : List UInt8) (w : World) : Calls Tryz.prog 13 #[.string (bs s)] w fun e w' => e = .returned (.pointer (some ⟨w.heap.size, 0, none⟩)) ∧ Rd w' w.heap.size ⟨s, 0⟩ ∧ Below w.heap.size w w' := by
  have hB := Blk.new w 77 [.string (bs s), .int .i64 0]
  have hb : Below w.heap.size w (w.alloc (.cells #[.string (bs s), .int .i64 0] 77)) := (Below.refl _ _).alloc (Nat.le_refl _) _
  have HB := Lib.hid hB
  go_enter Tryz.func13, Tryz.ntmps13
  go_wp2
  go_ret
  exact ⟨rfl, ⟨HB.out, fun h => absurd rfl h⟩, hb⟩
end Go.Proofs.YtapcjojlkeaadaaGreatDoor

/-
  A row of structs (or of other elements of some cells) of the call's own: how one is put behind it, and how it is read. Conditions: sizes.
-/
namespace Go.Proofs.YtapcjojlkeaadaaGreatDoor
open Go.RowKit

/-- v is a slice of these rows, each of sz cells, in blocks from B on -/
def RowS (w : World) (B : Nat) (e : TypeId) (sz : Nat) (v : Value) (rows : List (List Value)) : Prop :=
  (∀ r ∈ rows, r.length = sz) ∧ w.ownsRow B e sz v rows.length rows.flatten
section
variable {w w' : World} {B : Nat} {e : TypeId} {sz : Nat} {v : Value} {rows : List (List Value)}
theorem RowS.none_ : RowS w B e sz (.slice none 0 0) [] := ⟨by simp, World.ownsRow_nil _ _ _ _⟩
theorem RowS.at_ (h : RowS w B e sz v rows) : ∃ A c, v = .slice A rows.length c ∧ At w sz A rows := by
  obtain ⟨hl, hown⟩ := h
  have hlt := hown.lt
  have hcells := fun g hg => hown.cells (g := g) hg
  rcases hown.2 with ⟨rfl, h0⟩ | ⟨g, cap, cur, rfl, _⟩
  · refine ⟨none, 0, by rw [h0], ?_⟩
    rw [List.eq_nil_of_length_eq_zero h0]
    exact At.nil
  · refine ⟨_, _, rfl, fun i r hr => ⟨g, 0, rfl, (hlt g rfl).2, fun j u hu => ?_⟩⟩
    have := hcells g rfl (i * sz + j) u (flat_get rows hl i r hr j u hu)
    rw [Addr.add_mid, ← Nat.add_assoc] at this
    exact this
theorem RowS.stays (h : RowS w B e sz v rows) (hb : Below w.heap.size w w') : RowS w' B e sz v rows :=
  ⟨h.1, ownsRow_touch h.2 (Touch.of_below hb (fun _ => False)) fun _ _ hf => hf⟩
theorem RowS.touch {F : Nat → Prop} (h : RowS w B e sz v rows) (ht : Touch F w w') (hn : ∀ k, v.ownBlock = some k → ¬ F k) : RowS w' B e sz v rows :=
  ⟨h.1, ownsRow_touch h.2 ht hn⟩
theorem RowS.lt (h : RowS w B e sz v rows) : ∀ k, v.ownBlock = some k → B ≤ k ∧ k < w.heap.size := h.2.lt
theorem RowS.base {C : Nat} (h : RowS w B e sz v rows) (hC : C ≤ B) : RowS w C e sz v rows := ⟨h.1, h.2.1, by
  rcases h.2.2 with h | ⟨g, cap, cur, hv, hb, hr⟩
  · exact .inl h
  · exact .inr ⟨g, cap, cur, hv, Nat.le_trans hC hb, hr⟩⟩
theorem RowS.alloc (h : RowS w B e sz v rows) (o : Obj) : RowS (w.alloc o) B e sz v rows := h.stays ((Below.refl _ _).alloc (Nat.le_refl _) o)

variable {P : Program}
/-- 'append(l, x)': the one element lies in a new row -/
theorem RowS.append (t ty : TypeId) (i : TypeInfo) {z : Value} {bytes : Nat} (ht : P.underlying t = some (.slice e)) (hi : P.info? e = some i) (hz : i.zero = some z) (hsize : i.size = sz) (hby : i.bytes = bytes)
    (hzs : z.cells.size = sz) (h0 : 0 < sz) (hb : bytes ≤ 4096) (h : RowS w B e sz v rows) (hB : B ≤ w.heap.size) (r : List Value) (hr : r.length = sz) (h1 : ∀ u ∈ r, u.oneCell' = true) (hl : rows.length ≤ 1000000000) :
    ∃ v' w', (Builtin.append_ #[t, t] ty #[v, .slice (some ⟨w.heap.size, 0, none⟩) 1 1]).run P (w.alloc (.cells r.toArray e)) = .ok v' w' ∧
      (RowS w' B e sz v' (rows ++ [r]) ∧ ∀ a, Below B a w → Below B a w') := by
  have hone : Blk (w.alloc (.cells r.toArray e)) w.heap.size e r := Blk.new w e r
  have hcell : ∀ j u, r[j]? = some u → (w.alloc (.cells r.toArray e)).cell? ((⟨w.heap.size, 0, none⟩ : Addr).add j) = some u := fun j u hu => by
    rw [Addr.add_mid, Nat.zero_add, hone.cell, hu]
  obtain ⟨v', w', hrun, hown, hgrow, _, hat⟩ := run_append_own_at (P := P) (w := w.alloc (.cells r.toArray e)) B t ty e i z sz bytes ht hi hz hsize hby hzs h0 v rows.length rows.flatten (h.2.alloc _) ⟨w.heap.size, 0, none⟩ 1 1 r
    (by simpa using hr) hcell h1 (by unfold maxLen; omega) (Nat.le_trans (Nat.mul_le_mul (show rows.length + 1 ≤ 1000000001 by omega) hb) (by omega)) (by simp; omega)
  refine ⟨v', w', hrun, ⟨fun q hq => ?_, ?_⟩, fun a ha => ?_⟩
  · rcases List.mem_append.1 hq with hq | hq
    · exact h.1 q hq
    · simp at hq; subst hq; exact hr
  · rw [List.length_append, List.flatten_append]
    simpa using hown
  · exact (ha.alloc hB _).grown hgrow (by simp; omega) fun k hk => (h.2.lt k hk).1
end
end Go.Proofs.YtapcjojlkeaadaaGreatDoor
