/-
  Layer 9, walks: the program's reader of numbers, which gives up by a panic: next, must, rest. Condition: texts of Go's length.
-/
import Derived.Test.YtlblenojhfeboaaDoorRpcWalkC
import Derived.Test.YtlblenojhfeboaaDoorXdrReadD
namespace Go.Proofs.YtlblenojhfeboaaDoor
open Go.RowKit
attribute [local go_sem ↓] Go.wp_at_zero Go.wp_at_succ
attribute [local go_sem] rowAt_ptr rowOf_drew rowOf_drewN rowOf_alloc_past rowOf_new

/-- what the program panics with when something is missing -/
def missV : List PanicEntry := [{ v := .iface 72 (.agg #[.int .i64 14]), recovered := false }]
/-- the number at the beginning of a text -/
def wd (s : List UInt8) : Nat := beVal (s.take 4)
theorem wd_lt (s : List UInt8) : wd s < 4294967296 := by
  have := beVal_lt (s.take 4)
  unfold wd
  have h : (s.take 4).length ≤ 4 := by simp; omega
  calc beVal (s.take 4) < 256 ^ (s.take 4).length := this
    _ ≤ 256 ^ 4 := Nat.pow_le_pow_right (by omega) h
theorem rU32_yes {s : List UInt8} (h : 4 ≤ s.length) : rU32 ⟨s, 0⟩ = (wd s, ⟨s.drop 4, 0⟩) := rNum_ok h
theorem rU32_no {s : List UInt8} (h : s.length < 4) : rU32 ⟨s, 0⟩ = (0, Rs.fail 10) := rNum_short h

/-- what holds of every world that a region comes through that draws its order and reads by reader g -/
abbrev StR (g : Nat) (w W : World) : Prop := (∀ b o, b < w.heap.size → b ≠ g → W.cell? ⟨b, o, none⟩ = w.cell? ⟨b, o, none⟩) ∧ (∀ b o n, b < w.heap.size → b ≠ g → rowOf W b o n = rowOf w b o n) ∧ Touch (fun k => k = g) w W
theorem StR.of {g : Nat} {w W : World} (h : Touch (fun k => k = g) w W) : StR g w W := ⟨fun _ _ hb hn => h.cell hb hn, fun _ _ _ hb hn => h.row hb hn _ _, h⟩
theorem StR.start {g : Nat} {w : World} : StR g w w.drew := StR.of (Touch.refl _ _).drew
theorem StR.call {g : Nat} {w W W' : World} (h : StR g w W) (hb : Touch (fun k => k = g) W W') : StR g w W' := StR.of (h.2.2.then_ hb)
theorem StR.alloc {g : Nat} {w W : World} (h : StR g w W) (o : Obj) : StR g w (W.alloc o) := StR.of (h.2.2.alloc o)
theorem next_yes (g : Nat) (s : List UInt8) (w : World) (hR : Rd w g ⟨s, 0⟩) (h : 4 ≤ s.length) (hl : s.length ≤ 9223372036854775807) :
    Calls Tryd.prog 50 #[.agg #[.pointer (some ⟨g, 0, none⟩)]] w fun e w' => e = .returned (.int .i64 (wd s)) ∧ Reads g ⟨s.drop 4, 0⟩ w w' := by
  have hB : Below w.heap.size w (w.alloc (.cells #[.pointer (some ⟨g, 0, none⟩)] 75)) := (Below.refl _ _).alloc (Nat.le_refl _) _
  have K := rU32_any g ⟨s, 0⟩ (w.alloc (.cells #[.pointer (some ⟨g, 0, none⟩)] 75)) (hR.stays hB) hl
  rw [rU32_yes h] at K
  have HB := Lib.hid hB
  have K := Lib.hid K
  have hlt := hR.lt
  clear hR hB
  go_enter Tryd.func50, Tryd.ntmps50
  go_wp2_with fail
  refine K.out.mono ?_
  rintro e w1 ⟨rfl, hQ⟩
  have hc1 : w1.cell? ⟨w.heap.size, 0, none⟩ = some (.pointer (some ⟨g, 0, none⟩)) := (hQ.2.cell (p := ⟨w.heap.size, 0, none⟩) (by simp) (by simp only; omega)).trans (by simp [go_sem])
  have HQ := Lib.hid hQ
  clear hQ
  go_wp2_with fail
  refine (rErr_any g ⟨s.drop 4, 0⟩ _ HQ.out.1).mono ?_
  rintro e w2 ⟨rfl, rfl⟩
  go_wp2
  go_ret
  exact ⟨rfl, Reads.behind HB.out HQ.out⟩
theorem next_no (g : Nat) (s : List UInt8) (w : World) (hR : Rd w g ⟨s, 0⟩) (h : s.length < 4) (hl : s.length ≤ 9223372036854775807) :
    Calls Tryd.prog 50 #[.agg #[.pointer (some ⟨g, 0, none⟩)]] w fun e w' => e = .panicked missV ∧ Touch (fun k => k = g) w w' := by
  have hB : Below w.heap.size w (w.alloc (.cells #[.pointer (some ⟨g, 0, none⟩)] 75)) := (Below.refl _ _).alloc (Nat.le_refl _) _
  have K := rU32_any g ⟨s, 0⟩ (w.alloc (.cells #[.pointer (some ⟨g, 0, none⟩)] 75)) (hR.stays hB) hl
  rw [rU32_no h] at K
  have HB := Lib.hid hB
  have K := Lib.hid K
  have hlt := hR.lt
  clear hR hB
  go_enter Tryd.func50, Tryd.ntmps50
  go_wp2_with fail
  refine K.out.mono ?_
  rintro e w1 ⟨rfl, hQ⟩
  have hc1 : w1.cell? ⟨w.heap.size, 0, none⟩ = some (.pointer (some ⟨g, 0, none⟩)) := (hQ.2.cell (p := ⟨w.heap.size, 0, none⟩) (by simp) (by simp only; omega)).trans (by simp [go_sem])
  have HQ := Lib.hid hQ
  clear hQ
  go_wp2_with fail
  refine (rErr_any g (Rs.fail 10) _ HQ.out.1).mono ?_
  rintro e w2 ⟨rfl, rfl⟩
  simp only [Rs.fail]
  go_wp2
  exact ⟨rfl, rfl, (Reads.behind HB.out HQ.out).2⟩

theorem must_any (b : Bool) (w : World) : Calls Tryd.prog 68 #[.bool b] w fun e w' => (if b then e = .returned (.tuple #[]) else e = .panicked missV) ∧ w = w' := by
  cases b
  · go_enter Tryd.func68, Tryd.ntmps68
    go_wp2
    exact ⟨rfl, rfl, rfl⟩
  · go_enter Tryd.func68, Tryd.ntmps68
    go_wp2
    go_end0
    exact ⟨rfl, rfl⟩

theorem rFixed_all {s : List UInt8} (h : s.length % 4 = 0) : rFixed (s.length : Int) ⟨s, 0⟩ = (s, ⟨[], 0⟩) := by
  have hp : padn s.length = 0 := by unfold padn; omega
  have h0 : ¬ (s.length : Int) < 0 := by omega
  simp [rFixed, rPadded, hp, h0]
theorem rest_any (g : Nat) (s : List UInt8) (w : World) (hR : Rd w g ⟨s, 0⟩) (h : s.length % 4 = 0) (hl : s.length ≤ 9223372036854775807) :
    Calls Tryd.prog 70 #[.agg #[.pointer (some ⟨g, 0, none⟩)]] w fun e w' => e = .returned (.string (bs s)) ∧ Touch (fun k => k = g) w w' := by
  have hB : Below w.heap.size w (w.alloc (.cells #[.pointer (some ⟨g, 0, none⟩)] 75)) := (Below.refl _ _).alloc (Nat.le_refl _) _
  have K0 := rLeft_any g ⟨s, 0⟩ (w.alloc (.cells #[.pointer (some ⟨g, 0, none⟩)] 75)).drew (hR.stays hB.drew)
  have K := rFixed_any g (s.length : Int) ⟨s, 0⟩ (w.alloc (.cells #[.pointer (some ⟨g, 0, none⟩)] 75)).drew (hR.stays hB.drew) (by omega) hl
  rw [rFixed_all h] at K
  have HB := Lib.hid hB.drew
  have K0 := Lib.hid K0
  have K := Lib.hid K
  have hlt0 := hR.lt
  have hne : ¬ w.heap.size = g := by omega
  clear hR hB
  go_enter Tryd.func70, Tryd.ntmps70
  have hlt : g < (w.alloc (.cells #[.pointer (some ⟨g, 0, none⟩)] 75)).heap.size := by simp; omega
  go_wp2_with fail
  go_region_held3 (fun W => StR g (w.alloc (.cells #[.pointer (some ⟨g, 0, none⟩)] 75)) W) (first | exact StR.start | assumption | exact StR.call StR.start hQ.2) (first
    | (go_at_call 69; refine K0.out.mono ?_; rintro e w1 ⟨rfl, rfl⟩)
    | (go_at_call 80; refine K.out.mono ?_; rintro e w2 ⟨rfl, hQ⟩))
  all_goals
    have HQ := Lib.hid hQ
    clear hQ
    go_wp2
    go_ret
    exact ⟨rfl, (Reads.behind HB.out HQ.out).2⟩
end Go.Proofs.YtlblenojhfeboaaDoor
