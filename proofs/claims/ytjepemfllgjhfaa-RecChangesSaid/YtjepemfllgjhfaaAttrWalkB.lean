/-
  Layer 5, walks: what may be set, by the program and by the reference; whether nothing is to be set. No condition.
-/
import Derived.Test.YtjepemfllgjhfaaAttrWalkA
namespace Go.Proofs.Ytjepemfllgjhfaa
open Go.RowKit
attribute [local go_sem ↓] Go.wp_at_zero Go.wp_at_succ

theorem ldOpt {ρ : Operand → Value} {w : World} {dst : Option Tmp} {ty : TypeId} {pos : String} {after : Array Edge} {g : Option (Nat × Bool)} {x : Operand} (h : (rowAt w 2 (ρ x)).isSome = true) :
    (execOp ρ ⟨dst, .load 53 x, ty, pos, after, g⟩).run Try.prog w = .ok (.value (.agg ((rowAt w 2 (ρ x)).getD #[]))) w := ex_load 53 2 Try.underlying53 rfl (by kernel_rfl) h
theorem ldSet {ρ : Operand → Value} {w : World} {dst : Option Tmp} {ty : TypeId} {pos : String} {after : Array Edge} {g : Option (Nat × Bool)} {x : Operand} (h : (rowAt w 10 (ρ x)).isSome = true) :
    (execOp ρ ⟨dst, .load 87 x, ty, pos, after, g⟩).run Try.prog w = .ok (.value (.agg ((rowAt w 10 (ρ x)).getD #[]))) w := ex_load 87 10 Try.underlying87 rfl (by kernel_rfl) h
attribute [local go_sem ↓] ldOpt ldSet

attribute [local go_sem] rowAt_ptr rowOf_drew rowOf_drewN

theorem settRows {w : World} {g : Nat} {s : Sett} (h : Blk w g 87 s.vals) :
    rowOf w g 0 10 = some s.vals.toArray ∧ rowOf w g 0 2 = some s.mode.vals.toArray ∧ rowOf w g 2 2 = some s.uid.vals.toArray ∧ rowOf w g 4 2 = some s.gid.vals.toArray ∧ rowOf w g 6 2 = some s.size.vals.toArray ∧ rowOf w g 8 2 = some s.time.vals.toArray :=
  ⟨h.row 0 10 (by simp [Sett.len]), h.row 0 2 (by simp [Sett.len]), h.row 2 2 (by simp [Sett.len]), h.row 4 2 (by simp [Sett.len]), h.row 6 2 (by simp [Sett.len]), h.row 8 2 (by simp [Sett.len])⟩

set_option maxHeartbeats 1600000 in
theorem set_any (s : Sett) (w : World) :
    Calls Try.prog 97 #[.agg s.vals.toArray] w fun e w' => e = .returned (.bool s.ok) ∧ Below w.heap.size w w' := by
  have hb0 := Blk.new w 87 s.vals
  have hB0 : Below w.heap.size w (w.alloc (.cells s.vals.toArray 87)) := (Below.refl _ _).alloc (Nat.le_refl _) _
  obtain ⟨-, r0, -⟩ := settRows hb0
  go_enter Try.func97, Try.ntmps97
  go_wp2_with fail
  generalize w.alloc (.cells s.vals.toArray 87) = w0 at *
  refine (option_any s.mode 4095 _).mono ?_
  rintro e w1 ⟨rfl, hb⟩
  have hb1 := hb0.stays hb
  have hB1 := below_then hB0 hb
  obtain ⟨-, -, r1, -⟩ := settRows hb1
  clear hb r0 hb0 hB0
  generalize h0 : s.mode.ok 4095 = b0
  cases b0
  · have HS := Lib.hid (show s.ok = false by simp [Sett.ok, h0])
    go_wp2
    go_ret
    exact ⟨ret_bool HS.out.symm, hB1⟩
  have H0 := Lib.hid h0
  clear h0
  go_wp2_with fail
  refine (option_any s.uid 4294967295 _).mono ?_
  rintro e w2 ⟨rfl, hb⟩
  have hb2 := hb1.stays hb
  have hB2 := below_then hB1 hb
  obtain ⟨-, -, -, r2, -⟩ := settRows hb2
  clear hb r1 hb1 hB1
  generalize h1 : s.uid.ok 4294967295 = b1
  cases b1
  · have HS := Lib.hid (show s.ok = false by simp [Sett.ok, h1])
    go_wp2
    go_ret
    exact ⟨ret_bool HS.out.symm, hB2⟩
  have H1 := Lib.hid h1
  clear h1
  go_wp2_with fail
  refine (option_any s.gid 4294967295 _).mono ?_
  rintro e w3 ⟨rfl, hb⟩
  have hb3 := hb2.stays hb
  have hB3 := below_then hB2 hb
  obtain ⟨-, -, -, -, r3, -⟩ := settRows hb3
  clear hb r2 hb2 hB2
  generalize h2 : s.gid.ok 4294967295 = b2
  cases b2
  · have HS := Lib.hid (show s.ok = false by simp [Sett.ok, h2])
    go_wp2
    go_ret
    exact ⟨ret_bool HS.out.symm, hB3⟩
  have H2 := Lib.hid h2
  clear h2
  go_wp2_with fail
  refine (option_any s.size 9223372036854775807 _).mono ?_
  rintro e w4 ⟨rfl, hb⟩
  have hb4 := hb3.stays hb
  have hB4 := below_then hB3 hb
  obtain ⟨-, -, -, -, -, r4⟩ := settRows hb4
  clear hb r3 hb3 hB3
  generalize h3 : s.size.ok 9223372036854775807 = b3
  cases b3
  · have HS := Lib.hid (show s.ok = false by simp [Sett.ok, h3])
    go_wp2
    go_ret
    exact ⟨ret_bool HS.out.symm, hB4⟩
  have H3 := Lib.hid h3
  clear h3
  go_wp2_with fail
  refine (option_any s.time 9223372036854775807 _).mono ?_
  rintro e w5 ⟨rfl, hb⟩
  have hB5 := below_then hB4 hb
  go_wp2
  go_ret
  exact ⟨ret_bool (by simp [Sett.ok, H0.out, H1.out, H2.out, H3.out]), hB5⟩

set_option maxHeartbeats 800000 in
theorem checkSet_any (s : Sett) (w : World) :
    Calls Try.prog 96 #[.agg s.vals.toArray] w fun e w' => e = .returned (.int .i64 (form s.ok)) ∧ Below w.heap.size w w' := by
  have hb0 := Blk.new w 87 s.vals
  have hB0 : Below w.heap.size w (w.alloc (.cells s.vals.toArray 87)) := (Below.refl _ _).alloc (Nat.le_refl _) _
  obtain ⟨r0, -⟩ := settRows hb0
  go_enter Try.func96, Try.ntmps96
  go_wp2_with fail
  refine (set_any s _).mono ?_
  rintro e w1 ⟨rfl, hb⟩
  have hB1 := below_then hB0 hb
  clear hb hb0 r0 hB0
  generalize h : s.ok = b
  have H := Lib.hid h
  clear h
  cases b
  all_goals
    go_wp2
    go_ret
    exact ⟨ret_int (by rw [H.out]; rfl), hB1⟩

end Go.Proofs.Ytjepemfllgjhfaa
