/-
  Layer 1, walks: the law XdrReads. No condition but machine numbers.
-/
import Derived.Test.YtolcecpmiepggaaDoorXdrLawA
namespace Go.Proofs.YtolcecpmiepggaaDoor
open Go.RowKit
attribute [local go_sem ↓] Go.wp_at_zero Go.wp_at_succ
attribute [local go_sem] rowAt_ptr rowOf_drew rowOf_drewN rowOf_alloc_past rowOf_new
attribute [local go_sem ↓] ldThing

theorem guardThing : Tryd.prog.eqGuardType Tryd.prog.depth 43 = false := by kernel_rfl
theorem leafsThing : leafs Tryd.prog 8 43 = some [.i .i64, .i .i64, .b, .s] := by kernel_rfl
theorem Thing.inj {x y : Thing} (h : x.vals = y.vals) : x = y := by
  obtain ⟨_, _, _, _⟩ := x
  obtain ⟨_, _, _, _⟩ := y
  simp only [Thing.vals, List.cons.injEq, Value.int.injEq, Value.bool.injEq, Value.string.injEq, true_and, and_true] at h
  obtain ⟨h0, h1, h2, h3⟩ := h
  have h3 := bs_inj h3
  subst_vars
  rfl
theorem neqThing_same (x : Thing) (w : World) : (binOp .neq 43 (.agg x.vals.toArray) (.agg x.vals.toArray)).run Tryd.prog w = .ok (.bool false) w := neq_same leafsThing (by kernel_rfl) w _ _ (by rfl) rfl
attribute [local go_sem ↓] neqThing_same

attribute [local go_sem] guardThing

/-- a load that a drawn region does not take first -/
def laterLoad (T : TypeId) (x : Operand) : Op := Op.load T x
theorem laterLoad_eq (T : TypeId) (x : Operand) : Op.load T x = laterLoad T x := rfl
attribute [local go_sem] laterLoad

theorem RdF.new (w : World) (s : List UInt8) (h : s.length ≤ 1000000000000000000) : RdF (w.alloc (.cells #[.string (bs s), .int .i64 0, .int .i64 0] 53)) w.heap.size ⟨s, 0⟩ :=
  ⟨s, 0, Blk.new _ _ _, Nat.zero_le _, h, fun _ => rfl, fun h => absurd rfl h⟩

set_option maxRecDepth 20000 in
set_option maxHeartbeats 3200000 in
theorem xdrReads_any (s : List UInt8) (A : Option Addr) (c : Nat) (ts : List Thing) (w : World) (hs : s.length ≤ maxLen) (hl : ts.length ≤ 9223372036854775807) (hd : ∀ t ∈ ts, t.good) (hA : At w 4 A (ts.map Thing.vals)) :
    Calls Tryd.prog 8 #[.string (bs s), .slice A ts.length c] w fun e w' => e = .returned (.bool true) ∧ Below w.heap.size w w' := by
  have hsz := bs_size s
  unfold maxLen at hs
  by_cases h3 : 300 < s.length
  · go_enter Tryd.func8, Tryd.ntmps8
    go_wp2_with fail
    refine (xknown_any _).mono ?_
    rintro e w2 ⟨rfl, hb⟩
    go_wp2
    go_ret
    exact ⟨rfl, hb⟩
  have h3' : ¬ (300 : Int) < (s.length : Int) := by omega
  go_enter Tryd.func8, Tryd.ntmps8
  go_wp2_with fail
  refine (xlarge_any A c ts w hl (fun t ht => (hd t ht).2.2) hA).mono ?_
  rintro e w1 ⟨he, rfl⟩
  cases ho : over long 40 ts
  case true =>
    rw [ho] at he
    subst he
    go_wp2_with fail
    refine (xknown_any _).mono ?_
    rintro e w2 ⟨rfl, hb⟩
    go_wp2
    go_ret
    exact ⟨rfl, hb⟩
  case false =>
    rw [ho] at he
    subst he
    go_wp2_with fail
    refine (readNew_any s _).mono ?_
    rintro e w1 ⟨rfl, hR1, hB1⟩
    have hF2 := RdF.new w1 s (by omega)
    have hX := (Below.refl w1.heap.size w1).alloc (Nat.le_refl _) (.cells #[.string (bs s), .int .i64 0, .int .i64 0] 53)
    have hR2 := hR1.stays hX
    have hB2 := below_then hB1 hX
    have hgh : w.heap.size < w1.heap.size := hR1.lt
    have HR2 := Lib.hid hR2
    have HF2 := Lib.hid hF2
    have HB2 := Lib.hid hB2
    clear ho hR1 hB1 hF2 hX hR2 hB2
    go_wp2
    generalize w1.alloc (.cells #[.string (bs s), .int .i64 0, .int .i64 0] 53) = w2 at *
    generalize w1.heap.size = h at *
    go_loopw [7] (fun i wr => ∃ (k : Nat) (r : Rs), k ≤ ts.length ∧ i = .int .i64 k ∧ Rd wr w.heap.size r ∧ RdF wr h r ∧ Below w.heap.size w wr ∧ r.s.length ≤ 300) (fun i _ => ts.length - (intOf i).toNat)
    case atStart => exact ⟨0, ⟨s, 0⟩, Nat.zero_le _, rfl, HR2.out, HF2.out, HB2.out, by simp only; omega⟩
    case round =>
      obtain ⟨k, r, hk, rfl, hR, hF, hB, hrl⟩ := hrel
      by_cases hlt : k < ts.length
      · obtain ⟨b, off, rfl, hb, hc⟩ := thingCell hA hlt
        have hg := hd _ (List.getElem_mem hlt)
        have hk0 : (0 : Int) ≤ (k : Int) := Int.natCast_nonneg _
        have hk1 : (k : Int) < (ts.length : Int) := by omega
        have e0 := hc 0 (.int .i64 ts[k].kind) rfl
        have e1 := hc 1 (.int .i64 ts[k].n) rfl
        rw [Nat.add_zero] at e0
        have hn := (Go.bounds_i64 hg.2.1).2
        have hlen := Nat.le_trans (tTake_len (k := ts[k].kind) (n := ts[k].n) (r := r) (by omega)) hrl
        have H1 := Lib.hid (fun W (h : Rd W w.heap.size r) => take_any w.heap.size ts[k].kind ts[k].n r W h (by omega) (by omega))
        have H2 := Lib.hid (fun W (h' : RdF W h r) => takeF_any h ts[k].kind ts[k].n r W h' (by omega) (by omega))
        generalize tTake ts[k].kind ts[k].n r = x at *
        have HL := Lib.hid hlen
        have HB0 := Lib.hid (show Below w.heap.size w wr.drew from hB.drew)
        have hS0 : Stb w wr.drew := Stb.of hB.drew
        have hRd : Rd wr.drew w.heap.size r := hR
        have hFd : RdF wr.drew h r := hF
        have HHG := Lib.hid hgh
        clear hc hlen hg hR hF hB
        go_wp2_with fail
        rw [laterLoad_eq 25 (.tmp 58)]
        go_region_held3 (fun W => Stb w W) (first | assumption | (exact Stb.call (by assumption) (by assumption))) (first
          | (go_at_call 28; refine (H1.out _ hRd).mono ?_; rintro e wA ⟨rfl, hQA⟩; have hRA := hQA.1; have hFA := hFd.touch hQA.2 (by have := HHG.out; omega); have HBA := Lib.hid (HB0.out.trans (hQA.below (Nat.le_refl _) HB0.out.size)); have hSA : Stb w wA := Stb.of HBA.out)
          | (go_at_call 35; refine (H2.out _ hFA).mono ?_; rintro e wB ⟨rfl, hQB⟩; have hF2 := hQB.1; have hR2 := hRA.touch hQB.2 (by have := HHG.out; omega); have hSB : Stb w wB := Stb.of (HBA.out.trans (hQB.below (by have := HHG.out; omega) HBA.out.size)); have hE2 := ReadsF.err hF2)
          | (go_at_call 35; refine (H2.out _ hFd).mono ?_; rintro e wC ⟨rfl, hQC⟩; have hFC := hQC.1; have hRC := hRd.touch hQC.2 (by have := HHG.out; omega); have HBC := Lib.hid (HB0.out.trans (hQC.below (by have := HHG.out; omega) HB0.out.size)); have hSC : Stb w wC := Stb.of HBC.out)
          | (go_at_call 28; refine (H1.out _ hRC).mono ?_; rintro e wB ⟨rfl, hQD⟩; have hR2 := hQD.1; have hF2 := hFC.touch hQD.2 (by have := HHG.out; omega); have hSB : Stb w wB := Stb.of (HBC.out.trans (hQD.below (Nat.le_refl _) HBC.out.size)); have hE2 := ReadsF.err hF2)
          | (go_at_call 29; refine (rErr_any w.heap.size x.2 _ hR2).mono ?_; rintro e w' ⟨rfl, rfl⟩)
          | (go_at_call 31; refine (rLeft_any w.heap.size x.2 _ hR2).mono ?_; rintro e w' ⟨rfl, rfl⟩)
          | (go_at_call 36; refine (refLeft_any h x.2 _ hF2).mono ?_; rintro e wL ⟨rfl, hbL⟩; have hRL := hR2.stays hbL; have hFL := hF2.stays hbL)
          | (go_at_call 31; refine (rLeft_any w.heap.size x.2 _ hRL).mono ?_; rintro e w' ⟨rfl, rfl⟩))
        all_goals
          have hst := (by assumption : Stb w wL)
          have HBL := Lib.hid hst.below
          clear hst
          go_wp2
          go_roundw
          case rel => exact ⟨k + 1, x.2, by omega, by go_num, hRL, hFL, HBL.out, HL.out⟩
          case measure => simp [intOf]; omega
      · have hE := ReadsF.err hF
        clear hd hA
        by_cases he : r.e = 0
        · rw [he] at hE
          have HD := Lib.hid (show rDone r = if 0 < rLeft r then 12 else 0 by simp [rDone, rLeft, he])
          clear he
          go_wp2_with fail
          refine (refLeft_any h r _ hF).mono ?_
          rintro e w3 ⟨rfl, hb3⟩
          have hR3 := hR.stays hb3
          have HB3 := Lib.hid (below_then hB hb3)
          clear hR hF hB hb3
          by_cases hz : 0 < rLeft r
          · rw [if_pos hz] at HD
            go_wp2_with fail
            refine (rDone_any w.heap.size r _ hR3).mono ?_
            rintro e w4 ⟨he4, rfl⟩
            rw [HD.out] at he4
            subst he4
            go_wp2_with fail
            refine (xknown_any _).mono ?_
            rintro e w5 ⟨rfl, hb5⟩
            go_wp2
            go_ret
            exact ⟨rfl, below_then HB3.out hb5⟩
          · rw [if_neg hz] at HD
            go_wp2_with fail
            refine (rDone_any w.heap.size r _ hR3).mono ?_
            rintro e w4 ⟨he4, rfl⟩
            rw [HD.out] at he4
            subst he4
            go_wp2_with fail
            refine (xknown_any _).mono ?_
            rintro e w5 ⟨rfl, hb5⟩
            go_wp2
            go_ret
            exact ⟨rfl, below_then HB3.out hb5⟩
        · have he1 : (r.e == 0) = false := by simpa using he
          have HD := Lib.hid (show rDone r = r.e by simp [rDone, he])
          clear he
          go_wp2_with fail
          refine (rDone_any w.heap.size r _ hR).mono ?_
          rintro e w4 ⟨he4, rfl⟩
          rw [HD.out] at he4
          subst he4
          go_wp2_with fail
          refine (xknown_any _).mono ?_
          rintro e w5 ⟨rfl, hb5⟩
          go_wp2
          go_ret
          exact ⟨rfl, below_then hB hb5⟩
end Go.Proofs.YtolcecpmiepggaaDoor
