/-
  Layer 3, walks: the program's Text. Condition: a machine text; the parts of no handle are noughts, and the table of tens' powers.
-/
import Derived.Test.YtlblenojhfeboaaDoorFhWalkF
import Derived.Test.YtlblenojhfeboaaDoorEqParts
import Derived.Lib.AppendIntMem
namespace Go.Proofs.YtlblenojhfeboaaDoor
open Go.RowKit
attribute [local go_sem ↓] Go.wp_at_zero Go.wp_at_succ
attribute [local go_sem] rowAt_ptr rowOf_drew rowOf_drewN rowOf_alloc_past rowOf_new
attribute [local go_sem] Parts.at0 Parts.lat0 Parts.at1 Parts.lat1 Parts.at2 Parts.lat2 Parts.sub0_3 Parts.lsub0_3 Parts.len guardParts

attribute [local go_sem ↓] ldRaw ldParts eqlParts eqlPartsZ

/-- the table of tens' powers, from here on -/
def FhTab (w : World) : Prop := Lib.TabBelow Tryd.prog w.heap.size w "internal/strconv.uint64pow10" .u64 Lib.pow10Tab
theorem FhTab.below {w w' : World} (h : FhTab w) (hb : Below w.heap.size w w') : FhTab w' := fun w2 h2 => h w2 (below_then hb h2)
theorem FhTab.here {w : World} (h : FhTab w) : Lib.TabIs Tryd.prog w "internal/strconv.uint64pow10" .u64 Lib.pow10Tab := h w (Below.refl _ _)
theorem itoa3_any (n : Nat) (w : World) (hn : (n : Int) ≤ 9223372036854775807) (ht : FhTab w) : Calls Tryd.prog 37 #[.int .i64 (n : Int)] w fun e w' => e = .returned (.string (bs (Lib.decDigits n))) ∧ Below w.heap.size w w' := by
  refine (Tryd.strconv_Itoa (n : Int) (by omega) hn w ht.here).mono ?_
  rintro e w' ⟨rfl, k, os, rfl⟩
  rw [Lib.itoa_nonneg]
  exact ⟨rfl, Lib.below_grow _ _ (Nat.le_refl _) _ _⟩
/-- the text of a handle -/
def fhText (s : List UInt8) : List UInt8 := if fhGood s then fhTx (fhP s) else []
theorem good_nat {s : List UInt8} (h : fhGood s = true) : ∃ k a b : Nat, fhP s = ⟨(k : Int), (a : Int), (b : Int)⟩ ∧ (k = 1 ∨ k = 2) ∧ (a : Int) ≤ 4294967295 ∧ (b : Int) ≤ 9223372036854775807 := by
  obtain ⟨h1, _, h3⟩ := good_parts h
  refine ⟨at0 s 0, beVal ((s.drop 4).take 4), beVal (s.drop 8), rfl, ((fhGood_iff s).1 h).2.1, ?_, h3⟩
  exact ((Parts.mayF_iff _).1 h1).2.1.2

set_option maxRecDepth 20000 in
set_option maxHeartbeats 1600000 in
theorem fhText_any (s : List UInt8) (w : World) (hl : s.length ≤ 9223372036854775807) (hN : FhNone w) (hT : FhTab w) : Calls Tryd.prog 14 #[.string (bs s)] w fun e w' => e = .returned (.string (bs (fhText s))) ∧ Below w.heap.size w w' := by
  cases hg : fhGood s with
  | false =>
    have K := fhParse_any s w hl hN
    rw [show fhParse s = (parts0, 14) by unfold fhParse; rw [hg]; rfl] at K
    rw [show fhText s = [] by unfold fhText; rw [hg]; rfl]
    have K := Lib.hid K
    have HN := Lib.hid hN
    have hdz : decide (parts0 = parts0) = true := by decide
    clear hN hT hg
    go_enter Tryd.func14, Tryd.ntmps14
    go_wp2_with fail
    refine K.out.mono ?_
    rintro e w1 ⟨rfl, hb1⟩
    have hP := Blk.new w1 24 parts0.vals
    have hrow := hP.row 0 3 (by simp [Parts.len])
    rw [show (parts0.vals.drop 0).take 3 = parts0.vals from rfl] at hrow
    have hB : Below w.heap.size w (w1.alloc (.cells parts0.vals.toArray 24)) := hb1.alloc hb1.size _
    have hgl := (HN.out.below hB).1
    have HB := Lib.hid hB
    clear hb1 hP hB
    go_upto_region 2 with (first | (refine wpList_new_struct (by rfl) (by rfl) 24 (by rfl) _ _ (by rfl) parts0.vals infoParts (by rfl) (by rfl) (Parts.one _) (by rfl) (by rfl) ?_) | fail)
    generalize w1.alloc (.cells parts0.vals.toArray 24) = w2 at *
    go_wp2
    go_ret
    exact ⟨rfl, HB.out⟩
  | true =>
    have K := fhParse_any s w hl hN
    rw [show fhParse s = (fhP s, 0) by unfold fhParse; rw [hg]; rfl] at K
    rw [show fhText s = fhTx (fhP s) by unfold fhText; rw [hg]; rfl]
    obtain ⟨k, a, b, hp, hk, ha, hb⟩ := good_nat hg
    rw [hp] at K ⊢
    have K := Lib.hid K
    have HN := Lib.hid hN
    have HT := Lib.hid hT
    have hd : decide ((⟨(k : Int), (a : Int), (b : Int)⟩ : Parts) = parts0) = false := decide_eq_false (fun e => by
      have := congrArg Parts.kind e
      simp only [parts0] at this
      omega)
    have HR := Lib.hid (show bs [if (k : Int) = 1 then 111 else 112] ++ bs (Lib.decDigits a) ++ bs [46] ++ bs (Lib.decDigits b) = bs (fhTx ⟨(k : Int), (a : Int), (b : Int)⟩) by
      rw [bs_append, bs_append, bs_append]; rfl)
    have hcut : ({ data := #[111, 112] } : ByteArray).extract (k - 1) k = bs [if (k : Int) = 1 then 111 else 112] := op2_cut hk
    generalize fhTx ⟨(k : Int), (a : Int), (b : Int)⟩ = R at *
    generalize (if (k : Int) = 1 then (111 : UInt8) else 112) = X at *
    have l1 := decDigits_len (n := a) (by omega)
    have l2 := decDigits_len hb
    have K1 := Lib.hid (fun W h => itoa3_any a W (by omega) h)
    have K2 := Lib.hid (fun W h => itoa3_any b W hb h)
    generalize Lib.decDigits a = A at *
    generalize Lib.decDigits b = B at *
    have z1 := bs_size A
    have z2 := bs_size B
    have e3 : IntKind.i64.wrap ((k : Int) - 1) = (k : Int) - 1 := IntWalk.i64_in _ (by omega)
    have p1 : (0 : Int) ≤ (k : Int) - 1 := by omega
    have p2 : (k : Int) ≤ 2 := by omega
    have p3 : (0 : Int) ≤ (k : Int) := by omega
    have p4 : (k : Int) - 1 ≤ (k : Int) := by omega
    have p5 : ((k : Int) - 1).toNat = k - 1 := by omega
    have p6 : (k : Int).toNat = k := rfl
    have p8 : ¬ (k : Int) < 1 := by omega
    have p7 : (bs [X]).size = 1 := rfl
    have t1 : ¬ 9223372036854775807 < 1 + A.length := by omega
    have t2 : ¬ 9223372036854775807 < 1 + A.length + 1 := by omega
    have t3 : ¬ 9223372036854775806 < 1 + A.length := by omega
    have t4 : ¬ 9223372036854775807 < 1 + A.length + 1 + B.length := by omega
    clear hN hT hg hp hk ha hb
    go_enter Tryd.func14, Tryd.ntmps14
    go_wp2_with fail
    refine K.out.mono ?_
    rintro e w1 ⟨rfl, hb1⟩
    have hP := Blk.new w1 24 (Parts.mk (k : Int) (a : Int) (b : Int)).vals
    have hrow := hP.row 0 3 (by simp [Parts.len])
    rw [show ((Parts.mk (k : Int) (a : Int) (b : Int)).vals.drop 0).take 3 = (Parts.mk (k : Int) (a : Int) (b : Int)).vals from rfl] at hrow
    have hB : Below w.heap.size w (w1.alloc (.cells (Parts.mk (k : Int) (a : Int) (b : Int)).vals.toArray 24)) := hb1.alloc hb1.size _
    have hgl := (HN.out.below hB).1
    have HTB := Lib.hid (HT.out.below hB)
    have HB := Lib.hid hB
    have f0 : (w1.alloc (.cells (Parts.mk (k : Int) (a : Int) (b : Int)).vals.toArray 24)).cell? ⟨w1.heap.size, 0, none⟩ = some (.int .i64 (k : Int)) := hP.cell 0
    have f1 : (w1.alloc (.cells (Parts.mk (k : Int) (a : Int) (b : Int)).vals.toArray 24)).cell? ⟨w1.heap.size, 1, none⟩ = some (.int .i64 (a : Int)) := hP.cell 1
    have f2 : (w1.alloc (.cells (Parts.mk (k : Int) (a : Int) (b : Int)).vals.toArray 24)).cell? ⟨w1.heap.size, 2, none⟩ = some (.int .i64 (b : Int)) := hP.cell 2
    have hsz : w1.heap.size < (w1.alloc (.cells (Parts.mk (k : Int) (a : Int) (b : Int)).vals.toArray 24)).heap.size := by simp
    clear hb1 hP hB K
    go_upto_region 2 with (first | (refine wpList_new_struct (by rfl) (by rfl) 24 (by rfl) _ _ (by rfl) (Parts.mk (k : Int) (a : Int) (b : Int)).vals infoParts (by rfl) (by rfl) (Parts.one _) (by rfl) (by rfl) ?_) | fail)
    generalize w1.alloc (.cells (Parts.mk (k : Int) (a : Int) (b : Int)).vals.toArray 24) = w2 at *
    go_upto_region 4 with fail
    clear hrow hgl hd
    go_region_held3 (fun W => Stb w2 W) (first | exact Stb.start | assumption | (exact Stb.call (by first | assumption | exact Stb.start) hb1)) (first
      | (go_at_call_of 37 (a); refine (K1.out _ (HTB.out.below (by first | exact (by assumption : Stb w2 _).2.2 | exact Stb.start.2.2))).mono ?_; rintro e w3 ⟨rfl, hb1⟩)
      | (go_at_call_of 37 (b); refine (K2.out _ (HTB.out.below (by first | exact (by assumption : Stb w2 _).2.2 | exact Stb.start.2.2))).mono ?_; rintro e w3 ⟨rfl, hb1⟩))
    all_goals
      go_wp2
      go_ret
      exact ⟨by rw [← HR.out]; rfl, below_then HB.out (by assumption : Stb w2 _).2.2⟩
end Go.Proofs.YtlblenojhfeboaaDoor
