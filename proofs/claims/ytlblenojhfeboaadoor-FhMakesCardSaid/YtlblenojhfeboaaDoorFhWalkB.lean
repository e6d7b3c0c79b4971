/-
  Layer 3, walks: the program's Make and what makes handles. Condition: machine numbers.
-/
import Derived.Test.YtlblenojhfeboaaDoorFhWalkA
namespace Go.Proofs.YtlblenojhfeboaaDoor
open Go.RowKit
attribute [local go_sem ↓] Go.wp_at_zero Go.wp_at_succ
attribute [local go_sem] rowAt_ptr rowOf_drew rowOf_drewN rowOf_alloc_past rowOf_new
attribute [local go_sem] Parts.at0 Parts.lat0 Parts.at1 Parts.lat1 Parts.at2 Parts.lat2 Parts.sub0_3 Parts.lsub0_3 Parts.len

attribute [local go_sem ↓] ldRaw ldParts arr16

theorem raw_string {w : World} {b : Nat} {l : List UInt8} (h : Blk w b 55 (rawV l)) (h16 : l.length = 16) : (convert 59 9 (.slice (some ⟨b, 0, none⟩) 16 16)).run Tryd.prog w = .ok (.string (bs l)) w := by
  have := run_convert_bytes_arg (P := Tryd.prog) w 59 5 Tryd.underlying59 Tryd.underlying5 b 0 l.length 16 (l.map fun b => (b.toNat : Int)) (by simp) (fun i hi => by
    rw [Nat.zero_add, h.cell]
    simp [rawV, u8, hi]) 9 Tryd.underlying9
  rw [h16] at this
  rw [this, strOf]
theorem infoRaw : (Tryd.prog.info? 55).map (fun i => (i.zero, i.size)) = some (some (.agg (rawV z16).toArray), 16) := by kernel_rfl
theorem infoParts : (Tryd.prog.info? 24).map (fun i => (i.zero, i.size)) = some (some (.agg parts0.vals.toArray), 3) := by kernel_rfl
/-- parts that a machine holds -/
def Parts.mach (p : Parts) : Prop := (-9223372036854775808 ≤ p.a ∧ p.a ≤ 9223372036854775807) ∧ p.b ≤ 9223372036854775807
theorem rawV_len (l : List UInt8) : (rawV l).length = l.length := by simp [rawV]
set_option maxRecDepth 20000 in
theorem fhMake_any (p : Parts) (w : World) (hp : p.mach) : Calls Tryd.prog 15 #[.agg p.vals.toArray] w fun e w' => e = .returned (.string (bs (fhMake p))) ∧ Below w.heap.size w w' := by
  have hP := Blk.new w 24 p.vals
  have hB : Below w.heap.size w (w.alloc (.cells p.vals.toArray 24)) := (Below.refl _ _).alloc (Nat.le_refl _) _
  have hrow := hP.row 0 3 (by simp [Parts.len])
  have HL := Lib.hid (fun W => fhLaid_any p W hp.1 hp.2)
  have HB := Lib.hid hB
  have HF := Lib.hid (show fhMake p = if p.mayF then rawF p else [] by
    unfold fhMake rawF
    split <;> rfl)
  have h16 := rawF_len p
  generalize fhMake p = R at *
  clear hP hB
  go_enter Tryd.func15, Tryd.ntmps15
  go_upto_region 1 with fail
  change Code.wp _ _ _ _ (w.alloc (.cells p.vals.toArray 24))
  generalize w.alloc (.cells p.vals.toArray 24) = w1 at *
  rw [show (p.vals.drop 0).take 3 = p.vals from rfl] at hrow
  go_wp2_with fail
  refine (HL.out _).mono ?_
  rintro e w2 ⟨rfl, hb2⟩
  have HB2 := Lib.hid (below_then HB.out hb2)
  have HS := Lib.hid (raw_string (Blk.new w2 55 (rawV (rawF p))) h16)
  have HI := Lib.hid (And.intro (rawV_len (rawF p)) h16)
  have hstr := HS.out
  clear hb2 hrow HB h16 HS
  generalize rawF p = F at *
  generalize p.mayF = M at *
  have HBW := Lib.hid (fun (o : Obj) => HB2.out.alloc HB2.out.size o)
  go_upto_region 2 with (first | (refine wpList_new_struct (by rfl) (by rfl) 55 (by rfl) _ _ (by rfl) (rawV F) infoRaw (by rw [HI.out.1, HI.out.2]) (by rfl) (rawV_one _) (by rfl) (by rfl) ?_) | fail)
  cases M with
  | false =>
    go_wp2
    go_ret
    exact ⟨by rw [HF.out]; rfl, HBW.out _⟩
  | true =>
    go_wp2
    go_ret
    exact ⟨by rw [HF.out]; rfl, HBW.out _⟩
def fhIssued (p : Parts) : List UInt8 := if p.a < 1 ∨ p.b < 1 then [] else fhMake p
theorem issued3_any (p : Parts) (w : World) (hp : p.mach) : Calls Tryd.prog 39 #[.agg p.vals.toArray] w fun e w' => e = .returned (.string (bs (fhIssued p))) ∧ Below w.heap.size w w' := by
  have hP := Blk.new w 24 p.vals
  have hB : Below w.heap.size w (w.alloc (.cells p.vals.toArray 24)) := (Below.refl _ _).alloc (Nat.le_refl _) _
  have hrow := hP.row 0 3 (by simp [Parts.len])
  have f1 : (w.alloc (.cells p.vals.toArray 24)).cell? ⟨w.heap.size, 1, none⟩ = some (.int .i64 p.a) := hP.cell 1
  have f2 : (w.alloc (.cells p.vals.toArray 24)).cell? ⟨w.heap.size, 2, none⟩ = some (.int .i64 p.b) := hP.cell 2
  have HL := Lib.hid (fun W => fhMake_any p W hp)
  have HB := Lib.hid hB
  have HF := Lib.hid (show fhIssued p = if p.a < 1 ∨ p.b < 1 then [] else fhMake p from rfl)
  generalize fhIssued p = R at *
  generalize fhMake p = F at *
  clear hP hB hp
  go_enter Tryd.func39, Tryd.ntmps39
  go_upto_region 1 with fail
  change Code.wp _ _ _ _ (w.alloc (.cells p.vals.toArray 24))
  generalize w.alloc (.cells p.vals.toArray 24) = w1 at *
  rw [show (p.vals.drop 0).take 3 = p.vals from rfl] at hrow
  by_cases q1 : p.a < 1
  · have HV := Lib.hid (show R = [] by rw [HF.out, if_pos (.inl q1)])
    go_wp2
    go_ret
    exact ⟨by rw [HV.out]; rfl, HB.out⟩
  by_cases q2 : p.b < 1
  · have HV := Lib.hid (show R = [] by rw [HF.out, if_pos (.inr q2)])
    go_wp2
    go_ret
    exact ⟨by rw [HV.out]; rfl, HB.out⟩
  · have HV := Lib.hid (show R = F by rw [HF.out, if_neg (by omega)])
    go_wp2_with fail
    refine (HL.out _).mono ?_
    rintro e w2 ⟨rfl, hb2⟩
    go_wp2
    go_ret
    exact ⟨by rw [HV.out]; rfl, below_then HB.out hb2⟩
theorem fhNode_any (a b : Int) (w : World) (ha : -9223372036854775808 ≤ a ∧ a ≤ 9223372036854775807) (hb : b ≤ 9223372036854775807) : Calls Tryd.prog 17 #[.int .i64 a, .int .i64 b] w fun e w' => e = .returned (.string (bs (fhIssued ⟨1, a, b⟩))) ∧ Below w.heap.size w w' := by
  have K := Lib.hid (issued3_any ⟨1, a, b⟩ w ⟨ha, hb⟩)
  go_enter Tryd.func17, Tryd.ntmps17
  go_wp2_with fail
  refine K.out.mono ?_
  rintro e w1 ⟨rfl, hb1⟩
  go_wp2
  go_ret
  exact ⟨rfl, hb1⟩
theorem fhVirtual_any (a b : Int) (w : World) (ha : -9223372036854775808 ≤ a ∧ a ≤ 9223372036854775807) (hb : b ≤ 9223372036854775807) : Calls Tryd.prog 18 #[.int .i64 a, .int .i64 b] w fun e w' => e = .returned (.string (bs (fhIssued ⟨2, a, b⟩))) ∧ Below w.heap.size w w' := by
  have K := Lib.hid (issued3_any ⟨2, a, b⟩ w ⟨ha, hb⟩)
  go_enter Tryd.func18, Tryd.ntmps18
  go_wp2_with fail
  refine K.out.mono ?_
  rintro e w1 ⟨rfl, hb1⟩
  go_wp2
  go_ret
  exact ⟨rfl, hb1⟩
def rootL : List UInt8 := [1, 0, 0, 0, 0, 0, 0, 1, 0, 0, 0, 0, 0, 0, 0, 1]
def neverL : List UInt8 := [2, 0, 0, 0, 0, 0, 0, 0, 0, 0, 0, 0, 0, 0, 0, 0]
theorem fhRoot_any (w : World) : Calls Tryd.prog 20 #[] w fun e w' => e = .returned (.string (bs rootL)) ∧ Below w.heap.size w w' := by
  have K := fhNode_any 1 1 w (by decide) (by decide)
  rw [show fhIssued ⟨1, 1, 1⟩ = rootL by decide +kernel] at K
  have K := Lib.hid K
  go_enter Tryd.func20, Tryd.ntmps20
  go_wp2_with fail
  refine K.out.mono ?_
  rintro e w1 ⟨rfl, hb1⟩
  go_wp2
  go_ret
  exact ⟨rfl, hb1⟩
theorem fhNever_any (w : World) : Calls Tryd.prog 21 #[] w fun e w' => e = .returned (.string (bs neverL)) ∧ Below w.heap.size w w' := by
  have K := fhMake_any ⟨2, 0, 0⟩ w ⟨by decide, by decide⟩
  rw [show fhMake ⟨2, 0, 0⟩ = neverL by decide +kernel] at K
  have K := Lib.hid K
  go_enter Tryd.func21, Tryd.ntmps21
  go_wp2_with fail
  refine K.out.mono ?_
  rintro e w1 ⟨rfl, hb1⟩
  go_wp2
  go_ret
  exact ⟨rfl, hb1⟩
end Go.Proofs.YtlblenojhfeboaaDoor
