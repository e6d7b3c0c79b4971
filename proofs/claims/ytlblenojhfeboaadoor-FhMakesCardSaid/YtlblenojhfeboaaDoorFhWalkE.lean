/-
  Layer 3, walks of the document's own: handles of parts, and their text. Condition: machine numbers.
-/
import Derived.Test.YtlblenojhfeboaaDoorFhWalkD
import Derived.Test.YtlblenojhfeboaaDoorLater
namespace Go.Proofs.YtlblenojhfeboaaDoor
open Go.RowKit
attribute [local go_sem ↓] Go.wp_at_zero Go.wp_at_succ
attribute [local go_sem] rowAt_ptr rowOf_drew rowOf_drewN rowOf_alloc_past rowOf_new
attribute [local go_sem] Parts.at0 Parts.lat0 Parts.at1 Parts.lat1 Parts.at2 Parts.lat2 Parts.sub0_3 Parts.lsub0_3 Parts.len

def oneC : Option Value → Option Value
  | some (.int .u8 x) => some (.string (bs [UInt8.ofNat x.toNat]))
  | _ => none
def oneV (w : World) : Value → Option Value
  | .slice (some ⟨b, o, none⟩) 1 _ => oneC (w.cell? ⟨b, o, none⟩)
  | _ => none
theorem oneV_slice (w : World) (b o c : Nat) : oneV w (.slice (some ⟨b, o, none⟩) 1 c) = oneC (w.cell? ⟨b, o, none⟩) := rfl
theorem oneC_int (x : Int) : oneC (some (.int .u8 x)) = some (.string (bs [UInt8.ofNat x.toNat])) := rfl
theorem strOf1 (y : Int) : strOfNums [y] = bs [UInt8.ofNat y.toNat] := by
  unfold strOfNums bs
  congr 1
theorem cvOne {ρ : Operand → Value} {w : World} {dst : Option Tmp} {ty : TypeId} {pos : String} {after : Array Edge} {g : Option (Nat × Bool)} {x : Operand} (h : (oneV w (ρ x)).isSome = true) :
    (execOp ρ ⟨dst, laterCv 59 9 x, ty, pos, after, g⟩).run Tryd.prog w = .ok (.value ((oneV w (ρ x)).getD (.bool false))) w := by
  unfold laterCv
  generalize hv : ρ x = v at h
  unfold oneV at h
  split at h
  case h_2 => cases h
  rename_i b o c
  unfold oneC at h
  split at h
  case h_2 => cases h
  rename_i y hy
  have := run_convert_bytes_arg (P := Tryd.prog) w 59 5 Tryd.underlying59 Tryd.underlying5 b o 1 c [y] rfl (fun i hi => by
    obtain rfl : i = 0 := by omega
    exact hy) 9 Tryd.underlying9
  rw [oneV_slice, hy, oneC_int, Option.getD_some]
  unfold execOp
  simp only [hv, Sem.run_bind, Sem.run_pure, Result.andThen_ok, this, strOf1]
attribute [local go_sem ↓] cvOne

attribute [local go_sem] oneV_slice oneC_int

theorem fhB_kind {k a b : Nat} (hk : k = 1 ∨ k = 2) : bs [UInt8.ofNat k] ++ bs [0, 0, 0] ++ bs (num a 4) ++ bs (num b 8) = bs (fhB ⟨(k : Int), (a : Int), (b : Int)⟩) := by
  unfold fhB
  simp only [Int.toNat_natCast]
  rw [num4_kind _ (by omega), bs_append, bs_append, bs_append]
  simp
theorem lt_alloc {w : World} {o : Obj} {n : Nat} (h : (w.alloc o).drew.heap.size ≤ n) : w.heap.size < n := Nat.lt_of_lt_of_le (by simp) h
set_option maxRecDepth 20000 in
set_option maxHeartbeats 800000 in
theorem refMake3_any (k a b : Nat) (w : World) (hk : k = 1 ∨ k = 2) (ha : a ≤ 4294967295) (hb : (b : Int) ≤ 9223372036854775807) :
    Calls Tryd.prog 19 #[.int .i64 (k : Int), .int .i64 (a : Int), .int .i64 (b : Int)] w fun e w' => e = .returned (.string (bs (fhB ⟨(k : Int), (a : Int), (b : Int)⟩))) ∧ Below w.heap.size w w' := by
  have HR := Lib.hid (fhB_kind (a := a) (b := b) hk)
  generalize fhB ⟨(k : Int), (a : Int), (b : Int)⟩ = R at *
  have K1 := Lib.hid (fun W => refNum_any a 4 W (by omega) (by omega))
  have K2 := Lib.hid (fun W => refNum_any b 8 W hb (by omega))
  have l1 := num_len a 4
  have l2 := num_len b 8
  generalize num a 4 = A at *
  generalize num b 8 = B at *
  have hw : IntKind.u8.wrap (k : Int) = (k : Int) := by rw [IntKind.wrap_u8]; omega
  have hkn : (k : Int).toNat = k := rfl
  have z1 := bs_size A
  have z2 := bs_size B
  clear hk ha hb
  go_enter Tryd.func19, Tryd.ntmps19
  go_upto_region 1 with fail
  rw [laterCv_eq 59 9 (.tmp 9)]
  go_region_held3 (fun W => Stb w W) (first | exact Stb.start | assumption | (exact Stb.alloc Stb.start _) | (exact Stb.of (((Below.refl _ _).alloc (Nat.le_refl _) _).drew)) | (exact Stb.alloc (by assumption) _) | (exact Stb.call (by first | assumption | exact Stb.start | (exact Stb.of (((Below.refl _ _).alloc (Nat.le_refl _) _).drew))) hb1)) (first
    | (go_at_call_of 40 (a); refine (K1.out _).mono ?_; rintro e w2 ⟨rfl, hb1⟩; have hcl2 := @Below.cell _ _ _ hb1; first | (have hs2 := lt_alloc hb1.size) | skip)
    | (go_at_call_of 40 (b); refine (K2.out _).mono ?_; rintro e w2 ⟨rfl, hb1⟩; have hcl3 := @Below.cell _ _ _ hb1))
  all_goals
    go_wp2
    go_ret
    exact ⟨by rw [← HR.out]; rfl, (by assumption : Stb _ _).2.2⟩
end Go.Proofs.YtlblenojhfeboaaDoor
