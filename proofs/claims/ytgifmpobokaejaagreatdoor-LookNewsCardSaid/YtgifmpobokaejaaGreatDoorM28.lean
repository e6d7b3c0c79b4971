/-
  Layer 20, walks: bytes of a node are read, written, resized by the program. Conditions: texts of at most 2^20 bytes.
-/
import Derived.Test.YtgifmpobokaejaaGreatDoorProg
import Derived.Test.YtgifmpobokaejaaGreatDoorM02
import Derived.Test.YtgifmpobokaejaaGreatDoorM15
import Derived.Lib.Repeat
import Derived.Deep.Light
import Derived.Test.YtgifmpobokaejaaGreatDoorM10
namespace Go.Proofs.YtgifmpobokaejaaGreatDoor
open Go.RowKit
attribute [local go_sem ↓] Go.wp_at_zero Go.wp_at_succ
attribute [local go_sem] rowAt_ptr rowOf_drew rowOf_drewN rowOf_alloc_past rowOf_new
attribute [local go_sem] bs_take bs_drop bs_get

theorem bs_slice (s : List UInt8) (a b : Nat) : (bs s).extract a b = bs ((s.drop a).take (b - a)) := by
  apply ByteArray.ext
  simp [List.extract]
theorem repeatL_zero (n : Nat) : Lib.repeatL [0] n = List.replicate n (0 : UInt8) := by
  induction n with
  | zero => rfl
  | succ n ih => rw [Lib.repeatL, ih]; rfl
theorem nread_leaf {d : List UInt8} {off count : Int} {a b : Nat} {c : Bool} (ha : a = nFrom d off) (hb : b = nFrom d off + nCount d off count) (hc : c = (nFrom d off + nCount d off count == d.length)) :
    Ending.returned (.tuple #[.string ((bs d).extract a b), .bool c]) = .returned (.tuple #[.string (bs (nRead d off count).1), .bool (nRead d off count).2]) := by
  subst ha hb hc
  rw [bs_slice, Nat.add_sub_cancel_left]
  rfl

set_option maxHeartbeats 400000 in
theorem nread_any (d : List UInt8) (off count : Int) (w : World) (hl : d.length ≤ 1048576) (ho : -9223372036854775808 ≤ off ∧ off ≤ 9223372036854775807) (hc : -9223372036854775808 ≤ count ∧ count ≤ 9223372036854775807) :
    Calls Tryz.prog 107 #[.string (bs d), .int .i64 off, .int .i64 count] w fun e w' => e = .returned (.tuple #[.string (bs (nRead d off count).1), .bool (nRead d off count).2]) ∧ w = w' := by
  have hsz := bs_size d
  go_enter Tryz.func107, Tryz.ntmps107
  go_wp2
  all_goals
    go_ret2
    refine ⟨nread_leaf ?_ ?_ ?_, rfl⟩
    all_goals
      go_light
      first | (unfold nFrom; omega) | (unfold nCount nFrom; omega) | (rw [Bool.eq_iff_iff, beq_iff_eq, beq_iff_eq]; unfold nCount nFrom; omega)

/-- texts that are put together -/
theorem add_bs20 (a b : List UInt8) (h : a.length + b.length ≤ 9223372036854775807) : Op.stringOp .add (bs a) (bs b) = pure (.string (bs (a ++ b))) := by
  have h2 : ¬ (((bs a).size + (bs b).size : Nat) : Int) > IntKind.i64.max := by
    rw [bs_size, bs_size]
    show ¬ (((a.length + b.length : Nat) : Int) > 9223372036854775807)
    omega
  simp only [Op.stringOp]
  rw [if_neg h2, bs_append]
attribute [local go_sem ↓] add_bs20

end Go.Proofs.YtgifmpobokaejaaGreatDoor

/-
  Layer 20, walks: the law NodeWritten. No condition but machine numbers.
-/
namespace Go.Proofs.YtgifmpobokaejaaGreatDoor
open Go.RowKit
attribute [local go_sem ↓] Go.wp_at_zero Go.wp_at_succ
attribute [local go_sem] rowAt_ptr rowOf_drew rowOf_drewN rowOf_alloc_past rowOf_new
attribute [local go_sem] bs_get

end Go.Proofs.YtgifmpobokaejaaGreatDoor


/-
  Layer 20, walks: the document's resizing, writing and reading of bytes. Conditions: texts of at most 2^20 bytes.
-/
namespace Go.Proofs.YtgifmpobokaejaaGreatDoor
open Go.RowKit
attribute [local go_sem ↓] Go.wp_at_zero Go.wp_at_succ
attribute [local go_sem] rowAt_ptr rowOf_drew rowOf_drewN rowOf_alloc_past rowOf_new
attribute [local go_sem] bs_take bs_drop bs_get

def lenV : Value → Nat
  | .slice _ n _ => n
  | _ => 0
theorem infoU8n : ∃ i, Tryz.prog.info? 5 = some i ∧ i.zero = some (.int .u8 0) ∧ i.size = 1 ∧ i.bytes = 1 := by
  have h : (Tryz.prog.info? 5).map (fun i => (i.zero, i.size, i.bytes)) = some (some (.int .u8 0), 1, 1) := by kernel_rfl
  cases hi : Tryz.prog.info? 5 with
  | none => rw [hi] at h; cases h
  | some i =>
    rw [hi] at h
    simp at h
    exact ⟨i, rfl, h.1, h.2.1, h.2.2⟩
theorem RowB.parts {w : World} {B : Nat} {e : TypeId} {v : Value} {l : List UInt8} (h : RowB w B e v l) : (v = .slice none 0 0 ∧ l = []) ∨ ∃ g c, v = .slice (some ⟨g, 0, none⟩) l.length c ∧ l.length ≤ c := by
  rcases h with h | ⟨g, cs, hv, _, hl, _⟩
  · exact .inl h
  · exact .inr ⟨g, _, hv, hl⟩

end Go.Proofs.YtgifmpobokaejaaGreatDoor


/-
  Layer 20, walks: the document's writing of bytes. Conditions: texts of at most 2^20 bytes.
-/
namespace Go.Proofs.YtgifmpobokaejaaGreatDoor
open Go.RowKit
attribute [local go_sem ↓] Go.wp_at_zero Go.wp_at_succ
attribute [local go_sem] rowAt_ptr rowOf_drew rowOf_drewN rowOf_alloc_past rowOf_new
attribute [local go_sem] bs_take bs_drop bs_get

/-- the first j bytes of a text are laid at k -/
def laidK (F : List UInt8) (k : Nat) (t : List UInt8) (j : Nat) : List UInt8 := F.take k ++ (t.take j ++ F.drop (k + j))
theorem laidK_zero (F : List UInt8) (k : Nat) (t : List UInt8) : laidK F k t 0 = F := by simp [laidK]
theorem laidK_len (F : List UInt8) (k : Nat) (t : List UInt8) (j : Nat) (hj : j ≤ t.length) (h : k + t.length ≤ F.length) : (laidK F k t j).length = F.length := by
  simp [laidK]; omega
theorem laidK_step (F : List UInt8) (k : Nat) (t : List UInt8) (j : Nat) (hj : j < t.length) (h : k + t.length ≤ F.length) : (laidK F k t j).set (k + j) t[j] = laidK F k t (j + 1) := by
  have h1 : (F.take k).length = k := by simp; omega
  have h2 : (t.take j).length = j := by simp; omega
  unfold laidK
  rw [List.set_append_right _ _ (by omega), h1, List.set_append_right _ _ (by omega), h2, show k + j - k - j = 0 by omega, List.take_add_one, List.getElem?_eq_getElem hj, List.drop_eq_getElem_cons (show k + j < F.length by omega)]
  simp only [List.set_cons_zero, Option.toList_some, List.append_assoc, List.singleton_append, Nat.add_assoc]
theorem laidK_end (F : List UInt8) (k : Nat) (t : List UInt8) : laidK F k t t.length = F.take k ++ (t ++ F.drop (k + t.length)) := by simp [laidK]

end Go.Proofs.YtgifmpobokaejaaGreatDoor


/-
  Layer 20, walks: the document's reading of bytes. Conditions: texts of at most 2^20 bytes.
-/
namespace Go.Proofs.YtgifmpobokaejaaGreatDoor
open Go.RowKit
attribute [local go_sem ↓] Go.wp_at_zero Go.wp_at_succ
attribute [local go_sem] rowAt_ptr rowOf_drew rowOf_drewN rowOf_alloc_past rowOf_new
attribute [local go_sem] bs_get

theorem refread_leaf {d : List UInt8} {off count : Int} {f j : Nat} {c : Bool} (hf : f = nFrom d off) (hj : j = nCount d off count) (hc : c = (f + j == d.length)) :
    Ending.returned (.tuple #[.string (bs ((d.drop f).take j)), .bool c]) = .returned (.tuple #[.string (bs (nRead d off count).1), .bool (nRead d off count).2]) := by
  subst hf hj hc
  rfl

set_option maxRecDepth 20000 in
set_option maxHeartbeats 1600000 in
theorem refRead_any (d : List UInt8) (off count : Int) (w : World) (hl : d.length ≤ 1048576) (ho : -9223372036854775808 ≤ off ∧ off ≤ 9223372036854775807) (hc : -9223372036854775808 ≤ count ∧ count ≤ 9223372036854775807) :
    Calls Tryz.prog 87 #[.string (bs d), .int .i64 off, .int .i64 count] w fun e w' => e = .returned (.tuple #[.string (bs (nRead d off count).1), .bool (nRead d off count).2]) ∧ Below w.heap.size w w' := by
  have hsz := bs_size d
  obtain ⟨i, hi, hz, hsize, hby⟩ := infoU8n
  obtain ⟨f, hf⟩ : ∃ f, f = nFrom d off := ⟨_, rfl⟩
  obtain ⟨N, hN⟩ : ∃ N, N = nCount d off count := ⟨_, rfl⟩
  have hfv : f = (min (max off 0) (d.length : Int)).toNat := hf
  have hNv : N = (min (min (max count 0) 256) ((d.length : Int) - f)).toNat := by rw [hf, hN]; rfl
  have HF := Lib.hid hf
  have HN := Lib.hid hN
  clear hf hN
  have hcase : off < 0 ∨ (¬ off < 0 ∧ ¬ (d.length : Int) < off) ∨ (¬ off < 0 ∧ (d.length : Int) < off) := by omega
  rcases hcase with h1 | ⟨h1, h2⟩ | ⟨h1, h2⟩
  · have hf0 : f = 0 := by omega
    have hnl : ¬ (d.length : Int) < 0 := by omega
    have HF0 := Lib.hid hf0
    have HV := Lib.hid hNv
    have hNf : N ≤ 256 ∧ N + f ≤ d.length ∧ (N : Int) ≤ max count 0 := by omega
    clear hf0 hfv hNv
    go_enter Tryz.func87, Tryz.ntmps87
    go_wp2
    go_loopw [8, 9] (fun out iv wr => ∃ j : Nat, j ≤ N ∧ iv = .int .i64 ((f : Int) + (j : Int)) ∧ RowB wr w.heap.size 5 out ((d.drop f).take j) ∧ Below w.heap.size w wr) (fun out _ _ => N - lenV out)
    case atStart => exact ⟨0, Nat.zero_le _, by rw [HF0.out]; rfl, by rw [List.take_zero]; exact RowB.none_, Below.refl _ _⟩
    case round =>
      clear h1 hnl
      obtain ⟨j, hj, rfl, hR, hb⟩ := hrel
      obtain ⟨A, c, rfl⟩ := hR.len
      have hlen : ((d.drop f).take j).length = j := by rw [List.length_take, List.length_drop]; omega
      have hfj : f + j ≤ d.length := by omega
      by_cases hlt : j < N
      · have hfl : f + j < d.length := by omega
        have hap := RowB.append (P := Tryz.prog) 123 123 i Tryz.underlying123 hi hz hsize hby hR hb.size (d[f + j]) (by rw [hlen]; omega)
        rw [show (d.drop f).take j ++ [d[f + j]] = (d.drop f).take (j + 1) by rw [List.take_add_one, List.getElem?_drop, List.getElem?_eq_getElem hfl]; rfl] at hap
        rw [hlen] at hap hR ⊢
        have HB := Lib.hid hb
        have g1 : (f : Int) + (j : Int) < (d.length : Int) := by omega
        have g2 : (j : Int) < count := by omega
        have g3 : (j : Int) < 256 := by omega
        have g4 : ((f : Int) + (j : Int)).toNat = f + j := by omega
        have g5 : (0 : Int) ≤ (f : Int) + (j : Int) := by omega
        have g6 : IntKind.i64.wrap ((f : Int) + (j : Int) + 1) = (f : Int) + ((j + 1 : Nat) : Int) := by rw [IntWalk.i64_in _ (by omega)]; omega
        go_wp2_with (first | (refine wpList_append_by (by rfl) (.tmp 34) (.tmp 38) #[123, 123] (by rfl) _ _ (by rfl) (by rfl) hap ?_; rintro v' w' ⟨hR', hb'⟩) | fail)
        have HR := Lib.hid hR'
        have HB2 := Lib.hid (hb' w HB.out)
        obtain ⟨A', c', rfl⟩ := hR'.len
        have hlen' : ((d.drop f).take (j + 1)).length = j + 1 := by rw [List.length_take, List.length_drop]; omega
        rw [hlen'] at HR ⊢
        clear hR hap hR' hb' HB
        go_wp2
        go_roundw
        case rel => exact ⟨j + 1, by omega, rfl, HR.out, HB2.out⟩
        case measure => simp [lenV]; omega
      · obtain rfl : j = N := by omega
        have hstr := hR.string (P := Tryz.prog) 123 9 Tryz.underlying123 Tryz.underlying5 Tryz.underlying9
        clear hR
        rw [hlen] at hstr ⊢
        go_wp2
        all_goals first
          | (go_ret2; exact ⟨refread_leaf HF.out HN.out (by rw [Bool.eq_iff_iff]; simp; omega), hb⟩)
          | (have hNv := HV.out; exfalso; omega)
  · obtain rfl : off = (f : Int) := by omega
    have HV := Lib.hid hNv
    have hNf : N ≤ 256 ∧ N + f ≤ d.length ∧ (N : Int) ≤ max count 0 := by omega
    clear hfv hNv
    go_enter Tryz.func87, Tryz.ntmps87
    go_wp2
    go_loopw [8, 9] (fun out iv wr => ∃ j : Nat, j ≤ N ∧ iv = .int .i64 ((f : Int) + (j : Int)) ∧ RowB wr w.heap.size 5 out ((d.drop f).take j) ∧ Below w.heap.size w wr) (fun out _ _ => N - lenV out)
    case atStart => exact ⟨0, Nat.zero_le _, by simp, by rw [List.take_zero]; exact RowB.none_, Below.refl _ _⟩
    case round =>
      clear h1 h2
      obtain ⟨j, hj, rfl, hR, hb⟩ := hrel
      obtain ⟨A, c, rfl⟩ := hR.len
      have hlen : ((d.drop f).take j).length = j := by rw [List.length_take, List.length_drop]; omega
      have hfj : f + j ≤ d.length := by omega
      by_cases hlt : j < N
      · have hfl : f + j < d.length := by omega
        have hap := RowB.append (P := Tryz.prog) 123 123 i Tryz.underlying123 hi hz hsize hby hR hb.size (d[f + j]) (by rw [hlen]; omega)
        rw [show (d.drop f).take j ++ [d[f + j]] = (d.drop f).take (j + 1) by rw [List.take_add_one, List.getElem?_drop, List.getElem?_eq_getElem hfl]; rfl] at hap
        rw [hlen] at hap hR ⊢
        have HB := Lib.hid hb
        have g1 : (f : Int) + (j : Int) < (d.length : Int) := by omega
        have g2 : (j : Int) < count := by omega
        have g3 : (j : Int) < 256 := by omega
        have g4 : ((f : Int) + (j : Int)).toNat = f + j := by omega
        have g5 : (0 : Int) ≤ (f : Int) + (j : Int) := by omega
        have g6 : IntKind.i64.wrap ((f : Int) + (j : Int) + 1) = (f : Int) + ((j + 1 : Nat) : Int) := by rw [IntWalk.i64_in _ (by omega)]; omega
        go_wp2_with (first | (refine wpList_append_by (by rfl) (.tmp 34) (.tmp 38) #[123, 123] (by rfl) _ _ (by rfl) (by rfl) hap ?_; rintro v' w' ⟨hR', hb'⟩) | fail)
        have HR := Lib.hid hR'
        have HB2 := Lib.hid (hb' w HB.out)
        obtain ⟨A', c', rfl⟩ := hR'.len
        have hlen' : ((d.drop f).take (j + 1)).length = j + 1 := by rw [List.length_take, List.length_drop]; omega
        rw [hlen'] at HR ⊢
        clear hR hap hR' hb' HB
        go_wp2
        go_roundw
        case rel => exact ⟨j + 1, by omega, rfl, HR.out, HB2.out⟩
        case measure => simp [lenV]; omega
      · obtain rfl : j = N := by omega
        have hstr := hR.string (P := Tryz.prog) 123 9 Tryz.underlying123 Tryz.underlying5 Tryz.underlying9
        clear hR
        rw [hlen] at hstr ⊢
        go_wp2
        all_goals first
          | (go_ret2; exact ⟨refread_leaf HF.out HN.out (by rw [Bool.eq_iff_iff]; simp; omega), hb⟩)
          | (have hNv := HV.out; exfalso; omega)
  · have hf0 : f = d.length := by omega
    have hnl : ¬ (d.length : Int) < 0 := by omega
    have HF0 := Lib.hid hf0
    have HV := Lib.hid hNv
    have hNf : N ≤ 256 ∧ N + f ≤ d.length ∧ (N : Int) ≤ max count 0 := by omega
    clear hf0 hfv hNv
    go_enter Tryz.func87, Tryz.ntmps87
    go_wp2
    go_loopw [8, 9] (fun out iv wr => ∃ j : Nat, j ≤ N ∧ iv = .int .i64 ((f : Int) + (j : Int)) ∧ RowB wr w.heap.size 5 out ((d.drop f).take j) ∧ Below w.heap.size w wr) (fun out _ _ => N - lenV out)
    case atStart => exact ⟨0, Nat.zero_le _, by rw [HF0.out]; simp, by rw [List.take_zero]; exact RowB.none_, Below.refl _ _⟩
    case round =>
      clear h1 h2 hnl
      obtain ⟨j, hj, rfl, hR, hb⟩ := hrel
      obtain ⟨A, c, rfl⟩ := hR.len
      have hlen : ((d.drop f).take j).length = j := by rw [List.length_take, List.length_drop]; omega
      have hfj : f + j ≤ d.length := by omega
      by_cases hlt : j < N
      · have hfl : f + j < d.length := by omega
        have hap := RowB.append (P := Tryz.prog) 123 123 i Tryz.underlying123 hi hz hsize hby hR hb.size (d[f + j]) (by rw [hlen]; omega)
        rw [show (d.drop f).take j ++ [d[f + j]] = (d.drop f).take (j + 1) by rw [List.take_add_one, List.getElem?_drop, List.getElem?_eq_getElem hfl]; rfl] at hap
        rw [hlen] at hap hR ⊢
        have HB := Lib.hid hb
        have g1 : (f : Int) + (j : Int) < (d.length : Int) := by omega
        have g2 : (j : Int) < count := by omega
        have g3 : (j : Int) < 256 := by omega
        have g4 : ((f : Int) + (j : Int)).toNat = f + j := by omega
        have g5 : (0 : Int) ≤ (f : Int) + (j : Int) := by omega
        have g6 : IntKind.i64.wrap ((f : Int) + (j : Int) + 1) = (f : Int) + ((j + 1 : Nat) : Int) := by rw [IntWalk.i64_in _ (by omega)]; omega
        go_wp2_with (first | (refine wpList_append_by (by rfl) (.tmp 34) (.tmp 38) #[123, 123] (by rfl) _ _ (by rfl) (by rfl) hap ?_; rintro v' w' ⟨hR', hb'⟩) | fail)
        have HR := Lib.hid hR'
        have HB2 := Lib.hid (hb' w HB.out)
        obtain ⟨A', c', rfl⟩ := hR'.len
        have hlen' : ((d.drop f).take (j + 1)).length = j + 1 := by rw [List.length_take, List.length_drop]; omega
        rw [hlen'] at HR ⊢
        clear hR hap hR' hb' HB
        go_wp2
        go_roundw
        case rel => exact ⟨j + 1, by omega, rfl, HR.out, HB2.out⟩
        case measure => simp [lenV]; omega
      · obtain rfl : j = N := by omega
        have hstr := hR.string (P := Tryz.prog) 123 9 Tryz.underlying123 Tryz.underlying5 Tryz.underlying9
        clear hR
        rw [hlen] at hstr ⊢
        go_wp2
        all_goals first
          | (go_ret2; exact ⟨refread_leaf HF.out HN.out (by rw [Bool.eq_iff_iff]; simp; omega), hb⟩)
          | (have hNv := HV.out; exfalso; omega)
end Go.Proofs.YtgifmpobokaejaaGreatDoor
