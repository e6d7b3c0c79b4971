/-
  Layer 20, walks: bytes of a node are read, written, resized by the program. Conditions: texts of at most 2^20 bytes.
-/
import Derived.Test.YtfjflkmhhbhceaaGreatDoorProg
import Derived.Test.YtfjflkmhhbhceaaGreatDoorW06
import Derived.Test.YtfjflkmhhbhceaaGreatDoorW27
import Derived.Lib.Repeat
import Derived.Deep.Light
namespace Go.Proofs.YtfjflkmhhbhceaaGreatDoor
open Go.RowKit
end Go.Proofs.YtfjflkmhhbhceaaGreatDoor

/-
  Layer 20, walks: the law NodeWritten. No condition but machine numbers.
-/
namespace Go.Proofs.YtfjflkmhhbhceaaGreatDoor
open Go.RowKit
end Go.Proofs.YtfjflkmhhbhceaaGreatDoor


/-
  Layer 20, walks: the document's resizing, writing and reading of bytes. Conditions: texts of at most 2^20 bytes.
-/
namespace Go.Proofs.YtfjflkmhhbhceaaGreatDoor
open Go.RowKit
attribute [local go_sem ↓] Go.wp_at_zero Go.wp_at_succ
attribute [local go_sem] rowAt_ptr rowOf_drew rowOf_drewN rowOf_alloc_past rowOf_new
attribute [local go_sem] bs_take bs_drop bs_get

def lenV : Value → Nat
  | .slice _ n _ => n
  | _ => 0
theorem infoU8n : ∃ i, Tryz.prog.info? 5 = some i ∧ i.zero = some (.int .u8 0) ∧ i.size = 1 ∧ i.bytes = 1 := by
  have h : (Tryz.prog.info? 5).map (fun i => (i.zero, i.size, i.bytes)) = some (some (.int .u8 0), 1, 1) := by kernel_rfl
  cases hi : Tryz.prog.info? 5 with
  | none => rw [hi] at h; cases h
  | some i =>
    rw [hi] at h
    simp at h
    exact ⟨i, rfl, h.1, h.2.1, h.2.2⟩
theorem RowB.parts {w : World} {B : Nat} {e : TypeId} {v : Value} {l : List UInt8} (h : RowB w B e v l) : (v = .slice none 0 0 ∧ l = []) ∨ ∃ g c, v = .slice (some ⟨g, 0, none⟩) l.length c ∧ l.length ≤ c := by
  rcases h with h | ⟨g, cs, hv, _, hl, _⟩
  · exact .inl h
  · exact .inr ⟨g, _, hv, hl⟩

end Go.Proofs.YtfjflkmhhbhceaaGreatDoor


/-
  Layer 20, walks: the document's writing of bytes. Conditions: texts of at most 2^20 bytes.
-/
namespace Go.Proofs.YtfjflkmhhbhceaaGreatDoor
open Go.RowKit
attribute [local go_sem ↓] Go.wp_at_zero Go.wp_at_succ
attribute [local go_sem] rowAt_ptr rowOf_drew rowOf_drewN rowOf_alloc_past rowOf_new
attribute [local go_sem] bs_take bs_drop bs_get

/-- the first j bytes of a text are laid at k -/
def laidK (F : List UInt8) (k : Nat) (t : List UInt8) (j : Nat) : List UInt8 := F.take k ++ (t.take j ++ F.drop (k + j))
theorem laidK_zero (F : List UInt8) (k : Nat) (t : List UInt8) : laidK F k t 0 = F := by simp [laidK]
theorem laidK_len (F : List UInt8) (k : Nat) (t : List UInt8) (j : Nat) (hj : j ≤ t.length) (h : k + t.length ≤ F.length) : (laidK F k t j).length = F.length := by
  simp [laidK]; omega
theorem laidK_step (F : List UInt8) (k : Nat) (t : List UInt8) (j : Nat) (hj : j < t.length) (h : k + t.length ≤ F.length) : (laidK F k t j).set (k + j) t[j] = laidK F k t (j + 1) := by
  have h1 : (F.take k).length = k := by simp; omega
  have h2 : (t.take j).length = j := by simp; omega
  unfold laidK
  rw [List.set_append_right _ _ (by omega), h1, List.set_append_right _ _ (by omega), h2, show k + j - k - j = 0 by omega, List.take_add_one, List.getElem?_eq_getElem hj, List.drop_eq_getElem_cons (show k + j < F.length by omega)]
  simp only [List.set_cons_zero, Option.toList_some, List.append_assoc, List.singleton_append, Nat.add_assoc]
theorem laidK_end (F : List UInt8) (k : Nat) (t : List UInt8) : laidK F k t t.length = F.take k ++ (t ++ F.drop (k + t.length)) := by simp [laidK]

set_option maxRecDepth 20000 in
set_option maxHeartbeats 1600000 in
theorem refWrite_any (d : List UInt8) (off : Int) (t : List UInt8) (w : World) (_hl : d.length ≤ 1048576) (ht : t.length ≤ 1048576) (ho : -9223372036854775808 ≤ off ∧ off ≤ 9223372036854775807) :
    Calls Tryz.prog 18 #[.string (bs d), .int .i64 off, .string (bs t)] w fun e w' => e = .returned (.tuple #[.string (bs (nWrite d off t).1), .int .i64 (nWrite d off t).2]) ∧ Below w.heap.size w w' := by
  have hst := bs_size t
  by_cases h0 : off < 0
  · have HS := Lib.hid (show nWrite d off t = ([], 22) by simp [nWrite, h0])
    go_enter Tryz.func18, Tryz.ntmps18
    go_wp2
    go_ret2
    rw [HS.out]
    exact ⟨rfl, Below.refl _ _⟩
  · by_cases h1 : t = []
    · subst h1
      have HS := Lib.hid (show nWrite d off [] = (d, 0) by simp [nWrite, h0])
      go_enter Tryz.func18, Tryz.ntmps18
      go_wp2
      go_ret2
      rw [HS.out]
      exact ⟨rfl, Below.refl _ _⟩
    · have hne : t.isEmpty = false := by simpa using h1
      by_cases h2 : 1024 < off ∨ 1024 - off < (t.length : Int)
      · have HS := Lib.hid (show nWrite d off t = ([], 27) by simp [nWrite, h0, h1, h2])
        clear h1
        by_cases h3 : 1024 < off
        all_goals
          go_enter Tryz.func18, Tryz.ntmps18
          go_wp2
          go_ret2
          rw [HS.out]
          exact ⟨rfl, Below.refl _ _⟩
      · obtain ⟨k, rfl⟩ := Int.eq_ofNat_of_zero_le (show 0 ≤ off by omega)
        have HS := Lib.hid (show nWrite d k t = ((nFill d (k + t.length)).take k ++ (t ++ (nFill d (k + t.length)).drop (k + t.length)), 0) by simp [nWrite, h1, h2])
        have htp : 0 < t.length := by cases t <;> simp_all
        have hk1 : k + t.length ≤ 1024 := by omega
        have hg1 : ¬ (1024 : Int) < (k : Int) := by omega
        have hg2 : ¬ (1024 : Int) - (k : Int) < (t.length : Int) := by omega
        have e1 : IntKind.i64.wrap ((k : Int) + (t.length : Int)) = (k : Int) + (t.length : Int) := IntWalk.i64_in _ (by omega)
        clear h1 h2
        obtain ⟨i, hi, hz, hsize, hby⟩ := infoU8n
        obtain ⟨v0, w0, hrun, hR, hb⟩ := RowB.of_string (P := Tryz.prog) w 9 124 d Tryz.underlying9 Tryz.underlying124 Tryz.underlying5
        go_enter Tryz.func18, Tryz.ntmps18
        go_wp2
        go_loopw [8] (fun v wr => ∃ m : Nat, m ≤ k + t.length - d.length ∧ RowB wr w.heap.size 5 v (d ++ List.replicate m 0) ∧ Below w.heap.size w wr) (fun v _ => k + t.length - lenV v)
        case atStart => exact ⟨0, Nat.zero_le _, by simpa using hR, hb⟩
        case round =>
          clear hR hb hrun
          obtain ⟨m, hm, hR, hb⟩ := hrel
          obtain ⟨A, c, rfl⟩ := hR.len
          have hlen : (d ++ List.replicate m (0 : UInt8)).length = d.length + m := by simp
          by_cases hlt : d.length + m < k + t.length
          · have hap := RowB.append (P := Tryz.prog) 124 124 i Tryz.underlying124 hi hz hsize hby hR hb.size 0 (by rw [hlen]; omega)
            have hgd : ((d.length : Int) + (m : Int)) < (k : Int) + (t.length : Int) := by omega
            rw [hlen] at hap hR ⊢
            have HB := Lib.hid hb
            go_wp2_with (first | (refine wpList_append_by (by rfl) (.tmp 33) (.tmp 34) #[124, 124] (by rfl) _ _ (by rfl) (by rfl) hap ?_; rintro v' w' ⟨hR', hb'⟩) | fail)
            have HR := Lib.hid hR'
            have HB2 := Lib.hid (hb' w HB.out)
            obtain ⟨A', c', rfl⟩ := hR'.len
            clear hR hap hR' hb' HB
            go_wp2
            go_roundw
            case rel => exact ⟨m + 1, by omega, by rw [List.replicate_succ', ← List.append_assoc]; exact HR.out, HB2.out⟩
            case measure => simp [lenV]; omega
          · have hnot : ¬ ((d.length : Int) + (m : Int)) < (k : Int) + (t.length : Int) := by omega
            obtain rfl : m = k + t.length - d.length := by omega
            have hF : d ++ List.replicate (k + t.length - d.length) 0 = nFill d (k + t.length) := rfl
            rw [hF] at hR hlen ⊢
            generalize nFill d (k + t.length) = F at *
            have hkF : k + t.length ≤ F.length := by omega
            rcases hR.parts with ⟨hv, hnil⟩ | ⟨g, c, hv, hlc⟩
            · have hz : F.length = 0 := by rw [hnil]; rfl
              omega
            · injection hv with hv1 hv2 hv3
              subst hv1 hv3
              rw [hlen]
              clear hF
              go_wp2
              rw [← hlen] at *
              go_loopw [9] (fun iv wr => ∃ j : Nat, j ≤ t.length ∧ iv = .int .i64 j ∧ RowB wr w.heap.size 5 (.slice (some ⟨g, 0, none⟩) F.length c) (laidK F k t j) ∧ Below w.heap.size w wr) (fun iv _ => t.length - (intOf iv).toNat)
              case atStart => exact ⟨0, Nat.zero_le _, rfl, by rw [laidK_zero]; exact hR, hb⟩
              case round =>
                clear hR hb
                obtain ⟨j, hj, rfl, hR, hb⟩ := hrel
                by_cases hlt : j < t.length
                · have hkj : k + j < (laidK F k t j).length := by rw [laidK_len F k t j hj hkF]; omega
                  obtain ⟨g2, c2, hv2, _, hBg, hcell, hfz, hR2⟩ := hR.store hkj t[j]
                  injection hv2 with hv1 hv2 hv3
                  injection hv1 with hv1
                  injection hv1 with hv1
                  subst hv1 hv3
                  rw [laidK_step F k t j hlt hkF] at hR2
                  have HR := Lib.hid hR2
                  have HB := Lib.hid (hb.setCell (p := ⟨g, k + j, none⟩) hBg (u8 t[j]))
                  generalize (laidK F k t j)[k + j] = old at *
                  have e3 : IntKind.i64.wrap ((k : Int) + (j : Int)) = (k : Int) + (j : Int) := IntWalk.i64_in _ (by omega)
                  have e4 : ((k : Int) + (j : Int)).toNat = k + j := by omega
                  have e5 : (0 : Int) ≤ (k : Int) + (j : Int) := by omega
                  have e6 : (k : Int) + (j : Int) < (F.length : Int) := by omega
                  clear hR hR2 hb hkj hv2
                  go_wp2_with fail
                  go_roundw
                  case rel => exact ⟨j + 1, by omega, by go_num, HR.out, HB.out⟩
                  case measure => simp [intOf]; omega
                · obtain rfl : j = t.length := by omega
                  rw [laidK_end] at hR
                  have hstr := hR.string (P := Tryz.prog) 124 9 Tryz.underlying124 Tryz.underlying5 Tryz.underlying9
                  clear hR
                  go_wp2
                  go_ret2
                  rw [HS.out]
                  exact ⟨rfl, hb⟩
end Go.Proofs.YtfjflkmhhbhceaaGreatDoor
