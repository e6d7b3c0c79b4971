/-
  Layer 20, walks: the document's resizing, writing and reading of bytes. Conditions: texts of at most 2^20 bytes.
-/
import Derived.Test.YtjkpcbbiihedaaaNodeWalkB
import Derived.Test.YtjkpcbbiihedaaaByteRow
namespace Go.Proofs.Ytjkpcbbiihedaaa
open Go.RowKit
attribute [local go_sem ↓] Go.wp_at_zero Go.wp_at_succ
attribute [local go_sem] rowAt_ptr rowOf_drew rowOf_drewN rowOf_alloc_past rowOf_new
attribute [local go_sem] bs_take bs_drop bs_get

def lenV : Value → Nat
  | .slice _ n _ => n
  | _ => 0
theorem infoU8n : ∃ i, Try.prog.info? 5 = some i ∧ i.zero = some (.int .u8 0) ∧ i.size = 1 ∧ i.bytes = 1 := by
  have h : (Try.prog.info? 5).map (fun i => (i.zero, i.size, i.bytes)) = some (some (.int .u8 0), 1, 1) := by kernel_rfl
  cases hi : Try.prog.info? 5 with
  | none => rw [hi] at h; cases h
  | some i =>
    rw [hi] at h
    simp at h
    exact ⟨i, rfl, h.1, h.2.1, h.2.2⟩
theorem RowB.parts {w : World} {B : Nat} {e : TypeId} {v : Value} {l : List UInt8} (h : RowB w B e v l) : (v = .slice none 0 0 ∧ l = []) ∨ ∃ g c, v = .slice (some ⟨g, 0, none⟩) l.length c ∧ l.length ≤ c := by
  rcases h with h | ⟨g, cs, hv, _, hl, _⟩
  · exact .inl h
  · exact .inr ⟨g, _, hv, hl⟩

set_option maxRecDepth 20000 in
set_option maxHeartbeats 1600000 in
theorem refResize_any (d : List UInt8) (n : Int) (w : World) (hl : d.length ≤ 1048576) (hn : -9223372036854775808 ≤ n ∧ n ≤ 9223372036854775807) :
    Calls Try.prog 21 #[.string (bs d), .int .i64 n] w fun e w' => e = .returned (.tuple #[.string (bs (nResize d n).1), .int .i64 (nResize d n).2]) ∧ Below w.heap.size w w' := by
  by_cases h0 : n < 0
  · have HS := Lib.hid (show nResize d n = ([], 22) by simp [nResize, h0])
    go_enter Try.func21, Try.ntmps21
    go_wp2
    go_ret2
    rw [HS.out]
    exact ⟨rfl, Below.refl _ _⟩
  · by_cases h1 : 1024 < n
    · have HS := Lib.hid (show nResize d n = ([], 27) by simp [nResize, h0, h1])
      go_enter Try.func21, Try.ntmps21
      go_wp2
      go_ret2
      rw [HS.out]
      exact ⟨rfl, Below.refl _ _⟩
    · obtain ⟨k, rfl⟩ := Int.eq_ofNat_of_zero_le (show 0 ≤ n by omega)
      have HS := Lib.hid (show nResize d k = ((nFill d k).take k, 0) by simp [nResize, h1])
      obtain ⟨i, hi, hz, hsize, hby⟩ := infoU8n
      obtain ⟨v0, w0, hrun, hR, hb⟩ := RowB.of_string (P := Try.prog) w 9 80 d Try.underlying9 Try.underlying80 Try.underlying5
      have hsz0 : w.heap.size ≤ w.heap.size := Nat.le_refl _
      go_enter Try.func21, Try.ntmps21
      go_wp2
      go_loopw [6] (fun v wr => ∃ m : Nat, m ≤ k - d.length ∧ RowB wr w.heap.size 5 v (d ++ List.replicate m 0) ∧ Below w.heap.size w wr) (fun v _ => k - lenV v)
      case atStart => exact ⟨0, Nat.zero_le _, by simpa using hR, hb⟩
      case round =>
        clear hR hb hrun
        obtain ⟨m, hm, hR, hb⟩ := hrel
        obtain ⟨A, c, rfl⟩ := hR.len
        have hlen : (d ++ List.replicate m (0 : UInt8)).length = d.length + m := by simp
        by_cases hlt : d.length + m < k
        · have hap := RowB.append (P := Try.prog) 80 80 i Try.underlying80 hi hz hsize hby hR hb.size 0 (by rw [hlen]; omega)
          rw [hlen] at hap hR ⊢
          have HB := Lib.hid hb
          go_wp2_with (first | (refine wpList_append_by (by rfl) (.tmp 17) (.tmp 18) #[80, 80] (by rfl) _ _ (by rfl) (by rfl) hap ?_; rintro v' w' ⟨hR', hb'⟩) | fail)
          have HR := Lib.hid hR'
          have HB2 := Lib.hid (hb' w HB.out)
          obtain ⟨A', c', rfl⟩ := hR'.len
          clear hR hap hR' hb' HB
          go_wp2
          go_roundw
          case rel => exact ⟨m + 1, by omega, by rw [List.replicate_succ', ← List.append_assoc]; exact HR.out, HB2.out⟩
          case measure => simp [lenV]; omega
        · have hnot : ¬ ((d.length : Int) + (m : Int)) < (k : Int) := by omega
          have hmm : m = k - d.length := by omega
          rcases hR.parts with ⟨hv, hnil⟩ | ⟨g, c, hv, hlc⟩
          · have hd0 : d = [] := (List.append_eq_nil_iff.1 hnil).1
            have hm0 : m = 0 := by have := congrArg List.length hnil; simp at this; omega
            subst hd0
            subst hm0
            obtain rfl : k = 0 := by simp at hmm; omega
            injection hv with h1 h2 h3
            subst h1 h3
            have hstr := (RowB.none_ (w := wr) (B := w.heap.size) (e := 5)).string (P := Try.prog) 80 9 Try.underlying80 Try.underlying5 Try.underlying9
            clear hR hlen hnot hlt hnil hmm
            have hz0 : ([] ++ List.replicate 0 (0 : UInt8)).length = 0 := rfl
            rw [hz0]
            go_wp2
            go_ret2
            rw [HS.out]
            exact ⟨rfl, hb⟩
          · obtain ⟨A, c2, hv2, hpre⟩ := hR.prefix_ (n := k) (by rw [hlen]; omega)
            injection hv with h1 h2 h3
            subst h1 h3
            injection hv2 with h1 h2 h3
            subst h1 h3
            have hstr := hpre.string (P := Try.prog) 80 9 Try.underlying80 Try.underlying5 Try.underlying9
            rw [hlen] at hlc hR
            have hkc : k ≤ c := by omega
            have HE := Lib.hid (show (d ++ List.replicate m (0 : UInt8)).take k = (nFill d k).take k by rw [hmm]; rfl)
            rw [HE.out] at hstr
            clear hpre hR
            generalize hr : (nFill d k).take k = r at *
            rw [hlen]
            go_wp2
            go_ret2
            rw [HS.out]
            exact ⟨rfl, hb⟩
end Go.Proofs.Ytjkpcbbiihedaaa
