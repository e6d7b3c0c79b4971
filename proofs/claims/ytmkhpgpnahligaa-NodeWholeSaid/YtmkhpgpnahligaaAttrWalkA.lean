/-
  Layer 5, walks: whether options may be, by the program and by the reference. No condition.
-/
import Derived.Test.YtmkhpgpnahligaaProg
import Derived.Test.YtmkhpgpnahligaaAttrPure
import Derived.Test.YtmkhpgpnahligaaCells
import Derived.OpenShut
namespace Go.Proofs.Ytmkhpgpnahligaa
open Go.RowKit
attribute [local go_sem ↓] Go.wp_at_zero Go.wp_at_succ

def limV (p : Int × Int) : List Value := [.int .i64 p.1, .int .i64 p.2]
theorem limV_one (p : Int × Int) : ∀ v ∈ limV p, v.oneCell' = true := by
  intro v hv
  unfold limV at hv
  simp only [List.mem_cons, List.not_mem_nil, or_false] at hv
  rcases hv with rfl | rfl <;> rfl
theorem infoLimit : (Try.prog.info? 127).map (fun i => (i.zero, i.size)) = some (some (.agg #[.int .i64 0, .int .i64 0]), 2) := by kernel_rfl
def inLim (p : Int × Int) : Bool := okN p.1 p.2
theorem all_step {α : Type} {p : α → Bool} {l : List α} {k : Nat} (hk : k < l.length) (hn : (l.take k).all p = true) (h : p l[k] = true) : (l.take (k + 1)).all p = true := by
  rw [take_next _ _ hk, List.all_append, hn]; simp [h]
theorem all_hit {α : Type} {p : α → Bool} {l : List α} {k : Nat} (hk : k < l.length) (h : p l[k] = false) : l.all p = false :=
  List.all_eq_false.2 ⟨_, List.getElem_mem hk, by simp [h]⟩
theorem all_end {α : Type} {p : α → Bool} {l : List α} {k : Nat} (hk : l.length ≤ k) (hn : (l.take k).all p = true) : l.all p = true := by
  rwa [List.take_of_length_le hk] at hn

set_option maxHeartbeats 800000 in
theorem within_any (A : Option Addr) (c : Nat) (ls : List (Int × Int)) (w : World) (hl : ls.length ≤ 1000000) (hA : At w 2 A (ls.map limV)) :
    Calls Try.prog 85 #[.slice A ls.length c] w fun e w' => e = .returned (.bool (ls.all inLim)) ∧ Below w.heap.size w w' := by
  go_enter Try.func85, Try.ntmps85
  go_wp2
  go_loopw [7] (fun i wr => ∃ k : Nat, k ≤ ls.length ∧ i = .int .i64 k ∧ (ls.take k).all inLim = true ∧ Below w.heap.size w wr) (fun i _ => ls.length - (intOf i).toNat)
  case atStart => exact ⟨0, Nat.zero_le _, rfl, rfl, Below.refl _ _⟩
  case round =>
    obtain ⟨k, hk, rfl, hn, hB⟩ := hrel
    by_cases hlt : k < ls.length
    · obtain ⟨b, off, rfl, hb, hc⟩ := (hA.below hB).getD (k := k) (by simpa using hlt)
      have hc' : ∀ j u, (limV ls[k])[j]? = some u → wr.cell? ⟨b, off + k * 2 + j, none⟩ = some u := fun j u hu => hc j u (by simpa using hu)
      have hr0 := range_new wr (limV ls[k]) 127 0 _ rfl
      have hr1 := range_new wr (limV ls[k]) 127 1 _ rfl
      have hB1 := hB.alloc hB.size (.cells (limV ls[k]).toArray 127)
      by_cases h : inLim ls[k] = true
      · have HS := Lib.hid (all_step hlt hn h)
        simp only [inLim, okN, Bool.and_eq_true, decide_eq_true_eq] at h
        obtain ⟨h1, h2⟩ := h
        clear hc hn
        go_wp2_with (first
          | (refine wpList_load_mid (by rfl) 127 _ (by rfl) _ _ (by rfl) _ _ (by exact hc') Try.underlying127 (by rfl) (by kernel_rfl) ?_)
          | (refine wpList_new_struct (by rfl) (by rfl) 127 (by rfl) _ _ (by rfl) (limV ls[k]) infoLimit (by rfl) (by rfl) (limV_one _) (by rfl) (by rfl) ?_)
          | fail)
        go_roundw
        case rel => exact ⟨k + 1, by omega, by go_num, HS.out, hB1⟩
        case measure => simp [intOf]; omega
      · rw [Bool.not_eq_true] at h
        have HS := Lib.hid (all_hit hlt h)
        simp only [inLim, okN, Bool.and_eq_false_iff, decide_eq_false_iff_not] at h
        clear hc hn
        by_cases h0 : ls[k].1 < 0
        · go_wp2_with (first
            | (refine wpList_load_mid (by rfl) 127 _ (by rfl) _ _ (by rfl) _ _ (by exact hc') Try.underlying127 (by rfl) (by kernel_rfl) ?_)
            | (refine wpList_new_struct (by rfl) (by rfl) 127 (by rfl) _ _ (by rfl) (limV ls[k]) infoLimit (by rfl) (by rfl) (limV_one _) (by rfl) (by rfl) ?_)
            | fail)
          go_ret
          exact ⟨ret_bool HS.out.symm, hB1⟩
        · have h2 : ls[k].2 < ls[k].1 := by rcases h with h | h <;> omega
          go_wp2_with (first
            | (refine wpList_load_mid (by rfl) 127 _ (by rfl) _ _ (by rfl) _ _ (by exact hc') Try.underlying127 (by rfl) (by kernel_rfl) ?_)
            | (refine wpList_new_struct (by rfl) (by rfl) 127 (by rfl) _ _ (by rfl) (limV ls[k]) infoLimit (by rfl) (by rfl) (limV_one _) (by rfl) (by rfl) ?_)
            | fail)
          go_ret
          exact ⟨ret_bool HS.out.symm, hB1⟩
    · have HE := Lib.hid (all_end (by omega) hn)
      clear hn hA
      go_wp2
      go_ret
      exact ⟨ret_bool HE.out.symm, hB⟩

set_option maxHeartbeats 800000 in
theorem option_any (o : Opt) (most : Int) (w : World) :
    Calls Try.prog 82 #[.agg o.vals.toArray, .int .i64 most] w fun e w' => e = .returned (.bool (o.ok most)) ∧ Below w.heap.size w w' := by
  have hr := range_new w o.vals 41
  have hc0 := hr 0 _ rfl
  have hc1 := hr 1 _ rfl
  have hB0 : Below w.heap.size w (w.alloc (.cells o.vals.toArray 41)) := (Below.refl _ _).alloc (Nat.le_refl _) _
  clear hr
  obtain ⟨is, n⟩ := o
  unfold Opt.vals at *
  cases is
  · go_enter Try.func82, Try.ntmps82
    go_wp2
    go_ret
    exact ⟨rfl, hB0⟩
  · have hA : At ((w.alloc (.cells #[.bool true, .int .i64 n] 41)).alloc (.cells #[.int .i64 n, .int .i64 most] 127)) 2 (some ⟨w.heap.size + 1, 0, none⟩) [limV (n, most)] := At.fresh _ _ _ _ _ (by simp [limV]) (by simp)
    have HA := Lib.hid hA
    clear hA
    have hB1 := hB0.alloc hB0.size (.cells #[.int .i64 n, .int .i64 most] 127)
    go_enter Try.func82, Try.ntmps82
    go_wp2_with fail
    refine (within_any (some ⟨w.heap.size + 1, 0, none⟩) 1 [(n, most)] _ (by simp) HA.out).mono ?_
    rintro e w2 ⟨rfl, hb⟩
    have HB := Lib.hid (below_then hB1 hb)
    clear hb
    go_wp2
    go_ret
    exact ⟨ret_bool (by simp [Opt.ok, inLim]), HB.out⟩

end Go.Proofs.Ytmkhpgpnahligaa
