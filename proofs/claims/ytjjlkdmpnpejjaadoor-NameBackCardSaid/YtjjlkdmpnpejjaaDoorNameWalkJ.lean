/-
  Layer 4, walks: paths and their pieces, by both; two lists. Condition: machine texts; the library's own number is some number.
-/
import Derived.Test.YtjjlkdmpnpejjaaDoorNameWalkH
import Derived.Test.YtjjlkdmpnpejjaaDoorNameSplitPure
namespace Go.Proofs.YtjjlkdmpnpejjaaDoor
open Go.RowKit
attribute [local go_sem ↓] Go.wp_at_zero Go.wp_at_succ
attribute [local go_sem] rowAt_ptr rowOf_drew rowOf_drewN rowOf_alloc_past rowOf_new

/-- the library's own number (bytealg.MaxLen) is some number -/
def MxLen (w : World) : Prop := ∃ m, w.cell? ⟨0, 0, none⟩ = some (.int .i64 m)
theorem MxLen.below {w w' : World} (h : MxLen w) (hb : Below w.heap.size w w') : MxLen w' := by
  obtain ⟨m, h⟩ := h
  exact ⟨m, (hb.cell (p := ⟨0, 0, none⟩) (World.block_lt_of_cell? w _ h)).trans h⟩
theorem strs_append {w : World} {B : Nat} {v : Value} {ps : List (List UInt8)} (h : RowS w B 9 1 v (ps.map str1)) (hB : B ≤ w.heap.size) (p : List UInt8) (hl : ps.length ≤ 1000000000) :
    ∃ v' w', (Builtin.append_ #[22, 22] 22 #[v, .slice (some ⟨w.heap.size, 0, none⟩) 1 1]).run Tryd.prog (w.alloc (.cells #[.string (bs p)] 9)) = .ok v' w' ∧
      (RowS w' B 9 1 v' ((ps ++ [p]).map str1) ∧ ∀ a, Below B a w → Below B a w') := by
  obtain ⟨i0, hi, hz, hsize, hby⟩ := info_parts infoStrB
  obtain ⟨v', w', hr, hR, hb⟩ := RowS.append (P := Tryd.prog) 22 22 i0 Tryd.underlying22 hi hz hsize hby rfl (by omega) (by omega) h hB (str1 p) rfl (by
    intro u hu
    simp only [str1, List.mem_cons, List.not_mem_nil, or_false] at hu
    subst hu; rfl) (by rw [List.length_map]; exact hl)
  exact ⟨v', w', hr, by rw [List.map_append]; exact hR, hb⟩
/-- a slice of these texts, of the call's own -/
def StrsPost (w : World) (ps : List (List UInt8)) (e : Ending) (w' : World) : Prop := ∃ v, e = .returned v ∧ RowS w' w.heap.size 9 1 v (ps.map str1) ∧ Below w.heap.size w w'
theorem StrsPost.of {w w' : World} {ps : List (List UInt8)} {v : Value} (hR : RowS w' w.heap.size 9 1 v (ps.map str1)) (hb : Below w.heap.size w w') : StrsPost w ps (.returned v) w' := ⟨v, rfl, hR, hb⟩

theorem take_filter {l : List (List UInt8)} {k : Nat} (hk : k < l.length) : (l.take (k + 1)).filter (fun p => !(p == [])) = (l.take k).filter (fun p => !(p == [])) ++ if l[k] = [] then [] else [l[k]] := by
  rw [take_next _ _ hk, List.filter_append]
  congr 1
  by_cases h : l[k] = []
  · rw [if_pos h, List.filter_cons, if_neg (by simp [h]), List.filter_nil]
  · rw [if_neg h, List.filter_cons, if_pos (by simp [h]), List.filter_nil]

set_option maxRecDepth 20000 in
set_option maxHeartbeats 1600000 in
theorem split4_any (l : List UInt8) (w : World) (hl : l.length ≤ 1000000) (hm : MxLen w) : Calls Tryd.prog 10 #[.string (bs l)] w (StrsPost w (fieldsL l)) := by
  obtain ⟨m, hm⟩ := hm
  have HC := Lib.hid (Tryd.strings_Split (bs l) (bs [47]) m w (by rw [bs_size]; omega) hm (Nat.le_refl _))
  rw [splitB_pieces] at HC
  have hlen := pieces_len l
  have hcl := Lib.countB_le (bs [47]) (Nat.le_refl _) _ (bs l) (Nat.le_refl _)
  rw [bs_size] at hcl
  obtain ⟨ps, hps⟩ : ∃ ps, ps = pieces [] l := ⟨_, rfl⟩
  rw [← hps] at HC hlen
  rw [← hlen] at HC
  have hF : fieldsL l = ps.filter (fun p => !(p == [])) := by rw [hps]; rfl
  have HF := Lib.hid hF
  have hpl : ps.length ≤ 1000001 := by omega
  generalize fieldsL l = F at *
  clear hm hlen hcl hps hF
  go_enter Tryd.func10, Tryd.ntmps10
  go_wp2_with fail
  refine HC.out.mono ?_
  rintro e w1 ⟨rfl, hw1⟩
  have hA : At w1 1 (some ⟨w.heap.size, 0, none⟩) (ps.map str1) := by
    intro i r hr
    rw [List.getElem?_map] at hr
    obtain ⟨q, hq, rfl⟩ := Option.map_eq_some_iff.1 hr
    refine ⟨w.heap.size, 0, rfl, by rw [hw1]; simp, fun j u hu => ?_⟩
    rcases j with _ | j
    · simp [str1] at hu
      subst hu
      rw [hw1, World.cell?_alloc_at _ _ _ _ rfl]
      simp [List.getElem?_map, hq]
    · simp [str1] at hu
  have hb1 : Below w.heap.size w w1 := by rw [hw1]; exact (Below.refl _ _).alloc (Nat.le_refl _) _
  clear hw1 HC
  go_wp2
  go_loopw [3, 9] (fun v i wr => ∃ k : Nat, k ≤ ps.length ∧ i = .int .i64 k ∧ RowS wr w1.heap.size 9 1 v (((ps.take k).filter (fun p => !(p == []))).map str1) ∧ Below w1.heap.size w1 wr) (fun _ i _ => ps.length - (intOf i).toNat)
  case atStart => exact ⟨0, Nat.zero_le _, rfl, by simpa using RowS.none_, Below.refl _ _⟩
  case round =>
    obtain ⟨k, hk, rfl, hR, hb⟩ := hrel
    by_cases hlk : k < ps.length
    · obtain ⟨b, off, e, -, hc⟩ := hA.below hb |>.getD (k := k) (by simpa using hlk)
      injection e with e
      injection e with e1 e2 _
      subst e1 e2
      have hcell : wr.cell? ⟨w.heap.size, k, none⟩ = some (.string (bs ps[k])) := by
        have := hc 0 (.string (bs ps[k])) (by simp [str1])
        simpa using this
      have hk0 : (0 : Int) ≤ (k : Int) := Int.natCast_nonneg _
      have hk1 : (k : Int) < (ps.length : Int) := by omega
      have hfl : ((ps.take k).filter fun p => !(p == [])).length ≤ ps.length := Nat.le_trans (List.length_filter_le _ _) (by rw [List.length_take]; omega)
      have HT := Lib.hid (take_filter hlk)
      have HB := Lib.hid hb
      clear hc hb
      by_cases hp : ps[k] = []
      · have hp2 : (ps[k] == []) = true := by simpa using hp
        have HR := Lib.hid (show RowS wr w1.heap.size 9 1 u3 (((ps.take (k + 1)).filter fun p => !(p == [])).map str1) by rw [HT.out, if_pos hp, List.append_nil]; exact hR)
        clear hp hR
        go_wp2
        go_roundw
        case rel => exact ⟨k + 1, by omega, by go_num, HR.out, HB.out⟩
        case measure => simp [intOf]; omega
      · have hp2 : (ps[k] == []) = false := by simpa using hp
        have HA := Lib.hid (strs_append hR HB.out.size ps[k] (by omega))
        rw [if_neg hp] at HT
        rw [← HT.out] at HA
        clear hp hR
        go_wp2_with (first | (refine wpList_append_by (by rfl) (.tmp 15) (.tmp 17) #[22, 22] (by rfl) _ _ (by rfl) (by rfl) HA.out ?_; rintro v' w' ⟨hR', hb'⟩; have HR2 := Lib.hid hR'; have HB2 := Lib.hid (hb' w1 HB.out); clear hR' hb' HA) | fail)
        go_roundw
        case rel => exact ⟨k + 1, by omega, by go_num, HR2.out, HB2.out⟩
        case measure => simp [intOf]; omega
    · obtain rfl : k = ps.length := by omega
      rw [List.take_length, ← HF.out] at hR
      have HR := Lib.hid (hR.base hb1.size)
      have HB := Lib.hid (below_then hb1 hb)
      have hk1 : ¬ (ps.length : Int) < (ps.length : Int) := by omega
      clear hR hb hA
      go_wp2
      go_ret
      exact ⟨u3, rfl, HR.out, HB.out⟩

/-- in the document's loop -/
theorem pieces_step {l : List UInt8} {f i : Nat} (hi : i < l.length) (hf : f ≤ i) :
    pieces ((l.drop f).take (i - f)) (l.drop i) = if l[i] = 47 then (l.drop f).take (i - f) :: pieces [] (l.drop (i + 1)) else pieces ((l.drop f).take (i + 1 - f)) (l.drop (i + 1)) := by
  rw [← List.getElem_cons_drop hi, pieces]
  have e : (l.drop f).take (i + 1 - f) = (l.drop f).take (i - f) ++ [l[i]] := by
    rw [show i + 1 - f = (i - f) + 1 by omega, take_next _ _ (by simp; omega), List.getElem_drop]
    congr 2
    simp only [show f + (i - f) = i by omega]
  rw [e]
def RefSp (l : List UInt8) (f i : Nat) (out : List (List UInt8)) : Prop :=
  (i ≤ l.length ∧ f ≤ i ∧ out ++ (pieces ((l.drop f).take (i - f)) (l.drop i)).filter (fun p => !(p == [])) = fieldsL l) ∨ (i = l.length + 1 ∧ out = fieldsL l)
set_option maxRecDepth 20000 in
set_option maxHeartbeats 1600000 in
theorem refSplit4_any (l : List UInt8) (w : World) (hl : l.length ≤ 1000000) : Calls Tryd.prog 11 #[.string (bs l)] w (StrsPost w (fieldsL l)) := by
  have hsz := bs_size l
  have H0 := Lib.hid (show RefSp l 0 0 [] from .inl ⟨Nat.zero_le _, Nat.le_refl _, by simp [fieldsL]⟩)
  go_enter Tryd.func11, Tryd.ntmps11
  go_wp2
  go_loopw [3, 4, 5] (fun v fv iv wr => ∃ (i f : Nat) (out : List (List UInt8)), i ≤ l.length + 1 ∧ fv = .int .i64 f ∧ iv = .int .i64 i ∧ out.length ≤ i ∧ RefSp l f i out ∧ RowS wr w.heap.size 9 1 v (out.map str1) ∧ Below w.heap.size w wr) (fun _ _ iv _ => l.length + 1 - (intOf iv).toNat)
  case atStart => exact ⟨0, 0, [], Nat.zero_le _, rfl, rfl, Nat.le_refl _, H0.out, RowS.none_, Below.refl _ _⟩
  case round =>
    clear H0
    obtain ⟨i, f, out, hi, rfl, rfl, hol, hsp, hR, hb⟩ := hrel
    have HB := Lib.hid hb
    clear hb
    by_cases hil : i ≤ l.length
    · have hii : (i : Int) ≤ (l.length : Int) := by omega
      have hi0 : (0 : Int) ≤ (i : Int) := Int.natCast_nonneg _
      have hf0 : (0 : Int) ≤ (f : Int) := Int.natCast_nonneg _
      obtain ⟨hfi, hst⟩ : f ≤ i ∧ out ++ (pieces ((l.drop f).take (i - f)) (l.drop i)).filter (fun p => !(p == [])) = fieldsL l := by
        rcases hsp with ⟨_, h1, h2⟩ | ⟨h1, _⟩
        · exact ⟨h1, h2⟩
        · omega
      have hfi2 : (f : Int) ≤ (i : Int) := by omega
      obtain ⟨cur, hcur⟩ : ∃ c, c = (l.drop f).take (i - f) := ⟨_, rfl⟩
      have hcl : cur.length = i - f := by rw [hcur]; simp; omega
      have hx : (bs l).extract f i = bs cur := by rw [hcur, bs_part]
      have hce : (cur == []) = decide (¬ (f : Int) < (i : Int)) := by
        by_cases h : f < i
        · rw [decide_eq_false (by omega)]
          exact beq_false_of_ne fun e => by rw [e] at hcl; simp at hcl; omega
        · rw [decide_eq_true (by omega)]
          rw [List.eq_nil_of_length_eq_zero (by omega : cur.length = 0)]
          rfl
      by_cases hend : i = l.length
      · subst hend
        have hst2 : out ++ (if cur = [] then [] else [cur]) = fieldsL l := by
          rw [← hst, ← hcur, List.drop_length, pieces, List.filter_cons]
          by_cases h : cur = []
          · rw [if_pos h, if_neg (by simp [h]), List.filter_nil]
          · rw [if_neg h, if_pos (by simp [h]), List.filter_nil]
        by_cases hfi3 : f < l.length
        · have hne : cur ≠ [] := fun e => by rw [e] at hcl; simp at hcl; omega
          rw [if_neg hne] at hst2
          have HS := Lib.hid (show RefSp l (l.length + 1) (l.length + 1) (out ++ [cur]) from .inr ⟨by omega, hst2⟩)
          have HA := Lib.hid (strs_append hR HB.out.size cur (by omega))
          have hfi4 : (f : Int) < (l.length : Int) := by omega
          clear hst hst2 hsp hR hcur hce hne
          go_wp2_with (first | (refine wpList_append_by (by rfl) (.tmp 25) (.tmp 30) #[22, 22] (by rfl) _ _ (by rfl) (by rfl) HA.out ?_; rintro v' w' ⟨hR', hb'⟩; have HR2 := Lib.hid hR'; have HB2 := Lib.hid (hb' w HB.out); clear hR' hb' HA) | fail)
          go_roundw
          case rel => exact ⟨l.length + 1, l.length + 1, out ++ [cur], Nat.le_refl _, rfl, rfl, by rw [List.length_append, List.length_singleton]; omega, HS.out, HR2.out, HB2.out⟩
          case measure => simp [intOf]
        · have hne : cur = [] := List.eq_nil_of_length_eq_zero (by omega)
          rw [if_pos hne, List.append_nil] at hst2
          have HS := Lib.hid (show RefSp l (l.length + 1) (l.length + 1) out from .inr ⟨by omega, hst2⟩)
          have HR := Lib.hid hR
          have hfi4 : ¬ (f : Int) < (l.length : Int) := by omega
          clear hst hst2 hsp hR hcur hce hne
          go_wp2
          go_roundw
          case rel => exact ⟨l.length + 1, l.length + 1, out, Nat.le_refl _, rfl, rfl, by omega, HS.out, HR.out, HB.out⟩
          case measure => simp [intOf]
      · have hlt : i < l.length := by omega
        have hii2 : (i : Int) < (l.length : Int) := by omega
        have he1 : ((i : Int) == (l.length : Int)) = false := by simp; omega
        have hg : (bs l)[i]'(by rw [hsz]; exact hlt) = l[i] := rfl
        have hstep := pieces_step hlt hfi
        rw [← hcur] at hstep hst
        by_cases hc : l[i] = 47
        · have hc2 : ((l[i].toNat : Int) == 47) = true := by rw [hc]; rfl
          rw [if_pos hc] at hstep
          rw [hstep, List.filter_cons] at hst
          have hz : (l.drop (i + 1)).take (i + 1 - (i + 1)) = [] := by simp
          by_cases hfi3 : f < i
          · have hne : cur ≠ [] := fun e => by rw [e] at hcl; simp at hcl; omega
            rw [if_pos (by simp [hne])] at hst
            have HS := Lib.hid (show RefSp l (i + 1) (i + 1) (out ++ [cur]) from .inl ⟨by omega, Nat.le_refl _, by rw [hz, ← hst, List.append_assoc]; rfl⟩)
            have HA := Lib.hid (strs_append hR HB.out.size cur (by omega))
            have hfi4 : (f : Int) < (i : Int) := by omega
            clear hst hstep hsp hR hcur hce hne hc
            go_wp2_with (first | (refine wpList_append_by (by rfl) (.tmp 25) (.tmp 30) #[22, 22] (by rfl) _ _ (by rfl) (by rfl) HA.out ?_; rintro v' w' ⟨hR', hb'⟩; have HR2 := Lib.hid hR'; have HB2 := Lib.hid (hb' w HB.out); clear hR' hb' HA) | fail)
            go_roundw
            case rel => exact ⟨i + 1, i + 1, out ++ [cur], by omega, by go_num, by go_num, by simp; omega, HS.out, HR2.out, HB2.out⟩
            case measure => simp [intOf]; omega
          · have hne : cur = [] := List.eq_nil_of_length_eq_zero (by omega)
            rw [if_neg (by simp [hne])] at hst
            have HS := Lib.hid (show RefSp l (i + 1) (i + 1) out from .inl ⟨by omega, Nat.le_refl _, by rw [hz, ← hst]⟩)
            have HR := Lib.hid hR
            have hfi4 : ¬ (f : Int) < (i : Int) := by omega
            clear hst hstep hsp hR hcur hce hne hc
            go_wp2
            go_roundw
            case rel => exact ⟨i + 1, i + 1, out, by omega, by go_num, by go_num, by omega, HS.out, HR.out, HB.out⟩
            case measure => simp [intOf]; omega
        · have hc2 : ((l[i].toNat : Int) == 47) = false := by
            refine beq_false_of_ne fun e => hc (UInt8.toNat_inj.1 ?_)
            show l[i].toNat = 47
            omega
          rw [if_neg hc] at hstep
          rw [hstep] at hst
          have HS := Lib.hid (show RefSp l f (i + 1) out from .inl ⟨by omega, by omega, hst⟩)
          have HR := Lib.hid hR
          clear hst hstep hsp hR hcur hce hc
          go_wp2
          go_roundw
          case rel => exact ⟨i + 1, f, out, by omega, by go_num, by go_num, by omega, HS.out, HR.out, HB.out⟩
          case measure => simp [intOf]; omega
    · have hO : out = fieldsL l := by
        rcases hsp with ⟨h1, _⟩ | ⟨_, h1⟩
        · omega
        · exact h1
      rw [hO] at hR
      have HR := Lib.hid hR
      have hii : ¬ (i : Int) ≤ (l.length : Int) := by omega
      clear hsp hR hO
      go_wp2
      go_ret
      exact ⟨u3, rfl, HR.out, HB.out⟩
end Go.Proofs.YtjjlkdmpnpejjaaDoor
