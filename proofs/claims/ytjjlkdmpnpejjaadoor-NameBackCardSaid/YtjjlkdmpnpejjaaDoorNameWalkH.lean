/-
  Layer 4, walks: the program's Show. Condition: a machine text.
-/
import Derived.Test.YtjjlkdmpnpejjaaDoorNameWalkG
import Derived.Test.YtjjlkdmpnpejjaaDoorNameWalkB
import Derived.Deep.CutRange
namespace Go.Proofs.YtjjlkdmpnpejjaaDoor
open Go.RowKit
attribute [local go_sem ↓] Go.wp_at_zero Go.wp_at_succ
attribute [local go_sem] rowAt_ptr rowOf_drew rowOf_drewN rowOf_alloc_past rowOf_new

/-- is a rune's width asked for -/
def asksR (s : List UInt8) : Bool := decide ((dec s).1 ≠ 65533) || Lib.hasPrefix s [239, 191, 189]
theorem asks_yes {s : List UInt8} (h : asksR s = true) : Lib.runeLen ((dec s).1 : Int) = ((dec s).2 : Int) := by
  by_cases h1 : (dec s).1 = 65533
  · have h2 : Lib.hasPrefix s [239, 191, 189] = true := by simpa [asksR, h1] using h
    rw [width_error h1, if_pos h2, h1]
    rfl
  · exact width_rune h1
theorem asks_no {s : List UInt8} (h : asksR s = false) : (dec s).2 = 1 := by
  unfold asksR at h
  rw [Bool.or_eq_false_iff] at h
  have h1 : (dec s).1 = 65533 := by simpa using h.1
  rw [width_error h1, if_neg (by rw [h.2]; exact Bool.false_ne_true)]
theorem join_flat : ∀ ps : List (List UInt8), Lib.join ps [] = ps.flatten
  | [] => rfl
  | [x] => by simp [Lib.join, List.intercalate]
  | x :: y :: ps => by
    have := join_flat (y :: ps)
    simp only [Lib.join, List.intercalate, List.intersperse_cons_cons, List.flatten_cons, List.nil_append] at this ⊢
    rw [this]

theorem RowS.at_cap {w : World} {B : Nat} {e : TypeId} {sz : Nat} {v : Value} {rows : List (List Value)} (h : RowS w B e sz v rows) : ∃ A c, v = .slice A rows.length c ∧ At w sz A rows ∧ rows.length ≤ c := by
  obtain ⟨A, c, hv, hA⟩ := h.at_
  refine ⟨A, c, hv, hA, ?_⟩
  rcases h.2.2 with ⟨_, h0⟩ | ⟨g, cap, cur, h1, _, _, h2, _⟩
  · omega
  · rw [hv] at h1
    injection h1 with _ _ h3
    omega
theorem join4_any (A : Option Addr) (c : Nat) (ps : List (List UInt8)) (w : World) (hl : ps.length ≤ 1000000) (hA : At w 1 A (ps.map str1)) (hf : ps.flatten.length ≤ 140737488355328) (hc : ps.length ≤ c) :
    Calls Tryd.prog 22 #[.slice A ps.length c, .string (bs [])] w fun e w' => e = .returned (.string (bs ps.flatten)) ∧ Below w.heap.size w w' := by
  cases ps with
  | nil =>
    exact (Tryd.strings_Join_none A c (bs []) w).mono fun e w' ⟨h1, h2⟩ => ⟨h1, by rw [h2]; exact Below.refl _ _⟩
  | cons p ps =>
    obtain ⟨b, off, rfl, hb, -⟩ := hA 0 (str1 p) (by simp)
    have hj : Lib.join (((p :: ps).map bs).map (·.data.toList)) (bs []).data.toList = (p :: ps).flatten := by
      rw [List.map_map, show ((fun x : ByteArray => x.data.toList) ∘ bs) = id from rfl, List.map_id]
      exact join_flat _
    have h := Tryd.strings_Join b off c ((p :: ps).map bs) (bs []) w (fun j x hx => by
      rw [List.getElem?_map] at hx
      obtain ⟨q, hq, rfl⟩ := Option.map_eq_some_iff.1 hx
      obtain ⟨b', off', e, _, hcell⟩ := hA j (str1 q) (by rw [List.getElem?_map, hq]; rfl)
      injection e with e
      injection e with e1 e2 _
      subst e1 e2
      have := hcell 0 (.string (bs q)) rfl
      simpa using this) hb (by rw [List.length_map]; omega) (by rw [List.length_map]; exact hc) (by rw [hj]; exact hf)
    rw [hj, List.length_map] at h
    exact h
set_option maxRecDepth 20000 in
set_option maxHeartbeats 1600000 in
theorem show4_any (l : List UInt8) (w : World) (hl : l.length ≤ 1000000) : Calls Tryd.prog 18 #[.string (bs l)] w fun e w' => e = .returned (.string (bs (showN l))) ∧ Below w.heap.size w w' := by
  have hsz := bs_size l
  by_cases h0 : l = []
  · subst h0
    go_enter Tryd.func18, Tryd.ntmps18
    go_wp2
    go_ret
    exact ⟨rfl, Below.refl _ _⟩
  have h0b : (l == []) = false := by simpa using h0
  obtain ⟨R, hR⟩ : ∃ R, R = showL l := ⟨_, rfl⟩
  have hN : showN l = R := by rw [showN_ne h0, hR]
  rw [hN]
  have H0 := Lib.hid (show (([] : List (List UInt8))).flatten ++ showL (l.drop 0) = R by rw [hR]; simp)
  have hRl : R.length ≤ 3000000 := by rw [hR]; have := showL_len l; omega
  have HS := Lib.hid (ShSt.start w l)
  clear hR hN
  go_enter Tryd.func18, Tryd.ntmps18
  go_wp2
  generalize w.iter (bs l) 0 = w1 at *
  go_loopw [3] (fun v wr => ∃ (k : Nat) (ps : List (List UInt8)), k ≤ l.length ∧ ps.length ≤ k ∧ ps.flatten ++ showL (l.drop k) = R ∧ ShSt w l k v ps wr) (fun _ wr => l.length - itrAt wr w.heap.size)
  case atStart => exact ⟨0, [], Nat.zero_le _, Nat.zero_le _, H0.out, HS.out⟩
  case round =>
    clear H0 HS
    obtain ⟨k, ps, hk, hpl, hfl, hS⟩ := hrel
    by_cases hlk : k < l.length
    · have hne : l.drop k ≠ [] := by intro e; have := congrArg List.length e; simp at this; omega
      have hstep := showL_step hne
      have hwle := dec_le hne
      rw [List.length_drop] at hwle
      have hnext := fun ty => run_next_rune (P := Tryd.prog) hS.itr hlk ty
      have hat := hS.itr.at_
      have hpos := dec_pos (l.drop k)
      have hyes := asks_yes (s := l.drop k)
      have hno := asks_no (s := l.drop k)
      have hS2 := hS.next (k + (dec (l.drop k)).2)
      have hc2 := dec_lt (l.drop k)
      obtain ⟨g, hg⟩ : ∃ g, g = asksR (l.drop k) := ⟨_, rfl⟩
      have hgd := hg
      unfold asksR at hgd
      rw [← hg] at hyes hno
      obtain ⟨c, hc⟩ : ∃ c, c = (dec (l.drop k)).1 := ⟨_, rfl⟩
      obtain ⟨wd, hwd⟩ : ∃ wd, wd = (dec (l.drop k)).2 := ⟨_, rfl⟩
      have hpc : piece (l.drop k) = if plainR c then (l.drop k).take wd else ((l.drop k).take wd).flatMap hexL := by unfold piece; rw [hc, hwd]
      rw [← hc, ← hwd] at hnext
      rw [← hwd] at hpos hS2 hwle hstep hno hyes
      rw [← hc] at hyes hgd hc2
      clear hc hwd hg
      obtain ⟨w2, hw2⟩ : ∃ u, u = wr.setIter w.heap.size l (k + wd) := ⟨_, rfl⟩
      rw [← hw2] at hnext hS2
      have HF := Lib.hid (And.intro hfl (And.intro hstep (And.intro hpc hpl)))
      have HS2 := Lib.hid hS2
      have HAT := Lib.hid hat
      have HY := Lib.hid hyes
      have HN := Lib.hid hno
      have hcut0 : (bs l).extract k l.length = bs (l.drop k) := bs_drop l k
      have hk0 : (0 : Int) ≤ (k : Int) := Int.natCast_nonneg _
      have hk1 : (k : Int) ≤ (l.length : Int) := by omega
      clear hfl hstep hpc hpl hS hS2 hw2 hat hne hyes hno
      go_upto_region 8 with fail
      clear hnext
      go_cut [24] from 13 to 55 (fun v wx => v = .bool g ∧ wx = w2)
      case first =>
        by_cases h1 : c = 65533
        · subst h1
          have HP := Lib.hid ((Tryd.strings_HasPrefix (bs (l.drop k)) (bs [239, 191, 189]) w2).mono (R' := fun e w' => e = .returned (.bool g) ∧ w2 = w') fun e w' ⟨a, b⟩ => ⟨by rw [a, hgd]; rfl, b.symm⟩)
          clear hgd HF HY HN
          go_wp2_with fail
          refine HP.out.mono ?_
          rintro e w3 ⟨rfl, rfl⟩
          go_wp2
          go_meet
          case rel => exact ⟨rfl, rfl⟩
        · have HG := Lib.hid (show true = g by rw [hgd, decide_eq_true h1]; rfl)
          have h2 : ((c : Int) != 65533) = true := by simp; omega
          clear hgd h1 HF HY HN
          go_wp2
          go_meet
          case rel => exact ⟨by rw [HG.out], rfl⟩
      clear hgd
      obtain ⟨rfl, rfl⟩ := hcut
      go_upto_if 24 with fail
      go_cut [6] from 13 to 55 (fun n wx => n = .int .i64 (wd : Int) ∧ wx = wc)
      case first =>
        cases g with
        | true =>
          have HP := Lib.hid ((Tryd.utf8_RuneLen (c : Int) wc).mono (R' := fun e w' => e = .returned (.int .i64 (wd : Int)) ∧ wc = w') fun e w' ⟨a, b⟩ => ⟨by rw [a, HY.out rfl], b.symm⟩)
          clear HF HY HN
          go_wp2_with fail
          refine HP.out.mono ?_
          rintro e w3 ⟨rfl, rfl⟩
          go_wp2
          go_meet
          case rel => exact ⟨rfl, rfl⟩
        | false =>
          have HG := Lib.hid (show (1 : Int) = (wd : Int) by rw [HN.out rfl]; rfl)
          clear HF HY HN
          go_wp2
          go_meet
          case rel => exact ⟨by rw [HG.out], rfl⟩
      obtain ⟨rfl, rfl⟩ := hcut
      clear HY HN
      obtain ⟨sub, hsub⟩ : ∃ s, s = (l.drop k).take wd := ⟨_, rfl⟩
      have hsl : sub.length = wd := by rw [hsub]; simp; omega
      have hx : (bs l).extract k (k + wd) = bs sub := by rw [hsub, bs_part, Nat.add_sub_cancel_left]
      have hkw : (k : Int) + (wd : Int) ≤ (l.length : Int) := by omega
      have hkw2 : k + wd ≤ l.length := by omega
      have hkk : (k : Int) ≤ (k : Int) + (wd : Int) := by omega
      have hkk0 : (0 : Int) ≤ (k : Int) + (wd : Int) := by omega
      obtain ⟨hfl, hstep, hpc, hpl⟩ := HF.out
      rw [← hsub] at hpc
      clear hsub HF
      go_wp2_with fail
      refine (plain4_any c wc).mono ?_
      rintro e w3 ⟨rfl, rfl⟩
      cases hp : plainR c with
      | true =>
        rw [hp, if_pos rfl] at hpc
        rw [hpc] at hstep
        have HA := Lib.hid (HS2.out.app sub (by omega))
        have HFL := Lib.hid (show (ps ++ [sub]).flatten ++ showL (l.drop (k + wd)) = R by rw [List.flatten_append, List.flatten_singleton, List.append_assoc, ← hfl, hstep, List.drop_drop])
        have HPL := Lib.hid (show (ps ++ [sub]).length ≤ k + wd by simp; omega)
        clear hfl hstep hpc hpl hp
        go_wp2_with (first | (refine wpList_append_by (by rfl) (.tmp 29) (.tmp 36) #[22, 22] (by rfl) _ _ (by rfl) (by rfl) HA.out ?_; rintro v' w4 ⟨hS4, -⟩; have HS4 := Lib.hid hS4; clear hS4 HA HS2) | fail)
        go_roundw
        case rel => exact ⟨k + wd, ps ++ [sub], hkw2, HPL.out, HFL.out, HS4.out⟩
        case measure => rw [HAT.out, HS4.out.itr.at_]; omega
      | false =>
        rw [hp, if_neg Bool.false_ne_true] at hpc
        rw [hpc] at hstep
        have HFL := Lib.hid (show (ps ++ sub.map hexL).flatten ++ showL (l.drop (k + wd)) = R by
          rw [List.flatten_append, List.append_assoc, ← hfl, hstep, List.drop_drop]; simp [List.flatMap])
        have HPL := Lib.hid (show (ps ++ sub.map hexL).length ≤ k + wd by simp; omega)
        clear hfl hstep hpc hp
        obtain ⟨v0, w5, hrun, hRB, hb5⟩ := RowB.of_string (P := Tryd.prog) wc 9 42 sub Tryd.underlying9 Tryd.underlying42 Tryd.underlying5
        obtain ⟨g2, cs, rfl, hg2, hlc, hblk, htk⟩ : ∃ g cs, v0 = .slice (some ⟨g, 0, none⟩) sub.length cs.length ∧ wc.heap.size ≤ g ∧ sub.length ≤ cs.length ∧ BlkM w5 g 5 cs ∧ cs.take sub.length = sub.map Go.Proofs.YtjjlkdmpnpejjaaDoor.u8 := by
          rcases hRB with ⟨_, h⟩ | h
          · rw [h] at hsl; simp at hsl; omega
          · exact h
        have HS5 := Lib.hid (HS2.out.stays hb5)
        have HNE := Lib.hid (show u3.ownBlock ≠ some g2 from fun e => by have := (HS2.out.row.lt _ e).2; omega)
        have HBK := Lib.hid hblk
        have HTK := Lib.hid htk
        have hcs : (sub.length : Int) ≤ (cs.length : Int) := by omega
        rw [← hx] at hrun
        clear hRB hb5 hblk htk hg2 hpl HS2 hx
        go_wp2
        go_loopw [3, 46] (fun v j wi => ∃ m : Nat, m ≤ sub.length ∧ j = .int .i64 m ∧ ShSt w l (k + wd) v (ps ++ (sub.take m).map hexL) wi ∧ BlkM wi g2 5 cs ∧ v.ownBlock ≠ some g2) (fun _ j _ => sub.length - (intOf j).toNat)
        case atStart => exact ⟨0, Nat.zero_le _, rfl, by simpa using HS5.out, HBK.out, HNE.out⟩
        case round =>
          obtain ⟨m, hm, rfl, hS, hK, hV⟩ := hrel
          by_cases hlt : m < sub.length
          · have hcell := (hK.cell m).trans (take_at HTK.out (List.getElem?_eq_getElem hlt))
            unfold Go.Proofs.YtjjlkdmpnpejjaaDoor.u8 at hcell
            have hm0 : (0 : Int) ≤ (m : Int) := Int.natCast_nonneg _
            have hm1 : (m : Int) < (sub.length : Int) := by omega
            have HX := Lib.hid (fun W => hex4_any sub[m] W)
            have HA := Lib.hid (fun n => (hS.drewN n).app (hexL sub[m]) (by have := HPL.out; simp at this ⊢; omega))
            have HK := Lib.hid hK
            have HV := Lib.hid hV
            have hg2 := hK.lt
            have HT := Lib.hid (show ps ++ (sub.take m).map hexL ++ [hexL sub[m]] = ps ++ (sub.take (m + 1)).map hexL by rw [take_next _ _ hlt, List.map_append, List.append_assoc]; rfl)
            clear hS hK hV
            go_wp2_with fail
            refine (HX.out _).mono ?_
            rintro e w6 ⟨rfl, n, rfl⟩
            go_wp2_with (first | (refine wpList_append_by (by rfl) (.tmp 50) (.tmp 53) #[22, 22] (by rfl) _ _ (by rfl) (by rfl) (HA.out n) ?_; rintro v' w7 ⟨hS7, hf7⟩; have HS7 := Lib.hid hS7; have HF7 := Lib.hid (hf7 g2 hg2 HV.out); clear hS7 hf7 HA) | fail)
            go_roundw
            case rel => exact ⟨m + 1, by omega, by go_num, by rw [← HT.out]; exact HS7.out, (by
              obtain ⟨mk, hmk, hh⟩ := HK.out
              exact ⟨mk, hmk, HF7.out.1.trans hh⟩), HF7.out.2⟩
            case measure => simp [intOf]; omega
          · obtain rfl : m = sub.length := by omega
            have hm1 : ¬ (sub.length : Int) < (sub.length : Int) := by omega
            rw [List.take_length] at hS
            have HS := Lib.hid hS
            clear hS hK hV
            go_wp2
            go_roundw
            case rel => exact ⟨k + wd, ps ++ sub.map hexL, hkw2, HPL.out, HFL.out, HS.out⟩
            case measure => rw [HAT.out, HS.out.itr.at_]; omega
    · obtain rfl : k = l.length := by omega
      have hend := fun ty => run_next_itr_end (P := Tryd.prog) hS.itr hlk ty
      have HE := Lib.hid (show ps.flatten = R by rw [← hfl, List.drop_length, showL_nil, List.append_nil])
      obtain ⟨A, cp, hv, hA, hcap⟩ := hS.row.at_cap
      rw [List.length_map] at hv hcap
      subst hv
      have HB := Lib.hid hS.bel
      have HJ : Hid (Calls Tryd.prog 22 #[.slice A ps.length cp, .string (bs [])] wr fun e w' => e = .returned (.string (bs R)) ∧ Below wr.heap.size wr w') := Lib.hid (by
        rw [← HE.out]
        exact join4_any A cp ps wr (by omega) hA (by rw [HE.out]; omega) hcap)
      clear hfl hS hA hcap
      go_wp2_with fail
      refine HJ.out.mono ?_
      rintro e w8 ⟨rfl, hb8⟩
      go_wp2
      go_ret
      exact ⟨rfl, below_then HB.out hb8⟩
end Go.Proofs.YtjjlkdmpnpejjaaDoor
