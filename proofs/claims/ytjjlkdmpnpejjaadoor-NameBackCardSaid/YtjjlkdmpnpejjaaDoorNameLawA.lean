/-
  Layer 4, walks: the fixed calls; the laws NameChecks, NameShows, NameReads. Condition: machine texts; the library's own number is some number.
-/
import Derived.Test.YtjjlkdmpnpejjaaDoorNameWalkF
import Derived.Test.YtjjlkdmpnpejjaaDoorNameWalkI
import Derived.Test.YtjjlkdmpnpejjaaDoorNameWalkK
namespace Go.Proofs.YtjjlkdmpnpejjaaDoor
open Go.RowKit
attribute [local go_sem ↓] Go.wp_at_zero Go.wp_at_succ
attribute [local go_sem] rowAt_ptr rowOf_drew rowOf_drewN rowOf_alloc_past rowOf_new

theorem known4_any (w : World) (hm : MxLen w) : Calls Tryd.prog 8 #[] w fun e w' => e = .returned (.bool true) ∧ Below w.heap.size w w' := by
  have K1 := fun W => show4_any [97, 32, 98] W (by decide)
  have K2 := fun W => check4_any [46, 46] W (by decide)
  have K3 := fun W h => split4_any [47, 97, 47, 47, 98] W (by decide) h
  rw [show showN [97, 32, 98] = [97, 37, 50, 48, 98] by decide +kernel] at K1
  rw [show nameSt [46, 46] = 22 by decide +kernel] at K2
  rw [show fieldsL [47, 97, 47, 47, 98] = [[97], [98]] by decide +kernel] at K3
  have HK1 := Lib.hid K1
  have HK2 := Lib.hid K2
  have HK3 := Lib.hid K3
  have HM := Lib.hid hm
  clear K1 K2 K3 hm
  go_enter Tryd.func8, Tryd.ntmps8
  go_wp2_with fail
  refine (HK1.out _).mono ?_
  rintro e w1 ⟨rfl, hb1⟩
  go_wp2_with fail
  refine (HK2.out _).mono ?_
  rintro e w2 ⟨rfl, rfl⟩
  go_wp2_with fail
  refine (HK3.out _ (HM.out.below hb1)).mono ?_
  rintro e w3 ⟨v, rfl, hR, hb3⟩
  obtain ⟨A, c, hv, hA⟩ := hR.at_
  subst hv
  have HB := Lib.hid (below_then hb1 hb3)
  have HA := Lib.hid hA
  clear hR hb1 hb3 hA
  go_wp2_with fail
  refine (same4_any A _ c _ [[97], [98]] [[97], [98]] _ (by decide) (by decide) (HA.out.alloc _) ?_).mono ?_
  · intro i r hr
    refine ⟨w3.heap.size, 0, rfl, by simp, fun j u hu => ?_⟩
    rw [World.cell?_alloc_at _ _ _ _ rfl]
    match i, hr with
    | 0, hr =>
      simp [str1] at hr
      subst hr
      match j, hu with
      | 0, hu => simpa using hu
    | 1, hr =>
      simp [str1] at hr
      subst hr
      match j, hu with
      | 0, hu => simpa using hu
    | i + 2, hr => simp at hr
  rintro e w5 ⟨he, hb5⟩
  rw [decide_eq_true rfl] at he
  subst he
  go_wp2
  go_ret
  exact ⟨rfl, below_then HB.out (below_new _ hb5)⟩

theorem nameChecksLaw_any (l : List UInt8) (w : World) (hl : l.length ≤ 9223372036854775807) (hm : MxLen w) :
    Calls Tryd.prog 5 #[.string (bs l)] w fun e w' => e = .returned (.bool true) ∧ Below w.heap.size w w' := by
  have hsz := bs_size l
  have HK := Lib.hid (known4_any w hm)
  clear hm
  go_enter Tryd.func5, Tryd.ntmps5
  by_cases hq : 200 < (l.length : Int)
  · go_wp2_with fail
    refine HK.out.mono ?_
    rintro e w1 ⟨rfl, hb1⟩
    go_wp2
    go_ret
    exact ⟨rfl, hb1⟩
  · have K1 := Lib.hid (check4_any l w hl)
    have K2 := Lib.hid (refCheck4_any l w hl)
    have K3 := Lib.hid (target4_any l w hl)
    have K4 := Lib.hid (refTarget4_any l w hl)
    generalize nameSt l = S at *
    generalize targetSt l = T at *
    go_wp2_with fail
    refine K1.out.mono ?_
    rintro e w1 ⟨rfl, rfl⟩
    go_wp2_with fail
    refine K2.out.mono ?_
    rintro e w1 ⟨rfl, rfl⟩
    go_wp2_with fail
    refine K3.out.mono ?_
    rintro e w1 ⟨rfl, rfl⟩
    go_wp2_with fail
    refine K4.out.mono ?_
    rintro e w1 ⟨rfl, rfl⟩
    go_wp2_with fail
    refine HK.out.mono ?_
    rintro e w1 ⟨rfl, hb1⟩
    go_wp2
    go_ret
    exact ⟨rfl, hb1⟩
theorem nameShowsLaw_any (l : List UInt8) (w : World) (hl : l.length ≤ 9223372036854775807) (hm : MxLen w) :
    Calls Tryd.prog 6 #[.string (bs l)] w fun e w' => e = .returned (.bool true) ∧ Below w.heap.size w w' := by
  have hsz := bs_size l
  have HK := Lib.hid (fun W h => known4_any W h)
  have HM := Lib.hid hm
  clear hm
  go_enter Tryd.func6, Tryd.ntmps6
  by_cases hq : 200 < (l.length : Int)
  · go_wp2_with fail
    refine (HK.out _ HM.out).mono ?_
    rintro e w1 ⟨rfl, hb1⟩
    go_wp2
    go_ret
    exact ⟨rfl, hb1⟩
  · have hn : (showN l).length ≤ 1000 := by
      unfold showN
      split
      · decide
      · have := showL_len l; omega
    have hr : readF (showN l) = (l, 0) := by
      by_cases h0 : l = []
      · subst h0; decide +kernel
      · have e := showN_ne h0
        rw [readF_some (by rw [e]; exact showL_ne) (by rw [e]; exact unhex_show _ l (Nat.le_refl _)), if_neg (by simp [h0])]
    have K1 := Lib.hid (fun W => show4_any l W (by omega))
    have K2 := Lib.hid (fun W => read4_any (showN l) W hn)
    have K3 := Lib.hid (fun W => refShow4_any l W (by omega))
    rw [hr] at K2
    generalize showN l = S at *
    clear hr hn
    go_wp2_with fail
    refine (K1.out _).mono ?_
    rintro e w1 ⟨rfl, hb1⟩
    go_wp2_with fail
    refine (K2.out _).mono ?_
    rintro e w2 ⟨rfl, hb2⟩
    go_wp2_with fail
    refine (K3.out _).mono ?_
    rintro e w3 ⟨rfl, hb3⟩
    have HB := Lib.hid (below_then hb1 (below_then hb2 hb3))
    clear hb1 hb2 hb3
    go_wp2_with fail
    refine (HK.out _ (HM.out.below HB.out)).mono ?_
    rintro e w4 ⟨rfl, hb4⟩
    go_wp2
    go_ret
    exact ⟨rfl, below_then HB.out hb4⟩
theorem readF_shape {t : List UInt8} : (readF t).2 = 0 ∧ showN (readF t).1 = t ∨ readF t = ([], 40) := by
  unfold readF
  split
  · rename_i h; exact .inl ⟨rfl, by rw [h]; rfl⟩
  · split
    · exact .inr rfl
    · split
      · exact .inr rfl
      · rename_i h
        exact .inl ⟨rfl, by
          have : ¬ (showN _ ≠ t) := fun e => h (.inr e)
          simpa using this⟩
theorem nameReadsLaw_any (l : List UInt8) (w : World) (hl : l.length ≤ 9223372036854775807) (hm : MxLen w) :
    Calls Tryd.prog 7 #[.string (bs l)] w fun e w' => e = .returned (.bool true) ∧ Below w.heap.size w w' := by
  have hsz := bs_size l
  have HK := Lib.hid (fun W h => known4_any W h)
  have HM := Lib.hid hm
  clear hm
  go_enter Tryd.func7, Tryd.ntmps7
  by_cases hq : 200 < (l.length : Int)
  · go_wp2_with fail
    refine (HK.out _ HM.out).mono ?_
    rintro e w1 ⟨rfl, hb1⟩
    go_wp2
    go_ret
    exact ⟨rfl, hb1⟩
  · have K2 := Lib.hid (fun W => read4_any l W (by omega))
    rcases readF_shape (t := l) with ⟨h1, h2⟩ | h
    · obtain ⟨s, hs⟩ : ∃ s, readF l = (s, 0) := ⟨(readF l).1, Prod.ext rfl h1⟩
      rw [hs] at K2 h2
      have hsl : s.length ≤ 1000 := by
        rcases Nat.lt_or_ge 1000 s.length with h | h
        · exfalso
          have hun : l ≠ [37] → unhex l = some s := fun h37 => by
            unfold readF at hs
            rw [if_neg h37] at hs
            split at hs
            · cases hs
            · rename_i u hu
              split at hs
              · cases hs
              · rw [hu]; injection hs with hs _; rw [hs]
          have hulen : ∀ (n : Nat) (t u : List UInt8), t.length ≤ n → unhex t = some u → u.length ≤ t.length := fun n => by
            induction n with
            | zero => intro t u ht hu; have : t = [] := List.eq_nil_of_length_eq_zero (by omega); subst this; simp [unhex] at hu; subst hu; simp
            | succ n ih =>
              intro t u ht hu
              match t, ht, hu with
              | [], _, hu => simp [unhex] at hu; subst hu; simp
              | c :: r, ht, hu =>
                by_cases hc : c = 37
                · subst hc
                  rw [unhex_37] at hu
                  match r, ht, hu with
                  | [], _, hu => cases hu
                  | [a], _, hu => cases hu
                  | a :: b :: r, ht, hu =>
                    simp only at hu
                    split at hu
                    · cases hu
                    · obtain ⟨v, hv, rfl⟩ := Option.map_eq_some_iff.1 hu
                      have := ih r v (by simp at ht; omega) hv
                      simp; omega
                · rw [unhex_skip hc] at hu
                  obtain ⟨v, hv, rfl⟩ := Option.map_eq_some_iff.1 hu
                  have := ih r v (by simpa using ht) hv
                  simpa using this
          by_cases h37 : l = [37]
          · subst h37
            have : readF [37] = ([], 0) := by decide +kernel
            rw [this] at hs
            injection hs with hs _
            subst hs
            simp at h
          · have := hulen _ l s (Nat.le_refl _) (hun h37)
            omega
        · exact h
      have K3 := Lib.hid (fun W => refShow4_any s W (by omega))
      rw [h2] at K3
      clear hs h1 h2
      go_wp2_with fail
      refine (K2.out _).mono ?_
      rintro e w1 ⟨rfl, hb1⟩
      go_wp2_with fail
      refine (K3.out _).mono ?_
      rintro e w2 ⟨rfl, hb2⟩
      have HB := Lib.hid (below_then hb1 hb2)
      clear hb1 hb2
      go_wp2_with fail
      refine (HK.out _ (HM.out.below HB.out)).mono ?_
      rintro e w4 ⟨rfl, hb4⟩
      go_wp2
      go_ret
      exact ⟨rfl, below_then HB.out hb4⟩
    · rw [h] at K2
      clear h
      go_wp2_with fail
      refine (K2.out _).mono ?_
      rintro e w1 ⟨rfl, hb1⟩
      have HB := Lib.hid hb1
      clear hb1
      go_wp2_with fail
      refine (HK.out _ (HM.out.below HB.out)).mono ?_
      rintro e w4 ⟨rfl, hb4⟩
      go_wp2
      go_ret
      exact ⟨rfl, below_then HB.out hb4⟩
end Go.Proofs.YtjjlkdmpnpejjaaDoor
