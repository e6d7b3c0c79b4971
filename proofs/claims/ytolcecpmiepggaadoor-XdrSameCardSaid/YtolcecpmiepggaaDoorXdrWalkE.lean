/-
  Layer 1, walks: a thing put to a writer; whether things are too many or too long; the fixed calls. Condition: texts of at most 2^20 bytes.
-/
import Derived.Test.YtolcecpmiepggaaDoorXdrWalkD
namespace Go.Proofs.YtolcecpmiepggaaDoor
open Go.RowKit
attribute [local go_sem ↓] Go.wp_at_zero Go.wp_at_succ

theorem refused {g : Nat} {sv : Value} {l : List UInt8} {B : Nat} {w w' : World} (hW : Wr w g sv l) (hb : Below B w w') (hB : w.heap.size ≤ B) : Moved g sv (l ++ []) w w' := by
  rw [List.append_nil]
  have hb' : Below w.heap.size w w' := hb.mono hB
  exact ⟨sv, hW.stays hb', fun _ e => .inl e, Touch.of_below hb' _⟩

set_option maxHeartbeats 1600000 in
theorem put_any (g : Nat) (sv : Value) (l : List UInt8) (t : Thing) (w : World) (hW : Wr w g sv l) (hg : t.good) (hs : t.s.length ≤ 1000000) (hl : l.length ≤ 900000000000) :
    Calls Tryd.prog 30 #[ptr g, .agg t.vals.toArray] w (Wrote g sv (l ++ t.bytes) (.int .i64 t.err) w) := by
  have hr := range_new w t.vals 43
  have hc0 := hr 0 _ rfl
  have hc1 := hr 1 _ rfl
  have hc2 := hr 2 _ rfl
  have hc3 := hr 3 _ rfl
  have hW0 := hW.alloc (.cells t.vals.toArray 43)
  have hT0 : Touch (foot g sv) w (w.alloc (.cells t.vals.toArray 43)) := (Touch.refl _ _).alloc _
  have hR := Lib.hid (refused hW (((Below.refl w.heap.size w)).alloc (Nat.le_refl _) (.cells t.vals.toArray 43)) (Nat.le_refl _))
  clear hr
  obtain ⟨kind, n, is, s⟩ := t
  obtain ⟨-, hn, -⟩ := hg
  have hn := Go.bounds_i64 hn
  unfold Thing.vals at *
  by_cases h1 : kind = 1
  · subst h1
    by_cases h : n < 0 ∨ 4294967295 < n
    · have hE := Lib.hid (show Thing.err ⟨1, n, is, s⟩ = 3 by simp [Thing.err, h])
      have hT := Lib.hid (show Thing.bytes ⟨1, n, is, s⟩ = [] by simp [Thing.bytes, h])
      go_enter Tryd.func30, Tryd.ntmps30
      go_wp2_with fail
      refine (wU32_bad g n _ (by omega) (by omega)).mono ?_
      rintro e w2 ⟨rfl, rfl⟩
      go_wp2
      go_ret
      rw [hE.out, hT.out]
      exact ⟨rfl, hR.out⟩
    · have hE := Lib.hid (show Thing.err ⟨1, n, is, s⟩ = 0 by simp [Thing.err, h])
      have hT := Lib.hid (show Thing.bytes ⟨1, n, is, s⟩ = num n.toNat 4 by simp [Thing.bytes, h])
      obtain ⟨m, rfl⟩ := Int.eq_ofNat_of_zero_le (show 0 ≤ n by omega)
      go_enter Tryd.func30, Tryd.ntmps30
      go_wp2_with fail
      refine (wU32_any g sv l m _ hW0 (by omega) (by omega)).mono ?_
      rintro e w2 ⟨rfl, hM⟩
      have HM := Lib.hid (Moved.next (fun _ h => .inl h) hT0 hM)
      clear hM
      go_wp2
      go_ret
      rw [hE.out, hT.out]
      exact ⟨rfl, HM.out⟩
  by_cases h2 : kind = 2
  · subst h2
    by_cases h : n < 0
    · have hE := Lib.hid (show Thing.err ⟨2, n, is, s⟩ = 3 by simp [Thing.err, h])
      have hT := Lib.hid (show Thing.bytes ⟨2, n, is, s⟩ = [] by simp [Thing.bytes, h])
      go_enter Tryd.func30, Tryd.ntmps30
      go_wp2_with fail
      refine (wU64_bad g n _ h).mono ?_
      rintro e w2 ⟨rfl, rfl⟩
      go_wp2
      go_ret
      rw [hE.out, hT.out]
      exact ⟨rfl, hR.out⟩
    · have hE := Lib.hid (show Thing.err ⟨2, n, is, s⟩ = 0 by simp [Thing.err, h])
      have hT := Lib.hid (show Thing.bytes ⟨2, n, is, s⟩ = num n.toNat 8 by simp [Thing.bytes, h])
      obtain ⟨m, rfl⟩ := Int.eq_ofNat_of_zero_le (show 0 ≤ n by omega)
      go_enter Tryd.func30, Tryd.ntmps30
      go_wp2_with fail
      refine (wU64_any g sv l m _ hW0 (by omega) (by omega)).mono ?_
      rintro e w2 ⟨rfl, hM⟩
      have HM := Lib.hid (Moved.next (fun _ h => .inl h) hT0 hM)
      clear hM
      go_wp2
      go_ret
      rw [hE.out, hT.out]
      exact ⟨rfl, HM.out⟩
  by_cases h3 : kind = 3
  · subst h3
    go_enter Tryd.func30, Tryd.ntmps30
    go_wp2_with fail
    refine (wBool_any g sv l is _ hW0 (by omega)).mono ?_
    rintro e w2 ⟨rfl, hM⟩
    have HM := Lib.hid (Moved.next (fun _ h => .inl h) hT0 hM)
    clear hM
    go_wp2
    go_ret
    exact ⟨rfl, HM.out⟩
  by_cases h4 : kind = 4
  · subst h4
    go_enter Tryd.func30, Tryd.ntmps30
    go_wp2_with fail
    refine (wFixed_any g sv l s _ hW0 (by omega) (by omega)).mono ?_
    rintro e w2 ⟨rfl, hM⟩
    have HM := Lib.hid (Moved.next (fun _ h => .inl h) hT0 hM)
    clear hM
    go_wp2
    go_ret
    exact ⟨rfl, HM.out⟩
  by_cases h5 : kind = 5
  · subst h5
    go_enter Tryd.func30, Tryd.ntmps30
    go_wp2_with fail
    refine (wOpaque_any g sv l s _ hW0 (by omega) (by omega)).mono ?_
    rintro e w2 ⟨rfl, hM⟩
    have HM := Lib.hid (Moved.next (fun _ h => .inl h) hT0 hM)
    clear hM
    go_wp2
    go_ret
    exact ⟨rfl, HM.out⟩
  by_cases h6 : kind = 6
  · subst h6
    by_cases h : is = true ∧ n < 0
    · have hE := Lib.hid (show Thing.err ⟨6, n, is, s⟩ = 3 by simp [Thing.err, h])
      have hT := Lib.hid (show Thing.bytes ⟨6, n, is, s⟩ = [] by simp [Thing.bytes, h])
      obtain ⟨rfl, h⟩ := h
      go_enter Tryd.func30, Tryd.ntmps30
      go_wp2_with fail
      refine (wOpt_bad g n _ h).mono ?_
      rintro e w2 ⟨rfl, hb2⟩
      have HM := Lib.hid (refused hW (below_then ((Below.refl _ _).alloc (Nat.le_refl _) _) hb2) (Nat.le_refl _))
      clear hb2
      go_wp2
      go_ret
      rw [hE.out, hT.out]
      exact ⟨rfl, HM.out⟩
    · have hE := Lib.hid (show Thing.err ⟨6, n, is, s⟩ = 0 by simp [Thing.err, h])
      have hT := Lib.hid (show Thing.bytes ⟨6, n, is, s⟩ = optB is n by simp [Thing.bytes, h])
      have h' : is = true → 0 ≤ n := fun h' => by
        by_cases h0 : 0 ≤ n
        · exact h0
        · exact absurd ⟨h', by omega⟩ h
      clear h
      go_enter Tryd.func30, Tryd.ntmps30
      go_wp2_with fail
      refine (wOpt_any g sv l is n _ hW0 h' (by omega) (by omega)).mono ?_
      rintro e w2 ⟨rfl, hM⟩
      have HM := Lib.hid (Moved.next (fun _ h => .inl h) hT0 hM)
      clear hM
      go_wp2
      go_ret
      rw [hE.out, hT.out]
      exact ⟨rfl, HM.out⟩
  · have hE := Lib.hid (show Thing.err ⟨kind, n, is, s⟩ = 0 by simp [Thing.err, h1, h2, h6])
    have hT := Lib.hid (show Thing.bytes ⟨kind, n, is, s⟩ = [] by simp [Thing.bytes, h1, h2, h3, h4, h5, h6])
    go_enter Tryd.func30, Tryd.ntmps30
    go_wp2
    go_ret
    rw [hE.out, hT.out]
    exact ⟨rfl, hR.out⟩

set_option maxHeartbeats 1600000 in
theorem xknown_any (w : World) : Calls Tryd.prog 26 #[] w fun e w' => e = .returned (.bool true) ∧ Below w.heap.size w w' := by
  have hW0 := Wr.fresh w
  have hK := Lib.hid (show bs ([] ++ opq [97, 98] ++ optB true 5) = ⟨#[0, 0, 0, 2, 97, 98, 0, 0, 0, 0, 0, 1, 0, 0, 0, 0, 0, 0, 0, 5]⟩ by kernel_rfl)
  go_enter Tryd.func26, Tryd.ntmps26
  go_wp2_with fail
  refine (wOpaque_any _ _ [] [97, 98] _ hW0 (by decide) (by decide)).mono ?_
  rintro e w1 ⟨rfl, sv1, hW1, hr1, hT1⟩
  go_wp2_with fail
  refine (wOpt_any _ sv1 _ true 5 _ hW1 (by decide) (by decide) (by decide)).mono ?_
  rintro e w2 ⟨rfl, sv2, hW2, hr2, hT2⟩
  have HB := Lib.hid (Moved.below (B := w.heap.size) (Moved.next hr1 hT1 ⟨sv2, hW2, hr2, hT2⟩) (Nat.le_refl _) (by simp [Value.ownBlock]) (by simp))
  clear hT1 hr1 hT2 hr2
  go_wp2_with fail
  refine (wText_any _ sv2 _ _ hW2).mono ?_
  rintro e w3 ⟨rfl, rfl⟩
  rw [hK.out]
  go_wp2_with fail
  refine (pad_any 5 _ (by omega)).mono ?_
  rintro e w3 ⟨rfl, rfl⟩
  go_wp2
  go_ret
  exact ⟨rfl, ((Below.refl w.heap.size w).alloc (Nat.le_refl _) _).trans HB.out⟩

end Go.Proofs.YtolcecpmiepggaaDoor
