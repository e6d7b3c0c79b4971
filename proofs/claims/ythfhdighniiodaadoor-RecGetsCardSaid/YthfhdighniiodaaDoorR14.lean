/-
  Layer 1, walks: a writer's texts and options, its bytes. Conditions: at most 2^40 bytes so far.
-/
import Derived.Test.YthfhdighniiodaaDoorR13
import Derived.Test.YthfhdighniiodaaDoorR11
namespace Go.Proofs.YthfhdighniiodaaDoor
open Go.RowKit
attribute [local go_sem ↓] Go.wp_at_zero Go.wp_at_succ

set_option maxRecDepth 20000 in
set_option maxHeartbeats 1600000 in
theorem wFixed_any (g : Nat) (sv : Value) (l s : List UInt8) (w : World) (hW : Wr w g sv l) (hs : s.length ≤ 1048576) (hl : l.length ≤ 1000000000000) :
    Calls Tryd.prog 85 #[ptr g, .string (bs s)] w (Wrote g sv (l ++ filled s) (.int .i64 0) w) := by
  obtain ⟨i0, hi0, hz0, hz1, hz2⟩ := info_parts infoU8
  have hsz := bs_size s
  have hc : w.cell? ⟨g, 0, none⟩ = some sv := hW.1.cell 0
  have hf := hW.1.frozen 0
  have hp := padn_lt s.length
  go_enter Tryd.func85, Tryd.ntmps85
  go_wp2_with (refine wpList_append_by (by rfl) (.tmp 16) (.tmp 17) #[85, 9] (by rfl) _ _ (by rfl) (by rfl) (run_append_bytes_at 0 85 9 _ 5 i0 Tryd.underlying85 Tryd.underlying9 hi0 hz0 hz1 hz2 sv l.length (l.map u8) hW.2 s (by omega) (Nat.zero_le _)) ?_; rintro sv1 w1 ⟨hown1, hgrow1, hat1, A1, c1, rfl⟩; have hB1 := (wr_row_ne hW (Below.refl _ _) hgrow1 hown1).1; have hc1 : w1.cell? ⟨g, 0, none⟩ = some sv := hB1.cell 0; have hf1 := hB1.frozen 0)
  have hM := moved_append (sv := sv) (m := s) hW (fun _ h => .inl h) (Touch.refl _ _) (Below.refl _ _) hgrow1 hown1 (fun k hk => by
    rcases hat1 with h | h
    · left; rw [← h]; exact hk
    · right; rw [h] at hk; simp at hk; omega)
  generalize hsv : Value.slice A1 (l.length + s.length) c1 = sv1 at *
  have HSV := Lib.hid hsv
  generalize w1.setCell ⟨g, 0, none⟩ sv1 = w2 at *
  obtain ⟨hW2, hrow2, hT2⟩ := hM
  have hc2 : w2.cell? ⟨g, 0, none⟩ = some sv1 := hW2.1.cell 0
  have hf2 := hW2.1.frozen 0
  clear hown1 hgrow1 hat1 hB1 hc1 hf1 hc hf hsv
  have HW2 := Lib.hid hW2
  have HR2 := Lib.hid hrow2
  clear hW2 hrow2
  go_region_law (first | (refine step_append_by (by rfl) (.tmp 25) (.tmp 28) #[85, 3] (by rfl) sv1 (.int .i64 (padn s.length)) (by simp [Act.eval]) (by simp [Act.eval]) (run_append_zeros_at 0 85 3 _ 5 i0 Tryd.underlying85 Tryd.underlying3 hi0 hz0 hz1 hz2 sv1 (l ++ s).length ((l ++ s).map u8) HW2.out.2.drew (padn s.length) (by simp; omega) (Nat.zero_le _)) ?_; rintro sv3 w3 ⟨hown3, hgrow3, hat3, A3, c3, rfl⟩; have hB3 := (wr_row_ne HW2.out ((Below.refl _ _).drew) hgrow3 hown3).1; have hc3 : w3.cell? ⟨g, 0, none⟩ = some sv1 := hB3.cell 0; have hf3 := hB3.frozen 0) | (go_simp; go_at_call 120; refine (pad_any _ _ (by omega)).mono ?_; rintro e w3 ⟨rfl, rfl⟩))
  all_goals
    have hM3 := moved_append (sv := sv) (m := List.replicate (padn s.length) 0) HW2.out HR2.out hT2 ((Below.refl _ _).drew) hgrow3 (by rw [← zcells_u8, List.length_replicate]; exact hown3) (fun k hk => by
      rcases hat3 with h | h
      · left; rw [← h]; exact hk
      · right; rw [h] at hk; simp at hk; simp; omega)
    go_wp2
    go_ret
    refine ⟨rfl, ?_⟩
    have e : l ++ filled s = l ++ s ++ List.replicate (padn s.length) 0 := by unfold filled; simp
    rw [e]
    simp only [List.length_append] at hM3
    exact ⟨_, hM3⟩

set_option maxHeartbeats 800000 in
theorem wOpaque_any (g : Nat) (sv : Value) (l s : List UInt8) (w : World) (hW : Wr w g sv l) (hs : s.length ≤ 1048576) (hl : l.length ≤ 999999999990) :
    Calls Tryd.prog 94 #[ptr g, .string (bs s)] w (Wrote g sv (l ++ opq s) (.int .i64 0) w) := by
  have hsz := bs_size s
  go_enter Tryd.func94, Tryd.ntmps94
  go_wp2_with fail
  refine (number_any g sv l s.length 4 _ hW (by omega) (by omega) (by omega)).mono ?_
  rintro e w1 ⟨rfl, sv1, hW1, hr1, hT1⟩
  have hR1 := Lib.hid hr1
  clear hr1
  go_wp2_with fail
  refine (wFixed_any g sv1 _ s _ hW1 hs (by simp [num_len]; omega)).mono ?_
  rintro e w2 ⟨rfl, hM⟩
  have HM := Lib.hid (Moved.next hR1.out hT1 hM)
  clear hM
  go_wp2
  go_ret
  exact ⟨rfl, by have := HM.out; rw [List.append_assoc] at this; exact this⟩

/-- an option's cells -/
theorem wOpt_any (g : Nat) (sv : Value) (l : List UInt8) (b : Bool) (n : Int) (w : World) (hW : Wr w g sv l) (hn : b = true → 0 ≤ n) (hi : n ≤ 9223372036854775807) (hl : l.length ≤ 999999999990) :
    Calls Tryd.prog 107 #[ptr g, .agg #[.bool b, .int .i64 n]] w (Wrote g sv (l ++ optB b n) (.int .i64 0) w) := by
  have hW0 := hW.alloc (.cells #[.bool b, .int .i64 n] 53)
  have hT0 : Touch (foot g sv) w (w.alloc (.cells #[.bool b, .int .i64 n] 53)) := (Touch.refl _ _).alloc _
  have hb0 : Blk (w.alloc (.cells #[.bool b, .int .i64 n] 53)) w.heap.size 53 [.bool b, .int .i64 n] := Blk.new _ _ _
  cases b
  · go_enter Tryd.func107, Tryd.ntmps107
    go_wp2_with fail
    refine (wBool_any g sv l false _ hW0 (by omega)).mono ?_
    rintro e w1 ⟨rfl, sv1, hW1, hr1, hT1⟩
    have hb1 := hW0.keeps hb0 (by decide) (by decide) hT1
    have hc1 := hb1.cell 0
    simp only [List.getElem?_cons_zero] at hc1
    have HM := Lib.hid (Moved.next (fun _ h => .inl h) hT0 ⟨sv1, hW1, hr1, hT1⟩)
    clear hr1
    go_wp2
    go_ret
    exact ⟨rfl, by unfold optB; simpa using HM.out⟩
  · have hn0 := hn rfl
    obtain ⟨m, rfl⟩ := Int.eq_ofNat_of_zero_le hn0
    go_enter Tryd.func107, Tryd.ntmps107
    go_wp2_with fail
    refine (wBool_any g sv l true _ hW0 (by omega)).mono ?_
    rintro e w1 ⟨rfl, sv1, hW1, hr1, hT1⟩
    have hb1 := hW0.keeps hb0 (by decide) (by decide) hT1
    have hc1 := hb1.cell 0
    have hc2 := hb1.cell 1
    simp only [List.getElem?_cons_zero, List.getElem?_cons_succ] at hc1 hc2
    have HR1 := Lib.hid hr1
    clear hr1
    go_wp2_with fail
    refine (wU64_any g sv1 _ m _ hW1 (by omega) (by simp [truth, num_len]; omega)).mono ?_
    rintro e w2 ⟨rfl, hM⟩
    have HM := Lib.hid (Moved.next (fun _ h => .inl h) hT0 (Moved.next HR1.out hT1 hM))
    clear hM
    go_wp2
    go_ret
    exact ⟨rfl, by unfold optB; have := HM.out; rw [List.append_assoc] at this; simpa using this⟩
theorem wOpt_bad (g : Nat) (n : Int) (w : World) (hn : n < 0) :
    Calls Tryd.prog 107 #[ptr g, .agg #[.bool true, .int .i64 n]] w fun e w' => e = .returned (.int .i64 3) ∧ Below w.heap.size w w' := by
  go_enter Tryd.func107, Tryd.ntmps107
  go_wp2
  go_ret
  exact ⟨rfl, (Below.refl _ _).alloc (Nat.le_refl _) _⟩

theorem wText_any (g : Nat) (sv : Value) (l : List UInt8) (w : World) (hW : Wr w g sv l) :
    Calls Tryd.prog 51 #[ptr g] w fun e w' => e = .returned (.string (bs l)) ∧ w = w' := by
  have hc : w.cell? ⟨g, 0, none⟩ = some sv := hW.1.cell 0
  have hcv := run_row_string (P := Tryd.prog) (dst := 9) Tryd.underlying85 Tryd.underlying5 Tryd.underlying9 hW.2
  go_enter Tryd.func51, Tryd.ntmps51
  go_wp2
  go_ret
  exact ⟨rfl, rfl⟩
end Go.Proofs.YthfhdighniiodaaDoor

/-
  Layer 5, walks: attributes are laid. Conditions: they may be; at most 2^39 bytes so far.
-/
namespace Go.Proofs.YthfhdighniiodaaDoor
open Go.RowKit
attribute [local go_sem ↓] Go.wp_at_zero Go.wp_at_succ
attribute [local go_sem] rowAt_ptr rowOf_drew rowOf_drewN rowOf_alloc_past rowOf_new
attribute [local go_sem] Attr.at0 Attr.lat0 Attr.at1 Attr.lat1 Attr.at2 Attr.lat2 Attr.at3 Attr.lat3 Attr.at4 Attr.lat4 Attr.at5 Attr.lat5 Attr.at6 Attr.lat6 Attr.at7 Attr.lat7 Attr.at8 Attr.lat8 Attr.at9 Attr.lat9 Attr.sub0_10 Attr.lsub0_10 Attr.len Opt.at0 Opt.lat0 Opt.at1 Opt.lat1 Opt.sub0_2 Opt.lsub0_2 Opt.len Post.at0 Post.lat0 Post.at1 Post.lat1 Post.at2 Post.lat2 Post.at3 Post.lat3 Post.at4 Post.lat4 Post.at5 Post.lat5 Post.at6 Post.lat6 Post.at7 Post.lat7 Post.at8 Post.lat8 Post.at9 Post.lat9 Post.at10 Post.lat10 Post.sub0_11 Post.lsub0_11 Post.sub1_10 Post.lsub1_10 Post.len Wcc.at0 Wcc.lat0 Wcc.at1 Wcc.lat1 Wcc.at2 Wcc.lat2 Wcc.at3 Wcc.lat3 Wcc.at4 Wcc.lat4 Wcc.at5 Wcc.lat5 Wcc.at6 Wcc.lat6 Wcc.at7 Wcc.lat7 Wcc.at8 Wcc.lat8 Wcc.at9 Wcc.lat9 Wcc.at10 Wcc.lat10 Wcc.at11 Wcc.lat11 Wcc.at12 Wcc.lat12 Wcc.sub0_13 Wcc.lsub0_13 Wcc.sub0_2 Wcc.lsub0_2 Wcc.sub2_11 Wcc.lsub2_11 Wcc.sub3_10 Wcc.lsub3_10 Wcc.len

def Attr.bytes (a : Attr) : List UInt8 :=
  num a.type.toNat 4 ++ num a.mode.toNat 4 ++ num a.nlink.toNat 4 ++ num a.uid.toNat 4 ++ num a.gid.toNat 4 ++ num a.size.toNat 8 ++ num a.id.toNat 4 ++ num a.gen.toNat 8 ++ num a.change.toNat 8 ++ num a.time.toNat 8
theorem Attr.bytes_len (a : Attr) : a.bytes.length = 56 := by simp [Attr.bytes, num_len]
/-- numbers, one behind the other -/
def numsOf (L : List Nat) (sz : Nat) : List UInt8 := L.flatMap fun n => num n sz
theorem numsOf_succ (L : List Nat) (sz k : Nat) (hk : k < L.length) : numsOf (L.take (k + 1)) sz = numsOf (L.take k) sz ++ num L[k] sz := by
  unfold numsOf; rw [take_next _ _ hk, List.flatMap_append]; simp
theorem numsOf_len (L : List Nat) (sz : Nat) : (numsOf L sz).length = L.length * sz := by
  induction L with
  | nil => simp [numsOf]
  | cons n L ih => unfold numsOf at *; simp only [List.flatMap_cons, List.length_append, num_len, ih, List.length_cons, Nat.add_mul]; omega
def i64s (L : List Nat) : List Value := L.map fun n : Nat => .int .i64 n
theorem i64s_at (L : List Nat) (k : Nat) (hk : k < L.length) : (i64s L)[k]? = some (.int .i64 L[k]) := by
  unfold i64s; rw [List.getElem?_map, List.getElem?_eq_getElem hk]; rfl
theorem Attr.nats {a : Attr} (h : a.ok = true) (hg : a.good) : ∃ t m k u g s i n c z : Nat, a = ⟨t, m, k, u, g, s, i, n, c, z⟩ ∧ (∀ x ∈ [t, m, k, u, g, i], x < 4294967296) ∧ ∀ x ∈ [s, n, c, z], (x : Int) ≤ 9223372036854775807 := by
  obtain ⟨t, m, k, u, g, s, i, n, c, z⟩ := a
  simp only [Attr.ok, okN, Bool.and_eq_true, decide_eq_true_eq] at h
  obtain ⟨g0, g1, g2, g3, g4, g5, g6, g7, g8, g9⟩ := hg
  have g5 := Go.bounds_i64 g5
  have g7 := Go.bounds_i64 g7
  have g8 := Go.bounds_i64 g8
  have g9 := Go.bounds_i64 g9
  simp only at h g5 g7 g8 g9
  refine ⟨t.toNat, m.toNat, k.toNat, u.toNat, g.toNat, s.toNat, i.toNat, n.toNat, c.toNat, z.toNat, ?_, ?_, ?_⟩
  · simp only [Attr.mk.injEq]; omega
  · intro x hx
    simp only [List.mem_cons, List.not_mem_nil, or_false] at hx
    omega
  · intro x hx
    simp only [List.mem_cons, List.not_mem_nil, or_false] at hx
    omega

set_option maxRecDepth 20000 in
set_option maxHeartbeats 1600000 in
theorem putAttr_nat (g : Nat) (sv : Value) (l : List UInt8) (t m k u gi s i n c z : Nat) (w : World) (hW : Wr w g sv l) (hok : (Attr.mk t m k u gi s i n c z).ok = true) (hg : (Attr.mk t m k u gi s i n c z).good)
    (h4 : ∀ x ∈ [t, m, k, u, gi, i], x < 4294967296) (h8 : ∀ x ∈ [s, n, c, z], (x : Int) ≤ 9223372036854775807) (hl : l.length ≤ 900000000000) :
    Calls Tryd.prog 95 #[ptr g, .agg (Attr.mk t m k u gi s i n c z).vals.toArray] w (Wrote g sv (l ++ (Attr.mk t m k u gi s i n c z).bytes) (.int .i64 0) w) := by
  have hF := Lib.hid (show l ++ numsOf [t, m, k, u, gi] 4 ++ num s 8 ++ num i 4 ++ numsOf [n, c, z] 8 = l ++ (Attr.mk t m k u gi s i n c z).bytes by simp [Attr.bytes, numsOf, List.append_assoc])
  have hck := fun W => check5_any (Attr.mk t m k u gi s i n c z) W hg
  rw [hok] at hck
  obtain ⟨L, hL⟩ : ∃ L, L = [t, m, k, u, gi] := ⟨_, rfl⟩
  obtain ⟨M, hM⟩ : ∃ M, M = [n, c, z] := ⟨_, rfl⟩
  have b4 : ∀ x ∈ L, x < 4294967296 := fun x hx => h4 x (by subst hL; simp only [List.mem_cons, List.not_mem_nil, or_false] at hx ⊢; rcases hx with h | h | h | h | h <;> simp [h])
  have b8 : ∀ x ∈ M, (x : Int) ≤ 9223372036854775807 := fun x hx => h8 x (by subst hM; simp only [List.mem_cons, List.not_mem_nil, or_false] at hx ⊢; rcases hx with h | h | h <;> simp [h])
  have bi : i < 4294967296 := h4 i (by simp)
  have bs8 : (s : Int) ≤ 9223372036854775807 := h8 s (by simp)
  have hLl : L.length = 5 := by subst hL; rfl
  have hMl : M.length = 3 := by subst hM; rfl
  have hlen5 := fun j => numsOf_len (L.take j) 4
  have hlen3 := fun j => numsOf_len (M.take j) 8
  have hb0 := Blk.new w 42 (Attr.mk t m k u gi s i n c z).vals
  have hB0 : Below w.heap.size w (w.alloc (.cells (Attr.mk t m k u gi s i n c z).vals.toArray 42)) := (Below.refl _ _).alloc (Nat.le_refl _) _
  have HL := Lib.hid hL
  have HM := Lib.hid hM
  have HH := Lib.hid (And.intro hok hg)
  clear hok hg h4 h8 hL hM
  go_enter Tryd.func95, Tryd.ntmps95
  go_wp2_with fail
  refine (hck _).mono ?_
  rintro e w1 ⟨rfl, hb1⟩
  unfold form
  have hA1 := hb0.stays hb1
  have hB1 := below_then hB0 hb1
  have hca := hA1.cell
  have hW1 := hW.stays hB1
  have hC1 := Blk.new w1 3 (i64s L)
  rw [HL.out] at hC1
  have hA2 := hA1.alloc (.cells (i64s [t, m, k, u, gi]).toArray 3)
  have hW2 := hW1.alloc (.cells (i64s [t, m, k, u, gi]).toArray 3)
  have hT2 : Touch (foot g sv) w (w1.alloc (.cells (i64s [t, m, k, u, gi]).toArray 3)) := Touch.of_below (hB1.alloc hB1.size _) _
  have HW2 := Lib.hid hW2
  have HA2 := Lib.hid hA2
  have HC2 := Lib.hid hC1
  have HT2 := Lib.hid hT2
  clear hA2 hW2 hC1 hT2 hb1 hB1 hW1 hA1 hb0 hB0 hW hck
  go_wp2
  change (Code.wp _ _ _ _ (w1.alloc (.cells (i64s [t, m, k, u, gi]).toArray 3)))
  generalize w1.alloc (.cells (i64s [t, m, k, u, gi]).toArray 3) = w2 at *
  go_loopw [28] (fun iv wr => ∃ (j : Nat) (sv' : Value), j ≤ 5 ∧ iv = .int .i64 j ∧ MovedTo g sv sv' (l ++ numsOf (L.take j) 4) w wr ∧ Blk wr w1.heap.size 3 (i64s L) ∧ Blk wr w.heap.size 42 (Attr.mk t m k u gi s i n c z).vals) (fun iv _ => 5 - (intOf iv).toNat)
  case atStart => exact ⟨0, sv, by omega, rfl, by simp [numsOf]; exact ⟨HW2.out, fun _ h => .inl h, HT2.out⟩, by rw [HL.out]; exact HC2.out, HA2.out⟩
  case round =>
    obtain ⟨j, sv', hj, rfl, ⟨hW3, hr3, hT3⟩, hC3, hA3⟩ := hrel
    have HR3 := Lib.hid hr3
    have HT3 := Lib.hid hT3
    clear hr3 hT3 hca
    by_cases hlt : j < 5
    · have hlj : j < L.length := by omega
      have hce := (hC3.cell j).trans (i64s_at L j hlj)
      have HS := Lib.hid (numsOf_succ L 4 j hlj)
      have hb := b4 _ (List.getElem_mem hlj)
      have hn4 := hlen5 j
      have htk : (L.take j).length = j := by rw [List.length_take]; omega
      rw [htk] at hn4
      clear htk
      go_wp2_with fail
      refine (wU32_any g sv' _ L[j] _ hW3 hb (by rw [List.length_append]; omega)).mono ?_
      rintro e w4 ⟨rfl, sv4, hM4⟩
      have hC4 := hW3.keeps hC3 (by decide) (by decide) hM4.2.2
      have hA4 := hW3.keeps hA3 (by decide) (by decide) hM4.2.2
      have HM4 := Lib.hid (MovedTo.next HR3.out HT3.out hM4)
      clear hM4 hC3 hA3 hce hW3 hb
      go_wp2
      go_roundw
      case rel => exact ⟨j + 1, sv4, by omega, by go_num, by have := HM4.out; rw [List.append_assoc, ← HS.out] at this; exact this, hC4, hA4⟩
      case measure => simp [intOf]; omega
    · obtain rfl : j = 5 := by omega
      have htk : L.take 5 = L := List.take_of_length_le (by omega)
      have hn4 := hlen5 5
      rw [htk] at hn4 hW3
      rw [hLl] at hn4
      have hca := hA3.cell
      clear htk hlt hj
      go_wp2_with fail
      refine (wU64_any g sv' _ s _ hW3 bs8 (by rw [List.length_append]; omega)).mono ?_
      rintro e w4 ⟨rfl, sv4, hM4⟩
      have hA4 := hW3.keeps hA3 (by decide) (by decide) hM4.2.2
      have HM4 := Lib.hid (MovedTo.next HR3.out HT3.out hM4)
      have hW4 := hM4.1
      have hca := hA4.cell
      have hl4 := num_len s 8
      clear hM4 hA3 hW3
      go_wp2_with fail
      refine (wU32_any g sv4 _ i _ hW4 bi (by rw [List.length_append, List.length_append]; omega)).mono ?_
      rintro e w5 ⟨rfl, sv5, hM5⟩
      have hA5 := hW4.keeps hA4 (by decide) (by decide) hM5.2.2
      have hW5 := hM5.1
      have HM5 := Lib.hid (MovedTo.next HM4.out.2.1 HM4.out.2.2 hM5)
      have hca := hA5.cell
      have hl5 := num_len i 4
      have hC5 := Blk.new w5 3 (i64s M)
      rw [HM.out] at hC5
      have hA6 := hA5.alloc (.cells (i64s [n, c, z]).toArray 3)
      have hW6 := hW5.alloc (.cells (i64s [n, c, z]).toArray 3)
      have hT6 : Touch (foot g sv) w (w5.alloc (.cells (i64s [n, c, z]).toArray 3)) := HM5.out.2.2.alloc _
      have HW6 := Lib.hid hW6
      have HC6 := Lib.hid hC5
      have HT6 := Lib.hid hT6
      have HR6 := Lib.hid HM5.out.2.1
      clear hM5 hA4 hW4 hA5 hW5 HM4 HM5 hC5 hA6 hW6 hT6
      go_wp2
      change (Code.wp _ _ _ _ (w5.alloc (.cells (i64s [n, c, z]).toArray 3)))
      generalize w5.alloc (.cells (i64s [n, c, z]).toArray 3) = w6 at *
      clear hca
      go_loopw [52] (fun iv wr => ∃ (j : Nat) (sv' : Value), j ≤ 3 ∧ iv = .int .i64 j ∧ MovedTo g sv sv' (l ++ numsOf L 4 ++ num s 8 ++ num i 4 ++ numsOf (M.take j) 8) w wr ∧ Blk wr w5.heap.size 3 (i64s M)) (fun iv _ => 3 - (intOf iv).toNat)
      case atStart => exact ⟨0, sv5, by omega, rfl, by simp only [List.take_zero]; rw [show numsOf [] 8 = [] from rfl, List.append_nil]; exact ⟨HW6.out, HR6.out, HT6.out⟩, by rw [HM.out]; exact HC6.out⟩
      case round =>
        obtain ⟨j, sv7, hj, rfl, ⟨hW7, hr7, hT7⟩, hC7⟩ := hrel
        have HR7 := Lib.hid hr7
        have HT7 := Lib.hid hT7
        clear hr7 hT7
        have hl3 := hlen3 j
        have htk : (M.take j).length ≤ j := List.length_take_le _ _
        by_cases hlt : j < 3
        · have hlj : j < M.length := by omega
          have hce := (hC7.cell j).trans (i64s_at M j hlj)
          have HS := Lib.hid (numsOf_succ M 8 j hlj)
          have hb := b8 _ (List.getElem_mem hlj)
          go_wp2_with fail
          refine (wU64_any g sv7 _ M[j] _ hW7 hb (by simp only [List.length_append]; omega)).mono ?_
          rintro e w8 ⟨rfl, sv8, hM8⟩
          have hC8 := hW7.keeps hC7 (by decide) (by decide) hM8.2.2
          have HM8 := Lib.hid (MovedTo.next HR7.out HT7.out hM8)
          clear hM8 hC7 hce hW7 hb
          go_wp2
          go_roundw
          case rel => exact ⟨j + 1, sv8, by omega, by go_num, by have := HM8.out; rw [List.append_assoc _ (numsOf _ _), ← HS.out] at this; exact this, hC8⟩
          case measure => simp [intOf]; omega
        · obtain rfl : j = 3 := by omega
          have htk : M.take 3 = M := List.take_of_length_le (by omega)
          rw [htk] at hW7
          have HE := Lib.hid hW7
          clear hW7 hC7 htk hl3 hlt hj
          go_wp2
          go_ret
          refine ⟨rfl, sv7, ?_, HR7.out, HT7.out⟩
          have := HE.out
          rw [HL.out, HM.out, hF.out] at this
          exact this
theorem putAttr_any (g : Nat) (sv : Value) (l : List UInt8) (a : Attr) (w : World) (hW : Wr w g sv l) (hok : a.ok = true) (hg : a.good) (hl : l.length ≤ 900000000000) :
    Calls Tryd.prog 95 #[ptr g, .agg a.vals.toArray] w (Wrote g sv (l ++ a.bytes) (.int .i64 0) w) := by
  obtain ⟨t, m, k, u, gi, s, i, n, c, z, rfl, h4, h8⟩ := Attr.nats hok hg
  exact putAttr_nat g sv l t m k u gi s i n c z w hW hok hg h4 h8 hl
end Go.Proofs.YthfhdighniiodaaDoor


/-
  Layer 5, walks: attributes or none, and what was ahead of a call and behind it, are laid or refused. Conditions: at most 2^39 bytes so far.
-/
namespace Go.Proofs.YthfhdighniiodaaDoor
open Go.RowKit
attribute [local go_sem ↓] Go.wp_at_zero Go.wp_at_succ
attribute [local go_sem] rowAt_ptr rowOf_drew rowOf_drewN rowOf_alloc_past rowOf_new
attribute [local go_sem ↓] ldAttrR ldOpt ldSet

attribute [local go_sem] Attr.at0 Attr.lat0 Attr.at1 Attr.lat1 Attr.at2 Attr.lat2 Attr.at3 Attr.lat3 Attr.at4 Attr.lat4 Attr.at5 Attr.lat5 Attr.at6 Attr.lat6 Attr.at7 Attr.lat7 Attr.at8 Attr.lat8 Attr.at9 Attr.lat9 Attr.sub0_10 Attr.lsub0_10 Attr.len Opt.at0 Opt.lat0 Opt.at1 Opt.lat1 Opt.sub0_2 Opt.lsub0_2 Opt.len Post.at0 Post.lat0 Post.at1 Post.lat1 Post.at2 Post.lat2 Post.at3 Post.lat3 Post.at4 Post.lat4 Post.at5 Post.lat5 Post.at6 Post.lat6 Post.at7 Post.lat7 Post.at8 Post.lat8 Post.at9 Post.lat9 Post.at10 Post.lat10 Post.sub0_11 Post.lsub0_11 Post.sub1_10 Post.lsub1_10 Post.len Wcc.at0 Wcc.lat0 Wcc.at1 Wcc.lat1 Wcc.at2 Wcc.lat2 Wcc.at3 Wcc.lat3 Wcc.at4 Wcc.lat4 Wcc.at5 Wcc.lat5 Wcc.at6 Wcc.lat6 Wcc.at7 Wcc.lat7 Wcc.at8 Wcc.lat8 Wcc.at9 Wcc.lat9 Wcc.at10 Wcc.lat10 Wcc.at11 Wcc.lat11 Wcc.at12 Wcc.lat12 Wcc.sub0_13 Wcc.lsub0_13 Wcc.sub0_2 Wcc.lsub0_2 Wcc.sub2_11 Wcc.lsub2_11 Wcc.sub3_10 Wcc.lsub3_10 Wcc.len

def Post.bytes (p : Post) : List UInt8 := truth p.is ++ (if p.is then p.attr.bytes else [])
def Wcc.bytes (c : Wcc) : List UInt8 := c.before.bytes ++ c.after.bytes
theorem Post.bytes_len (p : Post) : p.bytes.length ≤ 60 := by
  unfold Post.bytes; cases p.is <;> simp [truth, num_len, Attr.bytes_len]
theorem Wcc.bytes_len (c : Wcc) : c.bytes.length ≤ 72 := by
  have := c.after.bytes_len
  have := c.before.bytes_len
  simp only [Wcc.bytes, List.length_append]; omega

end Go.Proofs.YthfhdighniiodaaDoor
