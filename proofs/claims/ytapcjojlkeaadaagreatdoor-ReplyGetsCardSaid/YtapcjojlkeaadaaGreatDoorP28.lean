/-
  Layer 5, walks: attributes are laid. Conditions: they may be; at most 2^39 bytes so far.
-/
import Derived.Test.YtapcjojlkeaadaaGreatDoorP12
import Derived.Test.YtapcjojlkeaadaaGreatDoorP19
namespace Go.Proofs.YtapcjojlkeaadaaGreatDoor
open Go.RowKit
attribute [local go_sem ↓] Go.wp_at_zero Go.wp_at_succ
attribute [local go_sem] rowAt_ptr rowOf_drew rowOf_drewN rowOf_alloc_past rowOf_new
attribute [local go_sem] Attr.at0 Attr.lat0 Attr.at1 Attr.lat1 Attr.at2 Attr.lat2 Attr.at3 Attr.lat3 Attr.at4 Attr.lat4 Attr.at5 Attr.lat5 Attr.at6 Attr.lat6 Attr.at7 Attr.lat7 Attr.at8 Attr.lat8 Attr.at9 Attr.lat9 Attr.sub0_10 Attr.lsub0_10 Attr.len Opt.at0 Opt.lat0 Opt.at1 Opt.lat1 Opt.sub0_2 Opt.lsub0_2 Opt.len Post.at0 Post.lat0 Post.at1 Post.lat1 Post.at2 Post.lat2 Post.at3 Post.lat3 Post.at4 Post.lat4 Post.at5 Post.lat5 Post.at6 Post.lat6 Post.at7 Post.lat7 Post.at8 Post.lat8 Post.at9 Post.lat9 Post.at10 Post.lat10 Post.sub0_11 Post.lsub0_11 Post.sub1_10 Post.lsub1_10 Post.len Wcc.at0 Wcc.lat0 Wcc.at1 Wcc.lat1 Wcc.at2 Wcc.lat2 Wcc.at3 Wcc.lat3 Wcc.at4 Wcc.lat4 Wcc.at5 Wcc.lat5 Wcc.at6 Wcc.lat6 Wcc.at7 Wcc.lat7 Wcc.at8 Wcc.lat8 Wcc.at9 Wcc.lat9 Wcc.at10 Wcc.lat10 Wcc.at11 Wcc.lat11 Wcc.at12 Wcc.lat12 Wcc.sub0_13 Wcc.lsub0_13 Wcc.sub0_2 Wcc.lsub0_2 Wcc.sub2_11 Wcc.lsub2_11 Wcc.sub3_10 Wcc.lsub3_10 Wcc.len

def Attr.bytes (a : Attr) : List UInt8 :=
  num a.type.toNat 4 ++ num a.mode.toNat 4 ++ num a.nlink.toNat 4 ++ num a.uid.toNat 4 ++ num a.gid.toNat 4 ++ num a.size.toNat 8 ++ num a.id.toNat 4 ++ num a.gen.toNat 8 ++ num a.change.toNat 8 ++ num a.time.toNat 8
theorem Attr.bytes_len (a : Attr) : a.bytes.length = 56 := by simp [Attr.bytes, num_len]
/-- numbers, one behind the other -/
def numsOf (L : List Nat) (sz : Nat) : List UInt8 := L.flatMap fun n => num n sz
theorem numsOf_succ (L : List Nat) (sz k : Nat) (hk : k < L.length) : numsOf (L.take (k + 1)) sz = numsOf (L.take k) sz ++ num L[k] sz := by
  unfold numsOf; rw [take_next _ _ hk, List.flatMap_append]; simp
theorem numsOf_len (L : List Nat) (sz : Nat) : (numsOf L sz).length = L.length * sz := by
  induction L with
  | nil => simp [numsOf]
  | cons n L ih => unfold numsOf at *; simp only [List.flatMap_cons, List.length_append, num_len, ih, List.length_cons, Nat.add_mul]; omega
def i64s (L : List Nat) : List Value := L.map fun n : Nat => .int .i64 n
theorem i64s_at (L : List Nat) (k : Nat) (hk : k < L.length) : (i64s L)[k]? = some (.int .i64 L[k]) := by
  unfold i64s; rw [List.getElem?_map, List.getElem?_eq_getElem hk]; rfl
theorem Attr.nats {a : Attr} (h : a.ok = true) (hg : a.good) : ∃ t m k u g s i n c z : Nat, a = ⟨t, m, k, u, g, s, i, n, c, z⟩ ∧ (∀ x ∈ [t, m, k, u, g, i], x < 4294967296) ∧ ∀ x ∈ [s, n, c, z], (x : Int) ≤ 9223372036854775807 := by
  obtain ⟨t, m, k, u, g, s, i, n, c, z⟩ := a
  simp only [Attr.ok, okN, Bool.and_eq_true, decide_eq_true_eq] at h
  obtain ⟨g0, g1, g2, g3, g4, g5, g6, g7, g8, g9⟩ := hg
  have g5 := Go.bounds_i64 g5
  have g7 := Go.bounds_i64 g7
  have g8 := Go.bounds_i64 g8
  have g9 := Go.bounds_i64 g9
  simp only at h g5 g7 g8 g9
  refine ⟨t.toNat, m.toNat, k.toNat, u.toNat, g.toNat, s.toNat, i.toNat, n.toNat, c.toNat, z.toNat, ?_, ?_, ?_⟩
  · simp only [Attr.mk.injEq]; omega
  · intro x hx
    simp only [List.mem_cons, List.not_mem_nil, or_false] at hx
    omega
  · intro x hx
    simp only [List.mem_cons, List.not_mem_nil, or_false] at hx
    omega

set_option maxRecDepth 20000 in
set_option maxHeartbeats 1600000 in
theorem putAttr_nat (g : Nat) (sv : Value) (l : List UInt8) (t m k u gi s i n c z : Nat) (w : World) (hW : Wr w g sv l) (hok : (Attr.mk t m k u gi s i n c z).ok = true) (hg : (Attr.mk t m k u gi s i n c z).good)
    (h4 : ∀ x ∈ [t, m, k, u, gi, i], x < 4294967296) (h8 : ∀ x ∈ [s, n, c, z], (x : Int) ≤ 9223372036854775807) (hl : l.length ≤ 900000000000) :
    Calls Tryz.prog 89 #[ptr g, .agg (Attr.mk t m k u gi s i n c z).vals.toArray] w (Wrote g sv (l ++ (Attr.mk t m k u gi s i n c z).bytes) (.int .i64 0) w) := by
  have hF := Lib.hid (show l ++ numsOf [t, m, k, u, gi] 4 ++ num s 8 ++ num i 4 ++ numsOf [n, c, z] 8 = l ++ (Attr.mk t m k u gi s i n c z).bytes by simp [Attr.bytes, numsOf, List.append_assoc])
  have hck := fun W => check5_any (Attr.mk t m k u gi s i n c z) W hg
  rw [hok] at hck
  obtain ⟨L, hL⟩ : ∃ L, L = [t, m, k, u, gi] := ⟨_, rfl⟩
  obtain ⟨M, hM⟩ : ∃ M, M = [n, c, z] := ⟨_, rfl⟩
  have b4 : ∀ x ∈ L, x < 4294967296 := fun x hx => h4 x (by subst hL; simp only [List.mem_cons, List.not_mem_nil, or_false] at hx ⊢; rcases hx with h | h | h | h | h <;> simp [h])
  have b8 : ∀ x ∈ M, (x : Int) ≤ 9223372036854775807 := fun x hx => h8 x (by subst hM; simp only [List.mem_cons, List.not_mem_nil, or_false] at hx ⊢; rcases hx with h | h | h <;> simp [h])
  have bi : i < 4294967296 := h4 i (by simp)
  have bs8 : (s : Int) ≤ 9223372036854775807 := h8 s (by simp)
  have hLl : L.length = 5 := by subst hL; rfl
  have hMl : M.length = 3 := by subst hM; rfl
  have hlen5 := fun j => numsOf_len (L.take j) 4
  have hlen3 := fun j => numsOf_len (M.take j) 8
  have hb0 := Blk.new w 25 (Attr.mk t m k u gi s i n c z).vals
  have hB0 : Below w.heap.size w (w.alloc (.cells (Attr.mk t m k u gi s i n c z).vals.toArray 25)) := (Below.refl _ _).alloc (Nat.le_refl _) _
  have HL := Lib.hid hL
  have HM := Lib.hid hM
  have HH := Lib.hid (And.intro hok hg)
  clear hok hg h4 h8 hL hM
  go_enter Tryz.func89, Tryz.ntmps89
  go_wp2_with fail
  refine (hck _).mono ?_
  rintro e w1 ⟨rfl, hb1⟩
  unfold form
  have hA1 := hb0.stays hb1
  have hB1 := below_then hB0 hb1
  have hca := hA1.cell
  have hW1 := hW.stays hB1
  have hC1 := Blk.new w1 3 (i64s L)
  rw [HL.out] at hC1
  have hA2 := hA1.alloc (.cells (i64s [t, m, k, u, gi]).toArray 3)
  have hW2 := hW1.alloc (.cells (i64s [t, m, k, u, gi]).toArray 3)
  have hT2 : Touch (foot g sv) w (w1.alloc (.cells (i64s [t, m, k, u, gi]).toArray 3)) := Touch.of_below (hB1.alloc hB1.size _) _
  have HW2 := Lib.hid hW2
  have HA2 := Lib.hid hA2
  have HC2 := Lib.hid hC1
  have HT2 := Lib.hid hT2
  clear hA2 hW2 hC1 hT2 hb1 hB1 hW1 hA1 hb0 hB0 hW hck
  go_wp2
  change (Code.wp _ _ _ _ (w1.alloc (.cells (i64s [t, m, k, u, gi]).toArray 3)))
  generalize w1.alloc (.cells (i64s [t, m, k, u, gi]).toArray 3) = w2 at *
  go_loopw [28] (fun iv wr => ∃ (j : Nat) (sv' : Value), j ≤ 5 ∧ iv = .int .i64 j ∧ MovedTo g sv sv' (l ++ numsOf (L.take j) 4) w wr ∧ Blk wr w1.heap.size 3 (i64s L) ∧ Blk wr w.heap.size 25 (Attr.mk t m k u gi s i n c z).vals) (fun iv _ => 5 - (intOf iv).toNat)
  case atStart => exact ⟨0, sv, by omega, rfl, by simp [numsOf]; exact ⟨HW2.out, fun _ h => .inl h, HT2.out⟩, by rw [HL.out]; exact HC2.out, HA2.out⟩
  case round =>
    obtain ⟨j, sv', hj, rfl, ⟨hW3, hr3, hT3⟩, hC3, hA3⟩ := hrel
    have HR3 := Lib.hid hr3
    have HT3 := Lib.hid hT3
    clear hr3 hT3 hca
    by_cases hlt : j < 5
    · have hlj : j < L.length := by omega
      have hce := (hC3.cell j).trans (i64s_at L j hlj)
      have HS := Lib.hid (numsOf_succ L 4 j hlj)
      have hb := b4 _ (List.getElem_mem hlj)
      have hn4 := hlen5 j
      have htk : (L.take j).length = j := by rw [List.length_take]; omega
      rw [htk] at hn4
      clear htk
      go_wp2_with fail
      refine (wU32_any g sv' _ L[j] _ hW3 hb (by rw [List.length_append]; omega)).mono ?_
      rintro e w4 ⟨rfl, sv4, hM4⟩
      have hC4 := hW3.keeps hC3 (by decide) (by decide) hM4.2.2
      have hA4 := hW3.keeps hA3 (by decide) (by decide) hM4.2.2
      have HM4 := Lib.hid (MovedTo.next HR3.out HT3.out hM4)
      clear hM4 hC3 hA3 hce hW3 hb
      go_wp2
      go_roundw
      case rel => exact ⟨j + 1, sv4, by omega, by go_num, by have := HM4.out; rw [List.append_assoc, ← HS.out] at this; exact this, hC4, hA4⟩
      case measure => simp [intOf]; omega
    · obtain rfl : j = 5 := by omega
      have htk : L.take 5 = L := List.take_of_length_le (by omega)
      have hn4 := hlen5 5
      rw [htk] at hn4 hW3
      rw [hLl] at hn4
      have hca := hA3.cell
      clear htk hlt hj
      go_wp2_with fail
      refine (wU64_any g sv' _ s _ hW3 bs8 (by rw [List.length_append]; omega)).mono ?_
      rintro e w4 ⟨rfl, sv4, hM4⟩
      have hA4 := hW3.keeps hA3 (by decide) (by decide) hM4.2.2
      have HM4 := Lib.hid (MovedTo.next HR3.out HT3.out hM4)
      have hW4 := hM4.1
      have hca := hA4.cell
      have hl4 := num_len s 8
      clear hM4 hA3 hW3
      go_wp2_with fail
      refine (wU32_any g sv4 _ i _ hW4 bi (by rw [List.length_append, List.length_append]; omega)).mono ?_
      rintro e w5 ⟨rfl, sv5, hM5⟩
      have hA5 := hW4.keeps hA4 (by decide) (by decide) hM5.2.2
      have hW5 := hM5.1
      have HM5 := Lib.hid (MovedTo.next HM4.out.2.1 HM4.out.2.2 hM5)
      have hca := hA5.cell
      have hl5 := num_len i 4
      have hC5 := Blk.new w5 3 (i64s M)
      rw [HM.out] at hC5
      have hA6 := hA5.alloc (.cells (i64s [n, c, z]).toArray 3)
      have hW6 := hW5.alloc (.cells (i64s [n, c, z]).toArray 3)
      have hT6 : Touch (foot g sv) w (w5.alloc (.cells (i64s [n, c, z]).toArray 3)) := HM5.out.2.2.alloc _
      have HW6 := Lib.hid hW6
      have HC6 := Lib.hid hC5
      have HT6 := Lib.hid hT6
      have HR6 := Lib.hid HM5.out.2.1
      clear hM5 hA4 hW4 hA5 hW5 HM4 HM5 hC5 hA6 hW6 hT6
      go_wp2
      change (Code.wp _ _ _ _ (w5.alloc (.cells (i64s [n, c, z]).toArray 3)))
      generalize w5.alloc (.cells (i64s [n, c, z]).toArray 3) = w6 at *
      clear hca
      go_loopw [52] (fun iv wr => ∃ (j : Nat) (sv' : Value), j ≤ 3 ∧ iv = .int .i64 j ∧ MovedTo g sv sv' (l ++ numsOf L 4 ++ num s 8 ++ num i 4 ++ numsOf (M.take j) 8) w wr ∧ Blk wr w5.heap.size 3 (i64s M)) (fun iv _ => 3 - (intOf iv).toNat)
      case atStart => exact ⟨0, sv5, by omega, rfl, by simp only [List.take_zero]; rw [show numsOf [] 8 = [] from rfl, List.append_nil]; exact ⟨HW6.out, HR6.out, HT6.out⟩, by rw [HM.out]; exact HC6.out⟩
      case round =>
        obtain ⟨j, sv7, hj, rfl, ⟨hW7, hr7, hT7⟩, hC7⟩ := hrel
        have HR7 := Lib.hid hr7
        have HT7 := Lib.hid hT7
        clear hr7 hT7
        have hl3 := hlen3 j
        have htk : (M.take j).length ≤ j := List.length_take_le _ _
        by_cases hlt : j < 3
        · have hlj : j < M.length := by omega
          have hce := (hC7.cell j).trans (i64s_at M j hlj)
          have HS := Lib.hid (numsOf_succ M 8 j hlj)
          have hb := b8 _ (List.getElem_mem hlj)
          go_wp2_with fail
          refine (wU64_any g sv7 _ M[j] _ hW7 hb (by simp only [List.length_append]; omega)).mono ?_
          rintro e w8 ⟨rfl, sv8, hM8⟩
          have hC8 := hW7.keeps hC7 (by decide) (by decide) hM8.2.2
          have HM8 := Lib.hid (MovedTo.next HR7.out HT7.out hM8)
          clear hM8 hC7 hce hW7 hb
          go_wp2
          go_roundw
          case rel => exact ⟨j + 1, sv8, by omega, by go_num, by have := HM8.out; rw [List.append_assoc _ (numsOf _ _), ← HS.out] at this; exact this, hC8⟩
          case measure => simp [intOf]; omega
        · obtain rfl : j = 3 := by omega
          have htk : M.take 3 = M := List.take_of_length_le (by omega)
          rw [htk] at hW7
          have HE := Lib.hid hW7
          clear hW7 hC7 htk hl3 hlt hj
          go_wp2
          go_ret
          refine ⟨rfl, sv7, ?_, HR7.out, HT7.out⟩
          have := HE.out
          rw [HL.out, HM.out, hF.out] at this
          exact this
theorem putAttr_any (g : Nat) (sv : Value) (l : List UInt8) (a : Attr) (w : World) (hW : Wr w g sv l) (hok : a.ok = true) (hg : a.good) (hl : l.length ≤ 900000000000) :
    Calls Tryz.prog 89 #[ptr g, .agg a.vals.toArray] w (Wrote g sv (l ++ a.bytes) (.int .i64 0) w) := by
  obtain ⟨t, m, k, u, gi, s, i, n, c, z, rfl, h4, h8⟩ := Attr.nats hok hg
  exact putAttr_nat g sv l t m k u gi s i n c z w hW hok hg h4 h8 hl
end Go.Proofs.YtapcjojlkeaadaaGreatDoor

/-
  Layer 5, walks: attributes or none, and what was ahead of a call and behind it, are laid or refused. Conditions: at most 2^39 bytes so far.
-/
namespace Go.Proofs.YtapcjojlkeaadaaGreatDoor
open Go.RowKit
attribute [local go_sem ↓] Go.wp_at_zero Go.wp_at_succ
attribute [local go_sem] rowAt_ptr rowOf_drew rowOf_drewN rowOf_alloc_past rowOf_new
attribute [local go_sem ↓] ldAttrR ldOpt ldPost ldWcc

attribute [local go_sem] Attr.at0 Attr.lat0 Attr.at1 Attr.lat1 Attr.at2 Attr.lat2 Attr.at3 Attr.lat3 Attr.at4 Attr.lat4 Attr.at5 Attr.lat5 Attr.at6 Attr.lat6 Attr.at7 Attr.lat7 Attr.at8 Attr.lat8 Attr.at9 Attr.lat9 Attr.sub0_10 Attr.lsub0_10 Attr.len Opt.at0 Opt.lat0 Opt.at1 Opt.lat1 Opt.sub0_2 Opt.lsub0_2 Opt.len Post.at0 Post.lat0 Post.at1 Post.lat1 Post.at2 Post.lat2 Post.at3 Post.lat3 Post.at4 Post.lat4 Post.at5 Post.lat5 Post.at6 Post.lat6 Post.at7 Post.lat7 Post.at8 Post.lat8 Post.at9 Post.lat9 Post.at10 Post.lat10 Post.sub0_11 Post.lsub0_11 Post.sub1_10 Post.lsub1_10 Post.len Wcc.at0 Wcc.lat0 Wcc.at1 Wcc.lat1 Wcc.at2 Wcc.lat2 Wcc.at3 Wcc.lat3 Wcc.at4 Wcc.lat4 Wcc.at5 Wcc.lat5 Wcc.at6 Wcc.lat6 Wcc.at7 Wcc.lat7 Wcc.at8 Wcc.lat8 Wcc.at9 Wcc.lat9 Wcc.at10 Wcc.lat10 Wcc.at11 Wcc.lat11 Wcc.at12 Wcc.lat12 Wcc.sub0_13 Wcc.lsub0_13 Wcc.sub0_2 Wcc.lsub0_2 Wcc.sub2_11 Wcc.lsub2_11 Wcc.sub3_10 Wcc.lsub3_10 Wcc.len

def Post.bytes (p : Post) : List UInt8 := truth p.is ++ (if p.is then p.attr.bytes else [])
def Wcc.bytes (c : Wcc) : List UInt8 := c.before.bytes ++ c.after.bytes
theorem Post.bytes_len (p : Post) : p.bytes.length ≤ 60 := by
  unfold Post.bytes; cases p.is <;> simp [truth, num_len, Attr.bytes_len]
theorem Wcc.bytes_len (c : Wcc) : c.bytes.length ≤ 72 := by
  have := c.after.bytes_len
  have := c.before.bytes_len
  simp only [Wcc.bytes, List.length_append]; omega

set_option maxHeartbeats 800000 in
theorem putPost_bad (g : Nat) (p : Post) (w : World) (hok : p.ok = false) (hg : p.good) :
    Calls Tryz.prog 57 #[ptr g, .agg p.vals.toArray] w fun e w' => e = .returned (.int .i64 14) ∧ Below w.heap.size w w' := by
  have hck := fun W => post5_any p W hg
  rw [hok] at hck
  have hb0 := Blk.new w 27 p.vals
  have r0 : rowOf (w.alloc (.cells p.vals.toArray 27)) w.heap.size 0 11 = some p.vals.toArray := hb0.row 0 11 (by simp [Post.len])
  have hB0 : Below w.heap.size w (w.alloc (.cells p.vals.toArray 27)) := (Below.refl _ _).alloc (Nat.le_refl _) _
  clear hok
  go_enter Tryz.func57, Tryz.ntmps57
  go_wp2_with fail
  refine (hck _).mono ?_
  rintro e w1 ⟨rfl, hb1⟩
  have HB := Lib.hid (below_then hB0 hb1)
  clear hck hb0 r0 hB0 hb1
  go_wp2
  go_ret
  exact ⟨rfl, HB.out⟩

set_option maxHeartbeats 800000 in
theorem putPost_any (g : Nat) (sv : Value) (l : List UInt8) (p : Post) (w : World) (hW : Wr w g sv l) (hok : p.ok = true) (hg : p.good) (hl : l.length ≤ 800000000000) :
    Calls Tryz.prog 57 #[ptr g, .agg p.vals.toArray] w (Wrote g sv (l ++ p.bytes) (.int .i64 0) w) := by
  have hck := fun W => post5_any p W hg
  have HO := Lib.hid hok
  rw [hok] at hck
  have hb0 := Blk.new w 27 p.vals
  have r0 : rowOf (w.alloc (.cells p.vals.toArray 27)) w.heap.size 0 11 = some p.vals.toArray := hb0.row 0 11 (by simp [Post.len])
  have hB0 : Below w.heap.size w (w.alloc (.cells p.vals.toArray 27)) := (Below.refl _ _).alloc (Nat.le_refl _) _
  clear hok
  go_enter Tryz.func57, Tryz.ntmps57
  go_wp2_with fail
  refine (hck _).mono ?_
  rintro e w1 ⟨rfl, hb1⟩
  have hA1 := hb0.stays hb1
  have hB1 := below_then hB0 hb1
  have hca := hA1.cell
  have hW1 := hW.stays hB1
  have hT1 : Touch (foot g sv) w w1 := Touch.of_below hB1 _
  have HT1 := Lib.hid hT1
  clear hck hb0 r0 hB0 hb1 hB1 hT1
  go_wp2_with fail
  refine (wBool_any g sv l p.is _ hW1 (by omega)).mono ?_
  rintro e w2 ⟨rfl, sv2, hM2⟩
  have hA2 := hW1.keeps hA1 (by decide) (by decide) hM2.2.2
  have HM2 := Lib.hid (MovedTo.next (fun _ h => .inl h) HT1.out hM2)
  have hW2 := hM2.1
  have hca := hA2.cell
  have r2 : rowOf w2 w.heap.size 1 10 = some p.attr.vals.toArray := hA2.row 1 10 (by simp [Post.len])
  have htl : (truth p.is).length = 4 := by simp [truth, num_len]
  clear hM2 hA1 hW1 hA2
  cases hi : p.is
  · have HF := Lib.hid (show l ++ truth false = l ++ p.bytes by simp [Post.bytes, hi])
    rw [hi] at HM2
    clear hW2 htl
    go_wp2
    go_ret
    refine ⟨rfl, sv2, ?_⟩
    have := HM2.out
    rw [HF.out] at this
    exact this
  · have HF := Lib.hid (show l ++ truth true ++ p.attr.bytes = l ++ p.bytes by simp [Post.bytes, hi])
    have hao : p.attr.ok = true := by have := HO.out; simpa [Post.ok, hi] using this
    rw [hi] at HM2 hW2 htl
    go_wp2_with fail
    refine (putAttr_any g sv2 _ p.attr _ hW2 hao hg (by rw [List.length_append]; omega)).mono ?_
    rintro e w3 ⟨rfl, sv3, hM3⟩
    have HM3 := Lib.hid (MovedTo.next HM2.out.2.1 HM2.out.2.2 hM3)
    clear hM3 hW2 hca r2
    go_wp2
    go_ret
    refine ⟨rfl, sv3, ?_⟩
    have := HM3.out
    rw [HF.out] at this
    exact this

set_option maxHeartbeats 800000 in
theorem putWcc_bad (g : Nat) (c : Wcc) (w : World) (hok : c.ok = false) (hg : c.good) :
    Calls Tryz.prog 58 #[ptr g, .agg c.vals.toArray] w fun e w' => e = .returned (.int .i64 14) ∧ Below w.heap.size w w' := by
  have hck := fun W => wcc5_any c W hg
  rw [hok] at hck
  have hb0 := Blk.new w 31 c.vals
  have r0 : rowOf (w.alloc (.cells c.vals.toArray 31)) w.heap.size 0 13 = some c.vals.toArray := hb0.row 0 13 (by simp [Wcc.len])
  have hB0 : Below w.heap.size w (w.alloc (.cells c.vals.toArray 31)) := (Below.refl _ _).alloc (Nat.le_refl _) _
  clear hok
  go_enter Tryz.func58, Tryz.ntmps58
  go_wp2_with fail
  refine (hck _).mono ?_
  rintro e w1 ⟨rfl, hb1⟩
  have HB := Lib.hid (below_then hB0 hb1)
  clear hck hb0 r0 hB0 hb1
  go_wp2
  go_ret
  exact ⟨rfl, HB.out⟩

set_option maxHeartbeats 800000 in
theorem putWcc_any (g : Nat) (sv : Value) (l : List UInt8) (c : Wcc) (w : World) (hW : Wr w g sv l) (hok : c.ok = true) (hg : c.good) (hl : l.length ≤ 700000000000) :
    Calls Tryz.prog 58 #[ptr g, .agg c.vals.toArray] w (Wrote g sv (l ++ c.bytes) (.int .i64 0) w) := by
  have hck := fun W => wcc5_any c W hg
  have hok2 := hok
  simp only [Wcc.ok, Bool.and_eq_true] at hok2
  obtain ⟨ho1, ho2⟩ := hok2
  have hpos := Opt.ok_pos ho1
  have hmax := (Go.bounds_i64 hg.1).2
  rw [hok] at hck
  have hb0 := Blk.new w 31 c.vals
  have r0 : rowOf (w.alloc (.cells c.vals.toArray 31)) w.heap.size 0 13 = some c.vals.toArray := hb0.row 0 13 (by simp [Wcc.len])
  have hB0 : Below w.heap.size w (w.alloc (.cells c.vals.toArray 31)) := (Below.refl _ _).alloc (Nat.le_refl _) _
  have hbl : (optB c.before.is c.before.n).length ≤ 12 := c.before.bytes_len
  clear hok
  go_enter Tryz.func58, Tryz.ntmps58
  go_wp2_with fail
  refine (hck _).mono ?_
  rintro e w1 ⟨rfl, hb1⟩
  have hA1 := hb0.stays hb1
  have hB1 := below_then hB0 hb1
  have hW1 := hW.stays hB1
  have hT1 : Touch (foot g sv) w w1 := Touch.of_below hB1 _
  have r1 : rowOf w1 w.heap.size 0 2 = some c.before.vals.toArray := hA1.row 0 2 (by simp [Wcc.len])
  have HT1 := Lib.hid hT1
  clear hck hb0 r0 hB0 hb1 hB1 hT1
  go_wp2_with fail
  refine (wOpt_any g sv l c.before.is c.before.n _ hW1 hpos (by omega) (by omega)).mono ?_
  rintro e w2 ⟨rfl, sv2, hM2⟩
  have hA2 := hW1.keeps hA1 (by decide) (by decide) hM2.2.2
  have HM2 := Lib.hid (MovedTo.next (fun _ h => .inl h) HT1.out hM2)
  have hW2 := hM2.1
  have r2 : rowOf w2 w.heap.size 2 11 = some c.after.vals.toArray := hA2.row 2 11 (by simp [Wcc.len])
  have HF := Lib.hid (show l ++ optB c.before.is c.before.n ++ c.after.bytes = l ++ c.bytes by simp [Wcc.bytes, Opt.bytes])
  clear hM2 hA1 hW1 hA2 r1
  go_wp2_with fail
  refine (putPost_any g sv2 _ c.after _ hW2 ho2 hg.2 (by rw [List.length_append]; omega)).mono ?_
  rintro e w3 ⟨rfl, sv3, hM3⟩
  have HM3 := Lib.hid (MovedTo.next HM2.out.2.1 HM2.out.2.2 hM3)
  clear hM3 hW2 r2
  go_wp2
  go_ret
  refine ⟨rfl, sv3, ?_⟩
  have := HM3.out
  rw [HF.out] at this
  exact this
end Go.Proofs.YtapcjojlkeaadaaGreatDoor
