/-
  Layer 17, walks: the document's changes that make a cache (written by wip/tools/genrefchanges.py). Conditions: at most 100 of each kind.
-/
import Derived.Test.YthfhdighniiodaaDoorR27
import Derived.Test.YthfhdighniiodaaDoorR16
import Derived.Test.YthfhdighniiodaaDoorR09
import Derived.Test.YthfhdighniiodaaDoorR21
namespace Go.Proofs.YthfhdighniiodaaDoor
open Go.RowKit
attribute [local go_sem ↓] Go.wp_at_zero Go.wp_at_succ
attribute [local go_sem] rowAt_ptr rowOf_drew rowOf_drewN rowOf_alloc_past rowOf_new
attribute [local go_sem] Cch.lat0 Cch.lat1 Cch.lat2 Cch.lat3

end Go.Proofs.YthfhdighniiodaaDoor

/-
  Layer 17, walks: whether two lists of changes are the same; what must come of fixed calls; the law RecChanges. Conditions: sizes.
-/
namespace Go.Proofs.YthfhdighniiodaaDoor
open Go.RowKit
attribute [local go_sem ↓] Go.wp_at_zero Go.wp_at_succ
attribute [local go_sem] rowAt_ptr rowOf_drew rowOf_drewN rowOf_alloc_past rowOf_new
attribute [local go_sem ↓] ldAttrR ldChange neqChange

attribute [local go_sem] Change.at0 Change.lat0 Change.at1 Change.lat1 Change.at2 Change.lat2 Change.at3 Change.lat3 Change.at4 Change.lat4 Change.at5 Change.lat5 Change.at6 Change.lat6 Change.at7 Change.lat7 Change.at8 Change.lat8 Change.at9 Change.lat9 Change.at10 Change.lat10 Change.at11 Change.lat11 Change.at12 Change.lat12 Change.at13 Change.lat13 Change.at14 Change.lat14 Change.at15 Change.lat15 Change.at16 Change.lat16 Change.at17 Change.lat17 Change.sub0_18 Change.lsub0_18 Change.sub6_10 Change.lsub6_10 Change.len Attr.at0 Attr.lat0 Attr.at1 Attr.lat1 Attr.at2 Attr.lat2 Attr.at3 Attr.lat3 Attr.at4 Attr.lat4 Attr.at5 Attr.lat5 Attr.at6 Attr.lat6 Attr.at7 Attr.lat7 Attr.at8 Attr.lat8 Attr.at9 Attr.lat9 Attr.sub0_10 Attr.lsub0_10 Attr.len

attribute [local go_sem] guardChange Cch.lat0 Cch.lat1 Cch.lat2 Cch.lat3

theorem rowCellOf {α : Type} {w : World} {sz : Nat} {A : Option Addr} {l : List α} {vals : α → List Value} (hsz : ∀ x, (vals x).length = sz) (h0 : 0 < sz) (hA : At w sz A (l.map vals)) {k : Nat} (hk : k < l.length) :
    ∃ b off, A = some ⟨b, off, none⟩ ∧ b < w.heap.size ∧ rowOf w b (off + k * sz) sz = some (vals l[k]).toArray := by
  obtain ⟨b, off, rfl, hb, hc⟩ := rowCell hA hk
  exact ⟨b, off, rfl, hb, rowOf_of hc (hsz _) h0⟩
theorem take_same {α : Type} {l m : List α} {k : Nat} (h : l.take k = m.take k) (hk : k < l.length) (hm : k < m.length) (he : l[k] = m[k]) : l.take (k + 1) = m.take (k + 1) := by
  rw [take_next _ _ hk, take_next _ _ hm, h, he]

set_option maxHeartbeats 1600000 in
theorem same17_any (A B : Option Addr) (c d : Nat) (l m : List Change) (w : World) (hl : l.length ≤ 9223372036854775807) (hm : m.length ≤ 9223372036854775807) (hA : At w 18 A (l.map Change.vals)) (hB : At w 18 B (m.map Change.vals)) :
    Calls Tryd.prog 25 #[.slice A l.length c, .slice B m.length d] w fun e w' => e = .returned (.bool (decide (l = m))) ∧ Below w.heap.size w w' := by
  by_cases hlm : l.length = m.length
  · have hne : ((l.length : Int) != (m.length : Int)) = false := by simp [hlm]
    go_enter Tryd.func25, Tryd.ntmps25
    go_wp2
    go_loopw [5] (fun i wr => ∃ k : Nat, k ≤ l.length ∧ i = .int .i64 k ∧ l.take k = m.take k ∧ Below w.heap.size w wr) (fun i _ => l.length - (intOf i).toNat)
    case atStart => exact ⟨0, Nat.zero_le _, rfl, rfl, Below.refl _ _⟩
    case round =>
      obtain ⟨k, hk, rfl, ht, hb⟩ := hrel
      by_cases hlt : k < l.length
      · have hltm : k < m.length := by omega
        obtain ⟨b1, o1, rfl, hb1, r1⟩ := rowCellOf Change.len (by omega) (hA.below hb) hlt
        obtain ⟨b2, o2, rfl, hb2, r2⟩ := rowCellOf Change.len (by omega) (hB.below hb) hltm
        have hk0 : (0 : Int) ≤ (k : Int) := Int.natCast_nonneg _
        have hk1 : (k : Int) < (l.length : Int) := by omega
        have hk2 : (k : Int) < (m.length : Int) := by omega
        have HT := Lib.hid (fun h => take_same ht hlt hltm h)
        have HN := Lib.hid (show l[k] ≠ m[k] → l ≠ m from fun h e => h (by subst e; rfl))
        clear ht hA hB
        by_cases he : l[k] = m[k]
        · have hd : decide (l[k] ≠ m[k]) = false := decide_eq_false (by simpa using he)
          have HS := Lib.hid (HT.out he)
          clear he HT HN
          go_wp2_with fail
          go_region_held3 (fun W => Stb wr W) (first | exact Stb.start | assumption) (first | fail)
          go_wp2
          go_roundw
          case rel => exact ⟨k + 1, by omega, by go_num, HS.out, bdN hb _⟩
          case measure => simp [intOf]; omega
        · have hd : decide (l[k] ≠ m[k]) = true := decide_eq_true he
          have HS := Lib.hid (HN.out he)
          clear he HT HN
          go_wp2_with fail
          go_region_held3 (fun W => Stb wr W) (first | exact Stb.start | assumption) (first | fail)
          go_wp2
          go_ret
          exact ⟨ret_bool (by rw [decide_eq_false HS.out]), bdN hb _⟩
      · have hlt2 : ¬ k < l.length := hlt
        have HS := Lib.hid (show l = m by
          have h1 : k = l.length := by omega
          rw [h1, List.take_length, hlm, List.take_length] at ht
          exact ht)
        clear ht hA hB
        go_wp2
        go_ret
        exact ⟨ret_bool (by rw [decide_eq_true HS.out]), hb⟩
  · have hne : ((l.length : Int) != (m.length : Int)) = true := by simp; omega
    have HS := Lib.hid (show l ≠ m from fun e => hlm (by rw [e]))
    go_enter Tryd.func25, Tryd.ntmps25
    go_wp2
    go_ret
    exact ⟨ret_bool (by rw [decide_eq_false HS.out]), Below.refl _ _⟩

def knownChange : Change := { change0 with kind := 4, up := [97, 98] }
theorem rPut_known : rPut [knownChange] = ([0, 0, 0, 1, 0, 0, 0, 4, 0, 0, 0, 2, 97, 98, 0, 0], 0) := by kernel_rfl

set_option maxHeartbeats 400000 in
theorem known17_any (w : World) : Calls Tryd.prog 19 #[] w fun e w' => e = .returned (.bool true) ∧ Below w.heap.size w w' := by
  have hat : At (w.alloc (.cells [knownChange.vals].flatten.toArray 44)) 18 (some ⟨w.heap.size, 0, none⟩) ([knownChange].map Change.vals) := At.fresh w 44 18 w.heap.size [knownChange.vals] (by simp [Change.len]) rfl
  have hB0 : Below w.heap.size w (w.alloc (.cells [knownChange.vals].flatten.toArray 44)) := (Below.refl _ _).alloc (Nat.le_refl _) _
  have hp := put17_any (some ⟨w.heap.size, 0, none⟩) 1 [knownChange] _ (by decide) (by intro x hx; simp at hx; subst hx; exact ⟨rfl, rfl, rfl, by decide, by decide, by decide, ⟨rfl, rfl, rfl, rfl, rfl, rfl, rfl, rfl, rfl, rfl⟩, rfl, rfl⟩) hat
  rw [rPut_known] at hp
  have HP := Lib.hid hp
  have HB := Lib.hid hB0
  clear hp hat hB0
  go_enter Tryd.func19, Tryd.ntmps19
  go_wp2_with fail
  refine HP.out.mono ?_
  rintro e w1 ⟨rfl, hb1⟩
  have HB2 := Lib.hid (below_then HB.out hb1)
  clear hb1 HP HB
  go_wp2
  go_ret
  exact ⟨rfl, HB2.out⟩

/-- all changes that make a cache -/
def cacheChanges (c : Cch) : List Change := c.hs.map hChange ++ c.fs.map fChange ++ c.ns.map nChange ++ c.bl.map bChange

end Go.Proofs.YthfhdighniiodaaDoor


/-
  Layer 5, walks: the options of what is to be set, in order; whether there are none; what is to be set is put. No condition.
-/
namespace Go.Proofs.YthfhdighniiodaaDoor
open Go.RowKit
attribute [local go_sem ↓] Go.wp_at_zero Go.wp_at_succ ldOpt ldSet

attribute [local go_sem] rowAt_ptr rowOf_drew rowOf_drewN

def optPtrs (g : Nat) : List Value := [.pointer (some ⟨g, 0, none⟩), .pointer (some ⟨g, 2, none⟩), .pointer (some ⟨g, 4, none⟩), .pointer (some ⟨g, 6, none⟩), .pointer (some ⟨g, 8, none⟩)]

set_option maxHeartbeats 1600000 in
theorem options_any (g : Nat) (w : World) :
    Calls Tryd.prog 132 #[ptr g] w fun e w' => ∃ h, e = .returned (.slice (some ⟨h, 0, none⟩) 5 5) ∧ Blk w' h 157 (optPtrs g) ∧ Below w.heap.size w w' ∧ w.heap.size ≤ h := by
  go_enter Tryd.func132, Tryd.ntmps132
  go_wp2
  go_region
  go_wp2
  go_ret
  exact ⟨_, rfl, (Blk.new _ _ _).drew, ((Below.refl _ _).alloc (Nat.le_refl _) _).drew, Nat.le_refl _⟩

theorem optPtr_at {w : World} {h g k : Nat} (hB : Blk w h 157 (optPtrs g)) (hk : k < 5) : w.cell? ⟨h, k, none⟩ = some (.pointer (some ⟨g, 2 * k, none⟩)) := by
  rw [hB.cell]
  match k, hk with
  | 0, _ | 1, _ | 2, _ | 3, _ | 4, _ => rfl
theorem opt_at {w : World} {g k : Nat} {s : Sett} (hB : Blk w g 55 s.vals) (hk : k < 5) : w.cell? ⟨g, 2 * k, none⟩ = some (.bool (s.opt k).is) ∧ rowOf w g (2 * k) 2 = some (s.opt k).vals.toArray := by
  obtain ⟨-, r0, r1, r2, r3, r4⟩ := settRows hB
  rw [hB.cell]
  match k, hk with
  | 0, _ => exact ⟨rfl, r0⟩
  | 1, _ => exact ⟨rfl, r1⟩
  | 2, _ => exact ⟨rfl, r2⟩
  | 3, _ => exact ⟨rfl, r3⟩
  | 4, _ => exact ⟨rfl, r4⟩

theorem putSet_nil (s : Sett) (w : World) :
    Calls Tryd.prog 106 #[.pointer none, .agg s.vals.toArray] w fun e w' => e = .returned (.int .i64 1) ∧ Below w.heap.size w w' := by
  go_enter Tryd.func106, Tryd.ntmps106
  go_wp2
  go_ret
  exact ⟨rfl, (Below.refl _ _).alloc (Nat.le_refl _) _⟩

set_option maxHeartbeats 800000 in
theorem putSet_bad (g : Nat) (s : Sett) (w : World) (hs : s.ok = false) :
    Calls Tryd.prog 106 #[ptr g, .agg s.vals.toArray] w fun e w' => e = .returned (.int .i64 14) ∧ Below w.heap.size w w' := by
  have hb0 := Blk.new w 55 s.vals
  have hB0 : Below w.heap.size w (w.alloc (.cells s.vals.toArray 55)) := (Below.refl _ _).alloc (Nat.le_refl _) _
  obtain ⟨r0, -⟩ := settRows hb0
  go_enter Tryd.func106, Tryd.ntmps106
  go_wp2_with fail
  refine (set_any s _).mono ?_
  rintro e w1 ⟨he, hb⟩
  rw [hs] at he
  subst he
  have hB1 := below_then hB0 hb
  clear hb hb0 r0 hB0
  go_wp2
  go_ret
  exact ⟨rfl, hB1⟩

set_option maxHeartbeats 3200000 in
theorem putSet_any (g : Nat) (sv : Value) (l : List UInt8) (s : Sett) (w : World) (hW : Wr w g sv l) (hs : s.ok = true) (hg : s.good) (hl : l.length ≤ 900000000000) :
    Calls Tryd.prog 106 #[ptr g, .agg s.vals.toArray] w (Wrote g sv (l ++ s.bytes) (.int .i64 0) w) := by
  have hb0 := Blk.new w 55 s.vals
  have hB0 : Below w.heap.size w (w.alloc (.cells s.vals.toArray 55)) := (Below.refl _ _).alloc (Nat.le_refl _) _
  obtain ⟨r0, -⟩ := settRows hb0
  go_enter Tryd.func106, Tryd.ntmps106
  go_wp2_with fail
  generalize w.alloc (.cells s.vals.toArray 55) = w0 at *
  refine (set_any s _).mono ?_
  rintro e w1 ⟨he, hb⟩
  rw [hs] at he
  subst he
  have hb1 := hb0.stays hb
  have hB1 := below_then hB0 hb
  clear hb hb0 r0 hB0
  go_wp2_with fail
  refine (options_any _ _).mono ?_
  rintro e w2 ⟨h, rfl, hp, hb, -⟩
  have hb2 := hb1.stays hb
  have hB2 := below_then hB1 hb
  have hW2 := hW.stays hB2
  have hT2 : Touch (foot g sv) w w2 := Touch.of_below hB2 _
  clear hb hb1 hB1
  go_wp2
  go_loopw [16] (fun i wr => ∃ (k : Nat) (sv' : Value), k ≤ 5 ∧ i = .int .i64 k ∧ MovedTo g sv sv' (l ++ s.upto k) w wr ∧ Blk wr h 157 (optPtrs w.heap.size) ∧ Blk wr w.heap.size 55 s.vals) (fun i _ => 5 - (intOf i).toNat)
  case atStart => exact ⟨0, sv, by omega, rfl, by unfold Sett.upto; rw [List.append_nil]; exact ⟨hW2, fun _ h => .inl h, hT2⟩, hp, hb2⟩
  case round =>
    obtain ⟨k, sv', hk, rfl, ⟨hW3, hr3, hT3⟩, hp3, hb3⟩ := hrel
    have HR3 := Lib.hid hr3
    have HT3 := Lib.hid hT3
    clear hr3 hT3
    by_cases hlt : k < 5
    · have hc := optPtr_at hp3 hlt
      obtain ⟨-, hd⟩ := opt_at hb3 hlt
      have hlen := s.upto_len k
      have hpos := Sett.opt_pos hs hlt
      have hgood := Go.bounds_i64 (Sett.opt_good hg hlt)
      go_wp2_with fail
      refine (wOpt_any g sv' _ (s.opt k).is (s.opt k).n _ hW3 hpos (by omega) (by rw [List.length_append]; omega)).mono ?_
      rintro e w4 ⟨rfl, sv4, hM4⟩
      have hp4 := hW3.keeps hp3 (by decide) (by decide) hM4.2.2
      have hb4 := hW3.keeps hb3 (by decide) (by decide) hM4.2.2
      have HM := Lib.hid (MovedTo.next HR3.out HT3.out hM4)
      clear hM4 hp3 hb3 hc hd hW3
      go_wp2
      go_roundw
      case rel => exact ⟨k + 1, sv4, by omega, by go_num, by have := HM.out; rw [List.append_assoc] at this; exact this, hp4, hb4⟩
      case measure => simp [intOf]; omega
    · obtain rfl : k = 5 := by omega
      go_wp2
      go_ret
      exact ⟨rfl, sv', by rw [← Sett.upto_five]; exact ⟨hW3, HR3.out, HT3.out⟩⟩

theorem refOptO_any (o : Opt) (w : World) (hn : o.is = true → 0 ≤ o.n) (hi : o.n ≤ 9223372036854775807) :
    Calls Tryd.prog 82 #[.agg o.vals.toArray] w fun e w' => e = .returned (.string (bs o.bytes)) ∧ Below w.heap.size w w' := refOpt_any o.is o.n w hn hi

end Go.Proofs.YthfhdighniiodaaDoor


/-
  Layer 5, walks: the bytes of what is to be set. No condition.
-/
namespace Go.Proofs.YthfhdighniiodaaDoor
open Go.RowKit
attribute [local go_sem ↓] Go.wp_at_zero Go.wp_at_succ ldOpt ldSet

attribute [local go_sem] rowAt_ptr rowOf_drew rowOf_drewN

theorem add_bs (a b : List UInt8) (h : a.length + b.length ≤ 9223372036854775807) : Op.stringOp .add (bs a) (bs b) = pure (.string (bs (a ++ b))) := by
  have h2 : ¬ (((bs a).size + (bs b).size : Nat) : Int) > IntKind.i64.max := by
    rw [bs_size, bs_size]
    show ¬ (((a.length + b.length : Nat) : Int) > 9223372036854775807)
    omega
  simp only [Op.stringOp]
  rw [if_neg h2, bs_append]
attribute [local go_sem ↓] add_bs

set_option maxHeartbeats 3200000 in
theorem setBytes_any (s : Sett) (w : World) (hs : s.ok = true) (hg : s.good) :
    Calls Tryd.prog 81 #[.agg s.vals.toArray] w fun e w' => e = .returned (.string (bs s.bytes)) ∧ Below w.heap.size w w' := by
  have hb0 := Blk.new w 55 s.vals
  have hB0 : Below w.heap.size w (w.alloc (.cells s.vals.toArray 55)) := (Below.refl _ _).alloc (Nat.le_refl _) _
  have hz : w.heap.size < (w.alloc (.cells s.vals.toArray 55)).heap.size := by simp
  obtain ⟨-, r0, r1, r2, r3, r4⟩ := settRows hb0
  obtain ⟨p0, p1, p2, p3, p4⟩ := Sett.ok_pos hs
  obtain ⟨g0, g1, g2, g3, g4⟩ := hg
  have g0 : s.mode.n ≤ 9223372036854775807 := (Go.bounds_i64 g0).2
  have g1 : s.uid.n ≤ 9223372036854775807 := (Go.bounds_i64 g1).2
  have g2 : s.gid.n ≤ 9223372036854775807 := (Go.bounds_i64 g2).2
  have g3 : s.size.n ≤ 9223372036854775807 := (Go.bounds_i64 g3).2
  have g4 : s.time.n ≤ 9223372036854775807 := (Go.bounds_i64 g4).2
  have l0 := s.mode.bytes_len
  have l1 := s.uid.bytes_len
  have l2 := s.gid.bytes_len
  have l3 := s.size.bytes_len
  have l4 := s.time.bytes_len
  have f0 : s.mode.bytes.length + s.uid.bytes.length ≤ 9223372036854775807 := by omega
  have f1 : s.mode.bytes.length + s.uid.bytes.length + s.gid.bytes.length ≤ 9223372036854775807 := by omega
  have f2 : s.mode.bytes.length + s.uid.bytes.length + s.gid.bytes.length + s.size.bytes.length ≤ 9223372036854775807 := by omega
  have f3 : s.mode.bytes.length + s.uid.bytes.length + s.gid.bytes.length + s.size.bytes.length + s.time.bytes.length ≤ 9223372036854775807 := by omega
  have e1 : (s.mode.bytes ++ s.uid.bytes).length + s.gid.bytes.length ≤ 9223372036854775807 := by simp; omega
  have e2 : (s.mode.bytes ++ s.uid.bytes ++ s.gid.bytes).length + s.size.bytes.length ≤ 9223372036854775807 := by simp; omega
  have e3 : (s.mode.bytes ++ s.uid.bytes ++ s.gid.bytes ++ s.size.bytes).length + s.time.bytes.length ≤ 9223372036854775807 := by simp; omega
  have d2 : s.mode.bytes.length + (s.uid.bytes.length + s.gid.bytes.length) + s.size.bytes.length ≤ 9223372036854775807 := by omega
  have d3 : s.mode.bytes.length + (s.uid.bytes.length + (s.gid.bytes.length + s.size.bytes.length)) + s.time.bytes.length ≤ 9223372036854775807 := by omega
  clear hb0 l0 l1 l2 l3 l4
  go_enter Tryd.func81, Tryd.ntmps81
  go_wp2_with fail
  generalize w.alloc (.cells s.vals.toArray 55) = w1 at *
  go_region_held3 (fun W => Stb w1 W) (first | exact Stb.start | assumption | (exact Stb.alloc (by assumption) _) | (exact Stb.call (by assumption) (by assumption))) (first
    | (go_at_call 82; refine (refOptO_any _ _ (by assumption) (by assumption)).mono ?_; rintro e w2 ⟨rfl, hb⟩))
  have hs5 : Stb w1 w2 := by assumption
  go_wp2
  go_ret
  exact ⟨ret_string (by simp [Sett.bytes]), below_then hB0 hs5.below⟩
end Go.Proofs.YthfhdighniiodaaDoor


/-
  Layers 5 and 17, walks of the document's own: attributes' bytes; Large; a record's Bytes (written by wip/tools/genrecbytes.py). Conditions: what is laid may be.
-/
namespace Go.Proofs.YthfhdighniiodaaDoor
open Go.RowKit
attribute [local go_sem ↓] Go.wp_at_zero Go.wp_at_succ
attribute [local go_sem] rowAt_ptr rowOf_drew rowOf_drewN rowOf_alloc_past rowOf_new
attribute [local go_sem ↓] ldAttrR ldChange

attribute [local go_sem] Change.at0 Change.lat0 Change.at1 Change.lat1 Change.at2 Change.lat2 Change.at3 Change.lat3 Change.at4 Change.lat4 Change.at5 Change.lat5 Change.at6 Change.lat6 Change.at7 Change.lat7 Change.at8 Change.lat8 Change.at9 Change.lat9 Change.at10 Change.lat10 Change.at11 Change.lat11 Change.at12 Change.lat12 Change.at13 Change.lat13 Change.at14 Change.lat14 Change.at15 Change.lat15 Change.at16 Change.lat16 Change.at17 Change.lat17 Change.sub0_18 Change.lsub0_18 Change.sub6_10 Change.lsub6_10 Change.len Attr.at0 Attr.lat0 Attr.at1 Attr.lat1 Attr.at2 Attr.lat2 Attr.at3 Attr.lat3 Attr.at4 Attr.lat4 Attr.at5 Attr.lat5 Attr.at6 Attr.lat6 Attr.at7 Attr.lat7 Attr.at8 Attr.lat8 Attr.at9 Attr.lat9 Attr.sub0_10 Attr.lsub0_10 Attr.len

section
attribute [local go_sem ↓] add_bs

attribute [local go_sem] num_len List.length_append

set_option maxRecDepth 20000 in
set_option maxHeartbeats 3200000 in
theorem attrBytes_nat (t m k u g s i n c z : Nat) (w : World) (h4 : ∀ x ∈ [t, m, k, u, g, i], x < 4294967296) (h8 : ∀ x ∈ [s, n, c, z], (x : Int) ≤ 9223372036854775807) :
    Calls Tryd.prog 64 #[.agg (Attr.mk t m k u g s i n c z).vals.toArray] w fun e w' => e = .returned (.string (bs (Attr.mk t m k u g s i n c z).bytes)) ∧ Below w.heap.size w w' := by
  have HF := Lib.hid (show (Attr.mk t m k u g s i n c z).bytes = num t 4 ++ num m 4 ++ num k 4 ++ num u 4 ++ num g 4 ++ num s 8 ++ num i 4 ++ num n 8 ++ num c 8 ++ num z 8 by simp only [Attr.bytes, Int.toNat_natCast])
  simp only [List.mem_cons, List.not_mem_nil, or_false, forall_eq_or_imp, forall_eq] at h4 h8
  obtain ⟨b1, b2, b3, b4, b5, b6⟩ := h4
  obtain ⟨c1, c2, c3, c4⟩ := h8
  have d1 : (t : Int) ≤ 9223372036854775807 := by omega
  have d2 : (m : Int) ≤ 9223372036854775807 := by omega
  have d3 : (k : Int) ≤ 9223372036854775807 := by omega
  have d4 : (u : Int) ≤ 9223372036854775807 := by omega
  have d5 : (g : Int) ≤ 9223372036854775807 := by omega
  have d6 : (i : Int) ≤ 9223372036854775807 := by omega
  clear b1 b2 b3 b4 b5 b6
  have hb := Blk.new w 42 (Attr.mk t m k u g s i n c z).vals
  have hB0 : Below w.heap.size w (w.alloc (.cells (Attr.mk t m k u g s i n c z).vals.toArray 42)) := (Below.refl _ _).alloc (Nat.le_refl _) _
  have hcx := hb.cell
  have hlt := hb.lt
  clear hb
  go_enter Tryd.func64, Tryd.ntmps64
  go_wp2_with fail
  generalize w.alloc (.cells (Attr.mk t m k u g s i n c z).vals.toArray 42) = w1 at *
  go_region_held3 (fun W => Stb w1 W) (first | exact Stb.start | assumption | (exact Stb.alloc (by assumption) _) | (exact Stb.call (by assumption) (by assumption))) (first
    | (go_at_call_of 62 (t); refine (refNum_any t 4 _ (by assumption) (by decide)).mono ?_; rintro e w2 ⟨rfl, hb⟩)
    | (go_at_call_of 62 (m); refine (refNum_any m 4 _ (by assumption) (by decide)).mono ?_; rintro e w2 ⟨rfl, hb⟩)
    | (go_at_call_of 62 (k); refine (refNum_any k 4 _ (by assumption) (by decide)).mono ?_; rintro e w2 ⟨rfl, hb⟩)
    | (go_at_call_of 62 (u); refine (refNum_any u 4 _ (by assumption) (by decide)).mono ?_; rintro e w2 ⟨rfl, hb⟩)
    | (go_at_call_of 62 (g); refine (refNum_any g 4 _ (by assumption) (by decide)).mono ?_; rintro e w2 ⟨rfl, hb⟩)
    | (go_at_call_of 62 (s); refine (refNum_any s 8 _ (by assumption) (by decide)).mono ?_; rintro e w2 ⟨rfl, hb⟩)
    | (go_at_call_of 62 (i); refine (refNum_any i 4 _ (by assumption) (by decide)).mono ?_; rintro e w2 ⟨rfl, hb⟩)
    | (go_at_call_of 62 (n); refine (refNum_any n 8 _ (by assumption) (by decide)).mono ?_; rintro e w2 ⟨rfl, hb⟩)
    | (go_at_call_of 62 (c); refine (refNum_any c 8 _ (by assumption) (by decide)).mono ?_; rintro e w2 ⟨rfl, hb⟩)
    | (go_at_call_of 62 (z); refine (refNum_any z 8 _ (by assumption) (by decide)).mono ?_; rintro e w2 ⟨rfl, hb⟩)
    | fail)
  have hs5 : Stb w1 w2 := by assumption
  have HB := Lib.hid (below_then hB0 hs5.below)
  clear hs5
  go_wp2
  go_ret
  exact ⟨ret_string (by rw [HF.out]; simp only [List.append_assoc]), HB.out⟩
end
theorem attrBytes_any (x : Attr) (w : World) (hok : x.ok = true) (hg : x.good) : Calls Tryd.prog 64 #[.agg x.vals.toArray] w fun e w' => e = .returned (.string (bs x.bytes)) ∧ Below w.heap.size w w' := by
  obtain ⟨t, m, k, u, g, s, i, n, c, z, rfl, h1, h2⟩ := Attr.nats hok hg
  exact attrBytes_nat t m k u g s i n c z w h1 h2

/-- is a change too long to be looked at -/
def longR (x : Change) : Bool := decide (100 < x.up.length) || decide (300 < x.name.length) || decide (100 < x.child.length)
set_option maxHeartbeats 800000 in
theorem refLarge17_any (A : Option Addr) (c : Nat) (l : List Change) (w : World) (_hl : l.length ≤ 9223372036854775807) (hA : At w 18 A (l.map Change.vals)) :
    Calls Tryd.prog 18 #[.slice A l.length c] w fun e w' => e = .returned (.bool (over longR 40 l)) ∧ w = w' := by
  go_enter Tryd.func18, Tryd.ntmps18
  go_wp2
  go_loop [3] (fun i => ∃ k : Nat, k ≤ l.length ∧ k ≤ 40 ∧ i = .int .i64 k ∧ (l.take k).any longR = false) (fun i => l.length - (intOf i).toNat)
  case atStart => exact ⟨0, Nat.zero_le _, by omega, rfl, rfl⟩
  case round =>
    obtain ⟨k, hk, hk7, rfl, hn⟩ := hrel
    by_cases hlt : k < l.length ∧ k < 40
    · obtain ⟨hlt, hlt7⟩ := hlt
      obtain ⟨b, off, rfl, hb, hc⟩ := rowCell hA hlt
      have c3 := hc 3 (.string (bs l[k].up)) rfl
      have c4 := hc 4 (.string (bs l[k].name)) rfl
      have c5 := hc 5 (.string (bs l[k].child)) rfl
      have z3 := bs_size l[k].up
      have z4 := bs_size l[k].name
      have z5 := bs_size l[k].child
      by_cases hb : longR l[k] = true
      · have HL := Lib.hid (over_yes hlt hlt7 hb)
        simp only [longR, Bool.or_eq_true, decide_eq_true_eq] at hb
        clear hc hA hn
        generalize l[k] = x at *
        by_cases q1 : 100 < x.up.length
        · have p1 : (100 : Int) < (x.up.length : Int) := by omega
          clear hb q1
          go_wp2
          go_ret
          exact ⟨ret_bool HL.out.symm, rfl⟩
        · have p1 : ¬ (100 : Int) < (x.up.length : Int) := by omega
          by_cases q2 : 300 < x.name.length
          · have p2 : (300 : Int) < (x.name.length : Int) := by omega
            clear hb q1 q2
            go_wp2
            go_ret
            exact ⟨ret_bool HL.out.symm, rfl⟩
          · have p2 : ¬ (300 : Int) < (x.name.length : Int) := by omega
            have p3 : (100 : Int) < (x.child.length : Int) := by omega
            clear hb q1 q2
            go_wp2
            go_ret
            exact ⟨ret_bool HL.out.symm, rfl⟩
      · rw [Bool.not_eq_true] at hb
        have HS := Lib.hid (over_step hlt hn hb)
        simp only [longR, Bool.or_eq_false_iff, decide_eq_false_iff_not] at hb
        obtain ⟨⟨q1, q2⟩, q3⟩ := hb
        clear hc hA hn
        generalize l[k] = x at *
        have p1 : ¬ (100 : Int) < (x.up.length : Int) := by omega
        have p2 : ¬ (300 : Int) < (x.name.length : Int) := by omega
        have p3 : ¬ (100 : Int) < (x.child.length : Int) := by omega
        clear q1 q2 q3
        go_wp2
        go_round
        case rel => exact ⟨k + 1, by omega, by omega, by go_num, HS.out⟩
        case measure => simp [intOf]; omega
    · have HE := Lib.hid (over_end hk hk7 hn hlt)
      clear hn hA
      by_cases h1 : k < l.length
      all_goals
        go_wp2
        go_ret
        exact ⟨ret_bool HE.out.symm, rfl⟩

end Go.Proofs.YthfhdighniiodaaDoor