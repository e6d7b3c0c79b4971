/-
  Layer 20, plain laws: what a page tells. No condition.
-/
import Derived.Test.YtgifmpobokaejaaGreatDoorF21
import Derived.OwnWalk
import Derived.Test.YtgifmpobokaejaaGreatDoorF09
namespace Go.Proofs.YtgifmpobokaejaaGreatDoor
open Go.RowKit

/-- how many entries have room -/
def pageN : List Entry → Int → Int → Nat
  | [], _, _ => 0
  | x :: l, left, more => if left < 24 + (x.name.length : Int) + more then 0 else pageN l (left - (24 + (x.name.length : Int) + more)) more + 1
theorem pageN_le : ∀ (l : List Entry) (left more : Int), pageN l left more ≤ l.length
  | [], _, _ => Nat.le_refl _
  | x :: l, left, more => by
    unfold pageN
    split
    · exact Nat.zero_le _
    · have := pageN_le l (left - (24 + (x.name.length : Int) + more)) more
      simp only [List.length_cons]
      omega
theorem pageN_no {l : List Entry} {k : Nat} {left more : Int} (hk : k < l.length) (h : left < 24 + (l[k].name.length : Int) + more) : pageN (l.drop k) left more = 0 := by
  rw [← List.getElem_cons_drop hk, pageN, if_pos h]
theorem pageN_yes {l : List Entry} {k : Nat} {left more : Int} (hk : k < l.length) (h : ¬ left < 24 + (l[k].name.length : Int) + more) : pageN (l.drop k) left more = pageN (l.drop (k + 1)) (left - (24 + (l[k].name.length : Int) + more)) more + 1 := by
  rw [← List.getElem_cons_drop hk, pageN, if_neg h]
theorem pageN_end {l : List Entry} {k : Nat} {left more : Int} (hk : ¬ k < l.length) : pageN (l.drop k) left more = 0 := by
  rw [List.drop_of_length_le (by omega), pageN]

/-- what a page tells: entries, whether they come up to the end, a status -/
def pageF (l : List Entry) (ck count more : Int) : List Entry × Bool × Int :=
  if pageN (behind ck l) count more = 0 ∧ 0 < (behind ck l).length then ([], false, 10005)
  else ((behind ck l).take (pageN (behind ck l) count more), decide (pageN (behind ck l) count more = (behind ck l).length), 0)
def PagePost (w : World) (p : List Entry × Bool × Int) (e : Ending) (w' : World) : Prop :=
  ∃ A c, e = .returned (.tuple #[.slice A p.1.length c, .bool p.2.1, .int .i64 p.2.2]) ∧ At w' 15 A (p.1.map Entry.vals) ∧ Below w.heap.size w w' ∧ Fresh w.heap.size A ∧ ∃ c', RowS w' w.heap.size 80 15 (.slice A p.1.length c') (p.1.map Entry.vals)
theorem PagePost.few {w w' : World} {l : List Entry} {ck count more : Int} (h : pageN (behind ck l) count more = 0) (h2 : 0 < (behind ck l).length) (hb : Below w.heap.size w w') :
    PagePost w (pageF l ck count more) (.returned (.tuple #[.slice none 0 0, .bool false, .int .i64 10005])) w' := by
  unfold pageF
  rw [if_pos ⟨h, h2⟩]
  exact ⟨none, 0, rfl, At.nil, hb, (fun _ h => by cases h), 0, RowS.none_⟩
theorem PagePost.some_ {w w' : World} {l : List Entry} {ck count more : Int} {A : Option Addr} {k c3 : Nat} (h : pageN (behind ck l) count more = k) (h2 : ¬ (k = 0 ∧ 0 < (behind ck l).length)) (hA : RowS w' w.heap.size 80 15 (.slice A (behind ck l).length c3) ((behind ck l).map Entry.vals)) (hF : Fresh w.heap.size A) (hb : Below w.heap.size w w') :
    PagePost w (pageF l ck count more) (.returned (.tuple #[.slice A k k, .bool ((k : Int) == ((behind ck l).length : Int)), .int .i64 0])) w' := by
  have hk : k ≤ (behind ck l).length := by rw [← h]; exact pageN_le _ _ _
  unfold pageF
  rw [h, if_neg h2]
  refine ⟨A, k, ?_, ?_, hb, hF, c3, ?_⟩
  rotate_left
  rotate_left
  · have h3 := hA
    rw [← List.take_append_drop k (behind ck l), List.map_append] at h3
    have h4 := h3.prefix_
    rw [List.length_map] at h4
    exact h4
  · have e1 : ((behind ck l).take k).length = k := by rw [List.length_take]; omega
    have e2 : ((k : Int) == ((behind ck l).length : Int)) = decide (k = (behind ck l).length) := by
      by_cases hh : k = (behind ck l).length
      · rw [decide_eq_true hh, hh]; simp
      · rw [decide_eq_false hh]; exact beq_false_of_ne (by omega)
    simp only [e1, e2]
  · intro i r hi
    rw [List.map_take] at hi
    refine hA.rows i r ?_
    rw [List.getElem?_take] at hi
    split at hi
    · exact hi
    · cases hi
theorem PagePost.lists {w w' : World} {l : List Entry} {ck count more : Int} {v : Value} {out : List Entry} {n : Nat} (h : pageN (behind ck l) count more = out.length ∧ n = (behind ck l).length ∧ out = (behind ck l).take out.length) (h2 : ¬ (out.length = 0 ∧ 0 < n)) (hR : RowS w' w.heap.size 80 15 v (out.map Entry.vals)) (hb : Below w.heap.size w w') :
    ∃ A c, v = .slice A out.length c ∧ PagePost w (pageF l ck count more) (.returned (.tuple #[.slice A out.length c, .bool ((out.length : Int) == (n : Int)), .int .i64 0])) w' := by
  obtain ⟨h1, rfl, h3⟩ := h
  obtain ⟨A, c, rfl, hA⟩ := hR.at_
  rw [List.length_map]
  refine ⟨A, c, rfl, ?_⟩
  unfold pageF
  rw [h1, if_neg h2, ← h3]
  refine ⟨A, c, ?_, hA, hb, (fun p h => (hR.lt p.block (by rw [h]; rfl)).1), c, by rw [List.length_map] at hR; exact hR⟩
  have e2 : ((out.length : Int) == ((behind ck l).length : Int)) = decide (out.length = (behind ck l).length) := by
    by_cases hh : out.length = (behind ck l).length
    · rw [decide_eq_true hh, hh]; simp
    · rw [decide_eq_false hh]; exact beq_false_of_ne (by omega)
  rw [e2]
end Go.Proofs.YtgifmpobokaejaaGreatDoor

/-
  Layer 20, walks: the program's Page. Conditions: lengths; a count that a machine holds.
-/
namespace Go.Proofs.YtgifmpobokaejaaGreatDoor
open Go.RowKit
attribute [local go_sem ↓] Go.wp_at_zero Go.wp_at_succ
attribute [local go_sem] rowAt_ptr rowOf_drew rowOf_drewN rowOf_alloc_past rowOf_new
attribute [local go_sem ↓] ldEntry

attribute [local go_sem] Entry.at0 Entry.lat0 Entry.at1 Entry.lat1 Entry.at2 Entry.lat2 Entry.at3 Entry.lat3 Entry.at4 Entry.lat4 Entry.at5 Entry.lat5 Entry.at6 Entry.lat6 Entry.at7 Entry.lat7 Entry.at8 Entry.lat8 Entry.at9 Entry.lat9 Entry.at10 Entry.lat10 Entry.at11 Entry.lat11 Entry.at12 Entry.lat12 Entry.at13 Entry.lat13 Entry.at14 Entry.lat14 Entry.sub0_15 Entry.lsub0_15 Entry.sub3_11 Entry.lsub3_11 Entry.sub4_10 Entry.lsub4_10 Entry.len

theorem below_of {w w1 w2 : World} (h : Below w.heap.size w w1) (hb : Below w1.heap.size w1 w2) : Below w.heap.size w w2 := below_then h hb
set_option maxRecDepth 20000 in
set_option maxHeartbeats 3200000 in
theorem nodePage_any (A : Option Addr) (c : Nat) (l : List Entry) (ck count more : Int) (w : World) (hl : l.length ≤ 70) (hn : ∀ x ∈ l, x.name.length ≤ 300) (hm : 0 ≤ more ∧ more ≤ 1000) (hc : -9223372036854775808 ≤ count ∧ count ≤ 9223372036854775807) (hA : At w 15 A (l.map Entry.vals)) :
    Calls Tryz.prog 130 #[.slice A l.length c, .int .i64 ck, .int .i64 count, .int .i64 more] w (PagePost w (pageF l ck count more)) := by
  have hB1 : Below w.heap.size w (w.alloc (.cells #[.int .i64 ck] 3)) := (Below.refl _ _).alloc (Nat.le_refl _) _
  have hX := Blk.new w 3 [.int .i64 ck]
  have hA1 := hA.below hB1
  have hlb : (behind ck l).length ≤ 70 := Nat.le_trans (List.length_filter_le _ _) hl
  have hnb : ∀ x ∈ behind ck l, x.name.length ≤ 300 := fun x hx => hn x (List.mem_filter.1 hx).1
  have hsz : (w.alloc (.cells #[.int .i64 ck] 3)).heap.size = w.heap.size + 1 := by simp
  go_enter Tryz.func130, Tryz.ntmps130
  go_upto_region 1 with fail
  change Code.wp _ _ _ _ (w.alloc (.cells #[.int .i64 ck] 3))
  change Blk (w.alloc (.cells #[.int .i64 ck] 3)) _ _ _ at hX
  generalize w.alloc (.cells #[.int .i64 ck] 3) = w1 at *
  have HC := Lib.hid (cloneE_at A c l w1 (by omega) hA1)
  have H1 := Lib.hid (And.intro hX (And.intro hB1 hsz))
  clear hX hB1 hA1 hA hsz
  go_wp2_with fail
  refine HC.out.mono ?_
  rintro e w2 ⟨A2, c2, rfl, hR, hb2⟩
  obtain ⟨hX, hB1, hsz⟩ := H1.out
  have HD := Lib.hid (deleteLe_any A2 c2 l w.heap.size ck w2 w1.heap.size (by omega) hR hb2.size (by omega) ((hX.stays hb2).cell 0))
  have HB2 := Lib.hid (below_then hB1 hb2)
  have HB1 := Lib.hid hB1
  clear HC hR hb2 hX hB1 hsz H1
  go_wp2_with fail
  refine HD.out.mono ?_
  rintro e w3 ⟨A3, c3, rfl, hc3, -, hb3, hF3, hA3⟩
  replace hA3 := hA3.base HB1.out.size
  have hF3 : Fresh w.heap.size A3 := fun p h => Nat.le_trans HB1.out.size (hF3 p h)
  obtain ⟨r, hr⟩ : ∃ r, r = behind ck l := ⟨_, rfl⟩
  have HQ1 := Lib.hid (fun (W : World) (h : pageN (behind ck l) count more = 0) (h2 : 0 < (behind ck l).length) (hb : Below w.heap.size w W) => PagePost.few (w := w) h h2 hb)
  have HQ2 := Lib.hid (fun (W : World) (k : Nat) (h : pageN (behind ck l) count more = k) (h2 : ¬ (k = 0 ∧ 0 < (behind ck l).length)) (hA : RowS W w.heap.size 80 15 (.slice A3 (behind ck l).length c3) ((behind ck l).map Entry.vals)) (hb : Below w.heap.size w W) => PagePost.some_ (w := w) h h2 hA hF3 hb)
  rw [← hr] at HQ1 HQ2 hlb hnb hA3 hc3 ⊢
  generalize pageF l ck count more = PF at *
  clear hr HD hn hl
  have hB3 := HB2.out.trans (hb3.mono HB1.out.size)
  have h3 : ∀ W, Below w3.heap.size w3 W → RowS W w.heap.size 80 15 (.slice A3 r.length c3) (r.map Entry.vals) := fun W h => hA3.stays h
  have HB3 := Lib.hid hB3
  have H3 := Lib.hid h3
  clear HB1 HB2 hb3 hA3 hB3 h3 hF3
  go_wp2
  go_loopw [12, 13, 24] (fun L n i wr => ∃ (k : Nat) (z : Int), k ≤ r.length ∧ L = .int .i64 z ∧ n = .int .i64 k ∧ i = .int .i64 k ∧ pageN r count more = k + pageN (r.drop k) z more ∧ z ≤ count ∧ (0 ≤ z ∨ z = count) ∧ Below w3.heap.size w3 wr) (fun _ _ i _ => r.length - (intOf i).toNat)
  case atStart => exact ⟨0, count, Nat.zero_le _, rfl, rfl, rfl, by simp, Int.le_refl _, .inr rfl, Below.refl _ _⟩
  case round =>
    obtain ⟨k, z, hk, rfl, rfl, rfl, hp, hz1, hz2, hb⟩ := hrel
    obtain ⟨hm1, hm2⟩ := hm
    obtain ⟨hc9, hc8⟩ := hc
    by_cases hlk : k < r.length
    · obtain ⟨b1, o1, rfl, hlt1, hrow, -⟩ := rowCell8 Entry.len (by omega) (H3.out _ hb).rows hlk
      have hnk := hnb r[k] (List.getElem_mem hlk)
      have hZ := Blk.new wr 80 r[k].vals
      have hcell := hZ.cell 1
      have hsz := bs_size r[k].name
      have hb4 := below_then hb ((Below.refl wr.heap.size wr).alloc (Nat.le_refl _) (.cells r[k].vals.toArray 80))
      have hw1 : IntKind.i64.wrap (24 + (r[k].name.length : Int)) = 24 + (r[k].name.length : Int) := IntWalk.i64_in _ (by omega)
      have hw2 : IntKind.i64.wrap (24 + (r[k].name.length : Int) + more) = 24 + (r[k].name.length : Int) + more := IntWalk.i64_in _ (by omega)
      have hk0 : (0 : Int) ≤ (k : Int) := Int.natCast_nonneg _
      have hk1 : (k : Int) < (r.length : Int) := by omega
      have hkc : (k : Int) ≤ (c3 : Int) := by omega
      by_cases hgt : z < 24 + (r[k].name.length : Int) + more
      · have hpn : pageN r count more = k := by rw [hp, pageN_no hlk hgt, Nat.add_zero]
        have HA4 := Lib.hid (H3.out _ hb4)
        have HB4 := Lib.hid (below_of HB3.out hb4)
        clear hp hz1 hz2 hb4 hb
        generalize r[k] = x at *
        go_upto_region 12 with (first | (refine wpList_new_struct (by rfl) (by rfl) 80 (by rfl) _ _ (by rfl) x.vals infoEntry2 (by rfl) (by rfl) (Entry.one _) (by rfl) (by rfl) ?_) | fail)
        generalize wr.alloc (.cells x.vals.toArray 80) = w4 at *
        have HPN := Lib.hid hpn
        have HBW := Lib.hid HB4.out
        have HAW := Lib.hid HA4.out
        by_cases hz : k = 0
        · subst hz
          by_cases hr0 : 0 < r.length
          · have hr1 : (0 : Int) < (r.length : Int) := by omega
            have HZ := Lib.hid hr0
            clear hgt hw1 hw2 hrow hcell hZ hnb hnk hsz hk0 hk1 hkc hlk hlt1 hm1 hm2 hc8 hc9 hpn
            go_wp2
            go_ret3
            exact HQ1.out _ HPN.out HZ.out HBW.out
          · have hr1 : ¬ (0 : Int) < (r.length : Int) := by omega
            have HZ := Lib.hid (show ¬ ((0 : Nat) = 0 ∧ 0 < r.length) from fun h => hr0 h.2)
            have hc0 : (0 : Int) ≤ (c3 : Int) := Int.natCast_nonneg _
            have hc1 : (0 : Int) ≤ (r.length : Int) := Int.natCast_nonneg _
            clear hgt hw1 hw2 hrow hcell hZ hnb hnk hsz hk0 hk1 hkc hlk hlt1 hm1 hm2 hc8 hc9 hpn
            go_wp2
            go_ret3
            exact HQ2.out _ _ HPN.out (by simpa using HZ.out) HAW.out HBW.out
        · have hz0 : ((k : Int) == 0) = false := by simp; omega
          have HZ := Lib.hid (show ¬ (k = 0 ∧ 0 < r.length) from fun h => hz h.1)
          have hc0 : (0 : Int) ≤ (k : Int) := Int.natCast_nonneg _
          have hc1 : (k : Int) ≤ (r.length : Int) := by omega
          have hc2 : (k : Int) ≤ (c3 : Int) := by omega
          clear hgt hw1 hw2 hrow hcell hZ hnb hnk hsz hk0 hk1 hkc hlk hlt1 hm1 hm2 hc8 hc9 hpn
          go_wp2
          go_ret3
          exact HQ2.out _ _ HPN.out (by simpa using HZ.out) HAW.out HBW.out
      · have hpn := hp
        rw [pageN_yes hlk hgt] at hpn
        have hw3 : IntKind.i64.wrap (z - (24 + (r[k].name.length : Int) + more)) = z - (24 + (r[k].name.length : Int) + more) := IntWalk.i64_in _ (by omega)
        have hw4 : IntKind.i64.wrap ((k : Int) + 1) = ((k + 1 : Nat) : Int) := by rw [IntWalk.i64_in _ (by omega)]; omega
        have HN := Lib.hid (show pageN r count more = (k + 1) + pageN (r.drop (k + 1)) (z - (24 + (r[k].name.length : Int) + more)) more ∧ z - (24 + (r[k].name.length : Int) + more) ≤ count ∧ (0 ≤ z - (24 + (r[k].name.length : Int) + more) ∨ z - (24 + (r[k].name.length : Int) + more) = count) from ⟨by omega, by omega, by omega⟩)
        have HB4 := Lib.hid hb4
        clear hp hz1 hz2 hb4 hb hpn
        generalize r[k] = x at *
        go_wp2_with (first | (refine wpList_new_struct (by rfl) (by rfl) 80 (by rfl) _ _ (by rfl) x.vals infoEntry2 (by rfl) (by rfl) (Entry.one _) (by rfl) (by rfl) ?_) | fail)
        go_roundw
        case rel => exact ⟨k + 1, _, by omega, rfl, rfl, rfl, HN.out.1, HN.out.2.1, HN.out.2.2, HB4.out⟩
        case measure => simp [intOf]; omega
    · have hpn : pageN r count more = k := by rw [hp, pageN_end hlk, Nat.add_zero]
      have hkl : ¬ (k : Int) < (r.length : Int) := by omega
      have HA4 := Lib.hid (H3.out _ hb)
      have HB4 := Lib.hid (below_of HB3.out hb)
      clear hp hz1 hz2 hb
      go_upto_region 12 with fail
      have HPN := Lib.hid hpn
      have HBW := Lib.hid HB4.out
      have HAW := Lib.hid HA4.out
      by_cases hz : k = 0
      · subst hz
        by_cases hr0 : 0 < r.length
        · have hr1 : (0 : Int) < (r.length : Int) := by omega
          have HZ := Lib.hid hr0
          clear hkl hnb hlk hm1 hm2 hc8 hc9 hpn
          go_wp2
          go_ret3
          exact HQ1.out _ HPN.out HZ.out HBW.out
        · have hr1 : ¬ (0 : Int) < (r.length : Int) := by omega
          have HZ := Lib.hid (show ¬ ((0 : Nat) = 0 ∧ 0 < r.length) from fun h => hr0 h.2)
          have hc0 : (0 : Int) ≤ (c3 : Int) := Int.natCast_nonneg _
          have hc1 : (0 : Int) ≤ (r.length : Int) := Int.natCast_nonneg _
          clear hkl hnb hlk hm1 hm2 hc8 hc9 hpn
          go_wp2
          go_ret3
          exact HQ2.out _ _ HPN.out (by simpa using HZ.out) HAW.out HBW.out
      · have hz0 : ((k : Int) == 0) = false := by simp; omega
        have HZ := Lib.hid (show ¬ (k = 0 ∧ 0 < r.length) from fun h => hz h.1)
        have hc0 : (0 : Int) ≤ (k : Int) := Int.natCast_nonneg _
        have hc1 : (k : Int) ≤ (r.length : Int) := by omega
        have hc2 : (k : Int) ≤ (c3 : Int) := by omega
        clear hkl hnb hlk hm1 hm2 hc8 hc9 hpn
        go_wp2
        go_ret3
        exact HQ2.out _ _ HPN.out (by simpa using HZ.out) HAW.out HBW.out
end Go.Proofs.YtgifmpobokaejaaGreatDoor


/-
  A part of a struct in a row of the call's own is stored anew; a store as a step of a region that draws its order. Conditions: sizes.
-/
namespace Go.Proofs.YtgifmpobokaejaaGreatDoor
open Go.RowKit

section
variable {w w' : World} {B : Nat} {e : TypeId} {sz : Nat}
theorem RowS.thereAt {g cap n : Nat} {rows : List (List Value)} (h : RowS w B e sz (.slice (some ⟨g, 0, none⟩) n cap) rows) (hn : n = rows.length) (o k : Nat) (hk : o + k ≤ n * sz) : w.there g o k := by
  intro j hj
  have hown := h.2
  rw [← hn] at hown
  refine ⟨?_, hown.frozenAt _⟩
  rw [hown.cellAt _ (by omega)]
  rw [List.getElem?_eq_getElem (by have := hown.1; omega)]
  rfl
/-- some cells of one row are stored anew -/
theorem RowS.putMid {g n cap : Nat} {pre post : List (List Value)} {a m b r : List Value} (h : RowS w B e sz (.slice (some ⟨g, 0, none⟩) n cap) (pre ++ (a ++ (m ++ b)) :: post)) (hr : m.length = r.length) (hn : n = (pre ++ (a ++ (m ++ b)) :: post).length) :
    RowS (w.setCells g (pre.length * sz + a.length) r) B e sz (.slice (some ⟨g, 0, none⟩) n cap) (pre ++ (a ++ (r ++ b)) :: post) := by
  obtain ⟨hl, hown⟩ := h
  have hm : (a ++ (m ++ b)).length = sz := hl _ (by simp)
  have hlp : ∀ q ∈ pre, q.length = sz := fun q hq => hl q (by simp [hq])
  have hpl : pre.flatten.length = pre.length * sz := by
    clear hown hl hn
    induction pre with
    | nil => simp
    | cons q pre ih =>
      rw [List.flatten_cons, List.length_append, hlp q (by simp), ih (fun q hq => hlp q (List.mem_cons_of_mem _ hq)), List.length_cons, Nat.succ_mul]
      omega
  refine ⟨fun q hq => ?_, ?_⟩
  · rcases List.mem_append.1 hq with hq | hq
    · exact hlp q hq
    · rcases List.mem_cons.1 hq with rfl | hq
      · simp only [List.length_append] at hm ⊢; omega
      · exact hl q (by simp [hq])
  · rw [← hn] at hown
    have := ownsRow_sets r _ (pre.length * sz + a.length) hown
    have e1 : (pre ++ (a ++ (r ++ b)) :: post).length = n := by rw [hn]; simp
    have e2 : setAt (pre ++ (a ++ (m ++ b)) :: post).flatten (pre.length * sz + a.length) r = (pre ++ (a ++ (r ++ b)) :: post).flatten := by
      have e3 : ∀ x : List Value, (pre ++ (a ++ (x ++ b)) :: post).flatten = (pre.flatten ++ a) ++ (x ++ (b ++ post.flatten)) := fun x => by
        rw [List.flatten_append, List.flatten_cons]
        simp only [List.append_assoc]
      have e4 : pre.length * sz + a.length = (pre.flatten ++ a).length := by rw [List.length_append, hpl]
      rw [e3, e3, e4, setAt_mid r m _ _ hr]
    rw [e2] at this
    rw [e1]
    exact this
theorem RowS.le {v : Value} {rows : List (List Value)} (h : RowS w B e sz v rows) : rows.length ≤ maxLen := by
  rcases h.2.2 with ⟨_, h2⟩ | ⟨g, cap, cur, _, _, _, h3, h4, _⟩
  · omega
  · omega
variable {P : Program}
theorem run_storeVar_cells (w : World) (b o : Nat) (ty : TypeId) (v : Value) (cs : List Value) (hv : v.cells = cs.toArray) (ht : w.there b o cs.length) (hi : (P.info? ty).map (·.size) = some cs.length) (h1 : ∀ u ∈ cs, u.oneCell' = true) :
    (storeVar ty ⟨b, o, none⟩ v).run P w = .ok () (w.setCells b o cs) := by
  have := run_storeCells_cells (P := P) b o cs 0 w (fun j hj => by simpa using (ht j hj).1) (fun j hj => by simpa using (ht j hj).2) h1
  cases hq : P.info? ty with
  | none => simp [hq] at hi
  | some i =>
    have hs : cs.length = i.size := by simp [hq] at hi; omega
    simp only [Nat.add_zero] at this
    simp [storeVar, sizeOf, typeInfo, hq, hv, hs, this]
/-- a store where cells lie, as a step of a region that draws its order -/
theorem step_store_there {ops : Array Oper} {o : Oper} {a : Act} {w : World} {K : Act → World → Prop} {Q : Exit → Act → World → Prop} {E : Prop} {T : TypeId} {x y : Operand} (hgd : o.guard = none) (ho : o.op = .store T x y)
    {b i : Nat} (v : Value) (cs : List Value) (hx : a.eval x = .pointer (some ⟨b, i, none⟩)) (hy : a.eval y = v) (hv : v.cells = cs.toArray) (ht : w.there b i cs.length) (hi : (P.info? T).map (·.size) = some cs.length)
    (h1 : ∀ v ∈ cs, v.oneCell' = true) (h : K (a.put o.dst undef) (w.setCells b i cs)) : if Region.wanted o (yielded ops a.tmps) = true then Oper.wp P o a w K Q else E := by
  have hw : Region.wanted o (yielded ops a.tmps) = true := by simp [Region.wanted, hgd]
  rw [if_pos hw]
  unfold Oper.wp execOp
  simp only [ho, hx, hy, Instr.storeAt, Instr.sureAddr, Sem.run_bind, Sem.run_pure, Result.andThen_ok, run_storeVar_cells w b i T v cs hv ht hi h1]
  exact h
/-- the same; what is said of the world that comes of it is all that is kept of it -/
theorem step_store_say {ops : Array Oper} {o : Oper} {a : Act} {w : World} {K : Act → World → Prop} {Q : Exit → Act → World → Prop} {E : Prop} {T : TypeId} {x y : Operand} (hgd : o.guard = none) (ho : o.op = .store T x y)
    {b i : Nat} (v : Value) (cs : List Value) (hx : a.eval x = .pointer (some ⟨b, i, none⟩)) (hy : a.eval y = v) (hv : v.cells = cs.toArray) (ht : w.there b i cs.length) (hi : (P.info? T).map (·.size) = some cs.length)
    (h1 : ∀ v ∈ cs, v.oneCell' = true) (R : World → Prop) (hR : R (w.setCells b i cs)) (h : ∀ V, R V → K (a.put o.dst undef) V) : if Region.wanted o (yielded ops a.tmps) = true then Oper.wp P o a w K Q else E :=
  step_store_there hgd ho v cs hx hy hv ht hi h1 (h _ hR)
end

def ptrAt : Value → Bool
  | .pointer (some ⟨_, _, none⟩) => true
  | _ => false
def blkAt : Value → Nat
  | .pointer (some ⟨b, _, _⟩) => b
  | _ => 0
def offAt : Value → Nat
  | .pointer (some ⟨_, o, _⟩) => o
  | _ => 0
theorem ptrAt_eq {v : Value} (h : ptrAt v = true) : v = .pointer (some ⟨blkAt v, offAt v, none⟩) := by
  unfold ptrAt at h
  split at h
  · rfl
  · cases h
/-- a value of n cells, to be stored as a whole -/
def rowOk (n : Nat) (v : Value) : Prop := v.cells.toList.length = n ∧ ∀ u ∈ v.cells.toList, u.oneCell' = true
/-- cells are set: a name that is not taken apart by itself -/
@[irreducible] def putsW (w : World) (b o : Nat) (cs : List Value) : World := w.setCells b o cs
theorem putsW_eq (w : World) (b o : Nat) (cs : List Value) : putsW w b o cs = w.setCells b o cs := by unfold putsW; rfl
/-- a store into cells that lie there, as a rule of the walk's own simp -/
theorem exStoreAt {P : Program} {T : TypeId} {n : Nat} (hi : (P.info? T).map (·.size) = some n) {ρ : Operand → Value} {w : World} {dst : Option Tmp} {ty : TypeId} {pos : String} {after : Array Edge} {g : Option (Nat × Bool)} {x y : Operand} (hx : ptrAt (ρ x) = true) (hy : rowOk n (ρ y)) (ht : w.there (blkAt (ρ x)) (offAt (ρ x)) n) :
    (execOp ρ ⟨dst, .store T x y, ty, pos, after, g⟩).run P w = .ok .skip (putsW w (blkAt (ρ x)) (offAt (ρ x)) (ρ y).cells.toList) := by
  rw [putsW_eq]
  have hp := ptrAt_eq hx
  generalize blkAt (ρ x) = b at *
  generalize offAt (ρ x) = o at *
  unfold execOp
  simp only [hp, Instr.storeAt, Instr.sureAddr, Sem.run_bind, Sem.run_pure, Result.andThen_ok, run_storeVar_cells (P := P) w b o T (ρ y) (ρ y).cells.toList (by simp) (by rw [hy.1]; exact ht) (by rw [hy.1]; exact hi) hy.2]

/-- one entry of a page, while it is filled in -/
structure Pag (W0 W : World) (B g n c : Nat) (pre post : List Entry) (x : Entry) : Prop where
  row : RowS W B 80 15 (.slice (some ⟨g, 0, none⟩) n c) ((pre ++ x :: post).map Entry.vals)
  len : n = (pre ++ x :: post).length
  low : Below B W0 W
theorem Pag.call {W0 W W' : World} {B g n c : Nat} {pre post : List Entry} {x : Entry} (h : Pag W0 W B g n c pre post x) (hb : Below W.heap.size W W') : Pag W0 W' B g n c pre post x :=
  ⟨h.row.stays hb, h.len, h.low.trans (hb.mono (by have := h.row.lt g rfl; omega))⟩
theorem Pag.drew {W0 W : World} {B g n c : Nat} {pre post : List Entry} {x : Entry} (h : Pag W0 W B g n c pre post x) : Pag W0 W.drew B g n c pre post x := h.call (Below.refl _ _).drew
theorem Pag.attr {W0 W : World} {B g n c : Nat} {pre post : List Entry} {x : Entry} (h : Pag W0 W B g n c pre post x) (p : Post) {o : Nat} (ho : o = pre.length * 15 + 3) : Pag W0 (W.setCells g o p.vals) B g n c pre post { x with attr := p } := by
  subst ho
  have hr := h.row
  rw [List.map_append, List.map_cons] at hr
  have := RowS.putMid (pre := pre.map Entry.vals) (post := post.map Entry.vals) (a := [.int .i64 x.gen, .string (bs x.name), .int .i64 x.cookie]) (m := x.attr.vals) (b := [.string (bs x.fh)]) (r := p.vals) hr rfl (by have := h.len; simp at this ⊢; omega)
  rw [List.length_map] at this
  exact ⟨by rw [List.map_append, List.map_cons]; exact this, h.len.trans (by simp), Below.setCells (h.row.lt g rfl).1 _ _ _ h.low⟩
theorem Pag.fh {W0 W : World} {B g n c : Nat} {pre post : List Entry} {x : Entry} (h : Pag W0 W B g n c pre post x) (s : List UInt8) {o : Nat} (ho : o = pre.length * 15 + 14) : Pag W0 (W.setCells g o [.string (bs s)]) B g n c pre post { x with fh := s } := by
  subst ho
  have hr := h.row
  rw [List.map_append, List.map_cons] at hr
  have := RowS.putMid (pre := pre.map Entry.vals) (post := post.map Entry.vals) (a := [.int .i64 x.gen, .string (bs x.name), .int .i64 x.cookie] ++ x.attr.vals) (m := [.string (bs x.fh)]) (b := []) (r := [.string (bs s)]) (by rw [List.append_nil, List.append_assoc]; exact hr) rfl (by have := h.len; simp at this ⊢; omega)
  rw [List.length_map, List.append_nil, List.append_assoc] at this
  exact ⟨by rw [List.map_append, List.map_cons]; exact this, h.len.trans (by simp), Below.setCells (h.row.lt g rfl).1 _ _ _ h.low⟩
theorem Pag.attrP {W0 W : World} {B g n c : Nat} {pre post : List Entry} {x : Entry} (h : Pag W0 W B g n c pre post x) (p : Post) {o : Nat} (ho : o = pre.length * 15 + 3) : Pag W0 (putsW W g o p.vals) B g n c pre post { x with attr := p } := by
  rw [putsW_eq]
  exact h.attr p ho
theorem Pag.fhP {W0 W : World} {B g n c : Nat} {pre post : List Entry} {x : Entry} (h : Pag W0 W B g n c pre post x) (s : List UInt8) {o : Nat} (ho : o = pre.length * 15 + 14) : Pag W0 (putsW W g o [.string (bs s)]) B g n c pre post { x with fh := s } := by
  rw [putsW_eq]
  exact h.fh s ho
theorem Pag.there {W0 W : World} {B g n c : Nat} {pre post : List Entry} {x : Entry} (h : Pag W0 W B g n c pre post x) {o k : Nat} (ho : o + k ≤ (pre.length + 1) * 15) : W.there g o k :=
  h.row.thereAt (by have := h.len; simp at this ⊢; omega) o k (Nat.le_trans ho (Nat.mul_le_mul_right _ (by have := h.len; simp at this; omega)))
theorem Pag.gen {W0 W : World} {B g n c : Nat} {pre post : List Entry} {x : Entry} (h : Pag W0 W B g n c pre post x) : W.cell? ⟨g, pre.length * 15, none⟩ = some (.int .i64 x.gen) := by
  obtain ⟨b, off, hA, -, -, hc⟩ := rowCell8 (l := pre ++ x :: post) (k := pre.length) Entry.len (by omega) h.row.rows (by simp)
  injection hA with hA
  injection hA with h1 h2 h3
  subst h1 h2
  have := hc 0 (.int .i64 x.gen) (by simp; rfl)
  simpa using this
end Go.Proofs.YtgifmpobokaejaaGreatDoor


/-
  Layer 20, walks: the document's Page. Conditions: lengths; a count that a machine holds.
-/
namespace Go.Proofs.YtgifmpobokaejaaGreatDoor
open Go.RowKit
attribute [local go_sem ↓] Go.wp_at_zero Go.wp_at_succ
attribute [local go_sem] rowAt_ptr rowOf_drew rowOf_drewN rowOf_alloc_past rowOf_new
attribute [local go_sem ↓] ldEntry

attribute [local go_sem] Entry.at0 Entry.lat0 Entry.at1 Entry.lat1 Entry.at2 Entry.lat2 Entry.at3 Entry.lat3 Entry.at4 Entry.lat4 Entry.at5 Entry.lat5 Entry.at6 Entry.lat6 Entry.at7 Entry.lat7 Entry.at8 Entry.lat8 Entry.at9 Entry.lat9 Entry.at10 Entry.lat10 Entry.at11 Entry.lat11 Entry.at12 Entry.lat12 Entry.at13 Entry.lat13 Entry.at14 Entry.lat14 Entry.sub0_15 Entry.lsub0_15 Entry.sub3_11 Entry.lsub3_11 Entry.sub4_10 Entry.lsub4_10 Entry.len

/-- in the document's loop: B all entries behind the Cookie, R those that are still to come, out what is told so far, z the room, n how many came, full: no room any more -/
structure RPg (B R : List Entry) (count more : Int) (out : List Entry) (z : Int) (n : Nat) (full : Bool) : Prop where
  all : n + R.length = B.length
  told : out = B.take out.length
  room : full = false → out.length = n ∧ B.drop n = R ∧ pageN B count more = n + pageN R z more ∧ z ≤ count ∧ (0 ≤ z ∨ z = count)
  fill : full = true → pageN B count more = out.length
theorem RPg.start (B : List Entry) (count more : Int) : RPg B B count more [] count 0 false := ⟨by simp, by simp, fun _ => ⟨rfl, by simp, by simp, Int.le_refl _, .inr rfl⟩, fun h => by cases h⟩
theorem RPg.over {B R : List Entry} {count more : Int} {out : List Entry} {z : Int} {n : Nat} {x : Entry} (h : RPg B (x :: R) count more out z n true) : RPg B R count more out z (n + 1) true :=
  ⟨by have := h.all; simp only [List.length_cons] at this; omega, h.told, (fun h => by cases h), h.fill⟩
theorem RPg.first {B R : List Entry} {count more : Int} {out : List Entry} {z : Int} {n : Nat} {x : Entry} (h : RPg B (x :: R) count more out z n false) (hx : z < 24 + (x.name.length : Int) + more) : RPg B R count more out z (n + 1) true := by
  obtain ⟨h1, h2, h3, h4, h5⟩ := h.room rfl
  refine ⟨by have := h.all; simp only [List.length_cons] at this; omega, h.told, (fun h => by cases h), fun _ => ?_⟩
  rw [h3, pageN, if_pos hx]
  omega
theorem RPg.next {B R : List Entry} {count more : Int} {out : List Entry} {z : Int} {n : Nat} {x : Entry} (h : RPg B (x :: R) count more out z n false) (hx : ¬ z < 24 + (x.name.length : Int) + more) (hm : 0 ≤ more) : RPg B R count more (out ++ [x]) (z - (24 + (x.name.length : Int) + more)) (n + 1) false := by
  obtain ⟨h1, h2, h3, h4, h5⟩ := h.room rfl
  have hl : (out ++ [x]).length = n + 1 := by simp [h1]
  have hall := h.all
  simp only [List.length_cons] at hall
  have hn : n < B.length := by omega
  have hx2 : B.drop n = B[n] :: B.drop (n + 1) := (List.getElem_cons_drop hn).symm
  rw [h2] at hx2
  injection hx2 with hx3 hx4
  refine ⟨by omega, ?_, fun _ => ⟨hl, hx4.symm, ?_, by omega, by omega⟩, (fun h => by cases h)⟩
  · rw [hl, take_next _ _ hn, ← hx3]
    have := h.told
    rw [h1] at this
    rw [← this]
  · rw [h3, pageN, if_neg hx]; omega
theorem RPg.done {B : List Entry} {count more : Int} {out : List Entry} {z : Int} {n : Nat} {full : Bool} (h : RPg B [] count more out z n full) : pageN B count more = out.length ∧ n = B.length ∧ out = B.take out.length := by
  have hall := h.all
  simp only [List.length_nil] at hall
  refine ⟨?_, by omega, h.told⟩
  cases full with
  | true => exact h.fill rfl
  | false =>
    obtain ⟨h1, h2, h3, h4, h5⟩ := h.room rfl
    rw [h3, pageN]; omega
theorem behind_drop {ck : Int} {l : List Entry} {k : Nat} (hk : k < l.length) : behind ck (l.drop k) = if decide (l[k].cookie ≤ ck) then behind ck (l.drop (k + 1)) else l[k] :: behind ck (l.drop (k + 1)) := by
  unfold behind
  rw [← List.getElem_cons_drop hk, List.filter_cons]
  cases decide (l[k].cookie ≤ ck) <;> rfl

set_option maxRecDepth 20000 in
set_option maxHeartbeats 3200000 in
theorem refPage20_any (A : Option Addr) (c : Nat) (l : List Entry) (ck count more : Int) (w : World) (hl : l.length ≤ 70) (hn : ∀ x ∈ l, x.name.length ≤ 300) (hm : 0 ≤ more ∧ more ≤ 1000) (hc : -9223372036854775808 ≤ count ∧ count ≤ 9223372036854775807) (hA : At w 15 A (l.map Entry.vals)) :
    Calls Tryz.prog 115 #[.slice A l.length c, .int .i64 ck, .int .i64 count, .int .i64 more] w (PagePost w (pageF l ck count more)) := by
  obtain ⟨i0, hi, hz, hsize, hby⟩ := info_parts infoEntryB
  have hQ1 : ∀ (W : World), pageN (behind ck l) count more = 0 → 0 < (behind ck l).length → Below w.heap.size w W → PagePost w (pageF l ck count more) (.returned (.tuple #[.slice none 0 0, .bool false, .int .i64 10005])) W := fun W h h2 hb => PagePost.few h h2 hb
  have HL := Lib.hid (show (behind ck l).length ≤ 70 from Nat.le_trans (List.length_filter_le _ _) hl)
  have HQ1 := Lib.hid hQ1
  have HQ2 := Lib.hid (fun (W : World) (v : Value) (out : List Entry) (n : Nat) (h : pageN (behind ck l) count more = out.length ∧ n = (behind ck l).length ∧ out = (behind ck l).take out.length) (h2 : ¬ (out.length = 0 ∧ 0 < n)) (hR : RowS W w.heap.size 80 15 v (out.map Entry.vals)) (hb : Below w.heap.size w W) => PagePost.lists (l := l) h h2 hR hb)
  generalize pageF l ck count more = PF at *
  have H0 := Lib.hid (RPg.start (behind ck l) count more)
  obtain ⟨B, hB⟩ : ∃ B, B = behind ck l := ⟨_, rfl⟩
  have hd0 : behind ck (l.drop 0) = B := by rw [hB, List.drop_zero]
  rw [← hB] at HQ1 HQ2 H0 HL
  rw [← hd0] at H0
  have HI := Lib.hid (And.intro hi (And.intro hz (And.intro hsize hby)))
  clear hi hz hsize hby hB hQ1
  go_enter Tryz.func115, Tryz.ntmps115
  go_wp2
  go_loopw [11, 12, 13, 14, 15] (fun v L n f i wr => ∃ (k : Nat) (out : List Entry) (z : Int) (m : Nat) (full : Bool), k ≤ l.length ∧ L = .int .i64 z ∧ n = .int .i64 m ∧ f = .bool full ∧ i = .int .i64 k ∧ RPg B (behind ck (l.drop k)) count more out z m full ∧ RowS wr w.heap.size 80 15 v (out.map Entry.vals) ∧ Below w.heap.size w wr) (fun _ _ _ _ i _ => l.length - (intOf i).toNat)
  case atStart => exact ⟨0, [], count, 0, false, Nat.zero_le _, rfl, rfl, rfl, rfl, by rw [hd0] at H0 ⊢; exact H0.out, RowS.none_, Below.refl _ _⟩
  case round =>
    obtain ⟨k, out, z, m, full, hk, rfl, rfl, rfl, rfl, hP, hR, hb⟩ := hrel
    obtain ⟨hm1, hm2⟩ := hm
    obtain ⟨hc9, hc8⟩ := hc
    have hmB : m ≤ B.length := by have := hP.all; omega
    have hmB2 := HL.out
    by_cases hlk : k < l.length
    · obtain ⟨b1, o1, rfl, hlt1, hrow, hcell⟩ := rowCell8 Entry.len (by omega) (hA.below hb) hlk
      have hnk := hn l[k] (List.getElem_mem hlk)
      have c1 := hcell 1 (.string (bs l[k].name)) rfl
      have c2 := hcell 2 (.int .i64 l[k].cookie) rfl
      have hsz := bs_size l[k].name
      have hdr := behind_drop (ck := ck) hlk
      have hw1 : IntKind.i64.wrap (24 + (l[k].name.length : Int)) = 24 + (l[k].name.length : Int) := IntWalk.i64_in _ (by omega)
      have hw2 : IntKind.i64.wrap (24 + (l[k].name.length : Int) + more) = 24 + (l[k].name.length : Int) + more := IntWalk.i64_in _ (by omega)
      have hw4 : IntKind.i64.wrap ((k : Int) + 1) = ((k + 1 : Nat) : Int) := by rw [IntWalk.i64_in _ (by omega)]; omega
      have hw5 : IntKind.i64.wrap ((m : Int) + 1) = ((m + 1 : Nat) : Int) := by rw [IntWalk.i64_in _ (by omega)]; omega
      have hk0 : (0 : Int) ≤ (k : Int) := Int.natCast_nonneg _
      have hk1 : (k : Int) < (l.length : Int) := by omega
      have HR := Lib.hid hR
      have HB := Lib.hid hb
      have HA := Lib.hid hA
      have HN := Lib.hid hn
      by_cases hck : l[k].cookie ≤ ck
      · rw [decide_eq_true hck, if_pos rfl] at hdr
        rw [hdr] at hP
        have HP := Lib.hid hP
        clear hP hdr hR hb hA hn hcell hd0
        go_wp2
        go_roundw
        case rel => exact ⟨k + 1, out, z, m, full, by omega, rfl, rfl, rfl, rfl, HP.out, HR.out, HB.out⟩
        case measure => simp [intOf]; omega
      · rw [decide_eq_false hck, if_neg (by simp)] at hdr
        rw [hdr] at hP
        have HDR := Lib.hid hdr
        clear hdr hcell hd0
        cases full with
        | true =>
          have HP := Lib.hid hP.over
          clear hP hR hb hA hn HDR
          go_wp2
          go_roundw
          case rel => exact ⟨k + 1, out, z, m + 1, true, by omega, rfl, rfl, rfl, rfl, HP.out, HR.out, HB.out⟩
          case measure => simp [intOf]; omega
        | false =>
          by_cases hgt : z < 24 + (l[k].name.length : Int) + more
          · have HP := Lib.hid (hP.first hgt)
            clear hP hR hb hA hn HDR
            go_wp2
            go_roundw
            case rel => exact ⟨k + 1, out, z, m + 1, true, by omega, rfl, rfl, rfl, rfl, HP.out, HR.out, HB.out⟩
            case measure => simp [intOf]; omega
          · have HP := Lib.hid (hP.next hgt hm1)
            obtain ⟨hom, -, -, hz1, hz2⟩ := hP.room rfl
            have hw3 : IntKind.i64.wrap (z - (24 + (l[k].name.length : Int) + more)) = z - (24 + (l[k].name.length : Int) + more) := IntWalk.i64_in _ (by omega)
            obtain ⟨hi, hz, hsize, hby⟩ := HI.out
            have hap := RowS.append (P := Tryz.prog) 45 45 i0 Tryz.underlying45 hi hz hsize hby rfl (by omega) (by omega) hR hb.size l[k].vals (Entry.len _) (Entry.one _) (by rw [List.length_map]; omega)
            rw [show out.map Entry.vals ++ [l[k].vals] = (out ++ [l[k]]).map Entry.vals by simp] at hap
            have HAP := Lib.hid hap
            have HS := Lib.hid (And.intro hi (And.intro hz hsize))
            clear hap hP hR hb hA hn HDR hi hz hsize hby HI hz1 hz2 hom
            generalize l[k] = x at *
            go_wp2_with (first
              | (refine wpList_buildSlice_one (by rfl) 45 80 (.tmp 54) (by rfl) x.vals (by rfl) Tryz.underlying45 i0 _ HS.out.1 HS.out.2.1 rfl HS.out.2.2 (by rw [Entry.len]; omega) (by rw [Entry.len]; omega) ?_)
              | (refine wpList_append_by (by rfl) (.tmp 50) (.tmp 55) #[45, 45] (by rfl) _ _ (by rfl) (by rfl) HAP.out ?_; rintro v' w' ⟨hR', hb'⟩; have HR2 := Lib.hid hR'; have HB2 := Lib.hid (hb' w HB.out); clear hR' hb')
              | fail)
            go_roundw
            case rel => exact ⟨k + 1, _, _, m + 1, false, by omega, rfl, rfl, rfl, rfl, HP.out, HR2.out, HB2.out⟩
            case measure => simp [intOf]; omega
    · have hkl : ¬ (k : Int) < (l.length : Int) := by omega
      have hd1 : behind ck (l.drop k) = [] := by rw [List.drop_of_length_le (by omega)]; rfl
      rw [hd1] at hP
      have hdn := hP.done
      clear hP hd1 hd0 hA hn
      by_cases hz : out.length = 0 ∧ 0 < m
      · obtain ⟨hz1, hz2⟩ := hz
        obtain rfl : out = [] := List.eq_nil_of_length_eq_zero hz1
        have HF := Lib.hid (HQ1.out _ hdn.1 (by rw [← hdn.2.1]; exact hz2) hb)
        obtain ⟨A9, c9, rfl, -⟩ := hR.at_
        have hm0 : (0 : Int) < (m : Int) := by omega
        clear hR hdn hb hz1
        go_wp2
        go_ret3
        exact HF.out
      · obtain ⟨A9, c9, rfl, hF⟩ := HQ2.out _ _ _ _ hdn hz hR hb
        have HF := Lib.hid hF
        have hz9 : ¬ ((out.length : Int) = 0 ∧ (0 : Int) < (m : Int)) := by omega
        clear hF hR hdn hb
        by_cases hz1 : (out.length : Int) = 0
        · obtain rfl : m = 0 := by omega
          obtain rfl : out = [] := List.eq_nil_of_length_eq_zero (by omega)
          clear hz9 hz hz1
          go_wp2
          go_ret3
          exact HF.out
        · clear hz9 hz
          go_wp2
          go_ret3
          exact HF.out
end Go.Proofs.YtgifmpobokaejaaGreatDoor
