/-
  Layer 20, walks: the program's Page. Conditions: lengths; a count that a machine holds.
-/
import Derived.Test.YtmkhpgpnahligaaP14
import Derived.OwnWalk
import Derived.Test.YtmkhpgpnahligaaP04
import Derived.Great.BuildSlice
namespace Go.Proofs.Ytmkhpgpnahligaa
open Go.RowKit
attribute [local go_sem ↓] Go.wp_at_zero Go.wp_at_succ
attribute [local go_sem] rowAt_ptr rowOf_drew rowOf_drewN rowOf_alloc_past rowOf_new
attribute [local go_sem ↓] ldEntry

attribute [local go_sem] Entry.at0 Entry.lat0 Entry.at1 Entry.lat1 Entry.at2 Entry.lat2 Entry.at3 Entry.lat3 Entry.at4 Entry.lat4 Entry.at5 Entry.lat5 Entry.at6 Entry.lat6 Entry.at7 Entry.lat7 Entry.at8 Entry.lat8 Entry.at9 Entry.lat9 Entry.at10 Entry.lat10 Entry.at11 Entry.lat11 Entry.at12 Entry.lat12 Entry.at13 Entry.lat13 Entry.at14 Entry.lat14 Entry.sub0_15 Entry.lsub0_15 Entry.sub3_11 Entry.lsub3_11 Entry.sub4_10 Entry.lsub4_10 Entry.len

theorem below_of {w w1 w2 : World} (h : Below w.heap.size w w1) (hb : Below w1.heap.size w1 w2) : Below w.heap.size w w2 := below_then h hb
set_option maxRecDepth 20000 in
set_option maxHeartbeats 3200000 in
theorem nodePage_any (A : Option Addr) (c : Nat) (l : List Entry) (ck count more : Int) (w : World) (hl : l.length ≤ 70) (hn : ∀ x ∈ l, x.name.length ≤ 300) (hm : 0 ≤ more ∧ more ≤ 1000) (hc : -9223372036854775808 ≤ count ∧ count ≤ 9223372036854775807) (hA : At w 15 A (l.map Entry.vals)) :
    Calls Try.prog 9 #[.slice A l.length c, .int .i64 ck, .int .i64 count, .int .i64 more] w (PagePost w (pageF l ck count more)) := by
  have hB1 : Below w.heap.size w (w.alloc (.cells #[.int .i64 ck] 3)) := (Below.refl _ _).alloc (Nat.le_refl _) _
  have hX := Blk.new w 3 [.int .i64 ck]
  have hA1 := hA.below hB1
  have hlb : (behind ck l).length ≤ 70 := Nat.le_trans (List.length_filter_le _ _) hl
  have hnb : ∀ x ∈ behind ck l, x.name.length ≤ 300 := fun x hx => hn x (List.mem_filter.1 hx).1
  have hsz : (w.alloc (.cells #[.int .i64 ck] 3)).heap.size = w.heap.size + 1 := by simp
  go_enter Try.func9, Try.ntmps9
  go_upto_region 1 with fail
  change Code.wp _ _ _ _ (w.alloc (.cells #[.int .i64 ck] 3))
  change Blk (w.alloc (.cells #[.int .i64 ck] 3)) _ _ _ at hX
  generalize w.alloc (.cells #[.int .i64 ck] 3) = w1 at *
  have HC := Lib.hid (cloneE_at A c l w1 (by omega) hA1)
  have H1 := Lib.hid (And.intro hX (And.intro hB1 hsz))
  clear hX hB1 hA1 hA hsz
  go_wp2_with fail
  refine HC.out.mono ?_
  rintro e w2 ⟨A2, c2, rfl, hR, hb2⟩
  obtain ⟨hX, hB1, hsz⟩ := H1.out
  have HD := Lib.hid (deleteLe_any A2 c2 l w.heap.size ck w2 w1.heap.size (by omega) hR hb2.size (by omega) ((hX.stays hb2).cell 0))
  have HB2 := Lib.hid (below_then hB1 hb2)
  have HB1 := Lib.hid hB1
  clear HC hR hb2 hX hB1 hsz H1
  go_wp2_with fail
  refine HD.out.mono ?_
  rintro e w3 ⟨A3, c3, rfl, hc3, hA3, hb3⟩
  obtain ⟨r, hr⟩ : ∃ r, r = behind ck l := ⟨_, rfl⟩
  have HQ1 := Lib.hid (fun (W : World) (h : pageN (behind ck l) count more = 0) (h2 : 0 < (behind ck l).length) (hb : Below w.heap.size w W) => PagePost.few (w := w) h h2 hb)
  have HQ2 := Lib.hid (fun (W : World) (k : Nat) (h : pageN (behind ck l) count more = k) (h2 : ¬ (k = 0 ∧ 0 < (behind ck l).length)) (hA : At W 15 A3 ((behind ck l).map Entry.vals)) (hb : Below w.heap.size w W) => PagePost.some_ (w := w) h h2 hA hb)
  rw [← hr] at HQ1 HQ2 hlb hnb hA3 hc3 ⊢
  generalize pageF l ck count more = PF at *
  clear hr HD hn hl
  have hB3 := HB2.out.trans (hb3.mono HB1.out.size)
  have h3 : ∀ W, Below w3.heap.size w3 W → At W 15 A3 (r.map Entry.vals) := fun W h => hA3.below h
  have HB3 := Lib.hid hB3
  have H3 := Lib.hid h3
  clear HB1 HB2 hb3 hA3 hB3 h3
  go_wp2
  go_loopw [12, 13, 24] (fun L n i wr => ∃ (k : Nat) (z : Int), k ≤ r.length ∧ L = .int .i64 z ∧ n = .int .i64 k ∧ i = .int .i64 k ∧ pageN r count more = k + pageN (r.drop k) z more ∧ z ≤ count ∧ (0 ≤ z ∨ z = count) ∧ Below w3.heap.size w3 wr) (fun _ _ i _ => r.length - (intOf i).toNat)
  case atStart => exact ⟨0, count, Nat.zero_le _, rfl, rfl, rfl, by simp, Int.le_refl _, .inr rfl, Below.refl _ _⟩
  case round =>
    obtain ⟨k, z, hk, rfl, rfl, rfl, hp, hz1, hz2, hb⟩ := hrel
    obtain ⟨hm1, hm2⟩ := hm
    obtain ⟨hc9, hc8⟩ := hc
    by_cases hlk : k < r.length
    · obtain ⟨b1, o1, rfl, hlt1, hrow, -⟩ := rowCell8 Entry.len (by omega) (H3.out _ hb) hlk
      have hnk := hnb r[k] (List.getElem_mem hlk)
      have hZ := Blk.new wr 35 r[k].vals
      have hcell := hZ.cell 1
      have hsz := bs_size r[k].name
      have hb4 := below_then hb ((Below.refl wr.heap.size wr).alloc (Nat.le_refl _) (.cells r[k].vals.toArray 35))
      have hw1 : IntKind.i64.wrap (24 + (r[k].name.length : Int)) = 24 + (r[k].name.length : Int) := IntWalk.i64_in _ (by omega)
      have hw2 : IntKind.i64.wrap (24 + (r[k].name.length : Int) + more) = 24 + (r[k].name.length : Int) + more := IntWalk.i64_in _ (by omega)
      have hk0 : (0 : Int) ≤ (k : Int) := Int.natCast_nonneg _
      have hk1 : (k : Int) < (r.length : Int) := by omega
      have hkc : (k : Int) ≤ (c3 : Int) := by omega
      by_cases hgt : z < 24 + (r[k].name.length : Int) + more
      · have hpn : pageN r count more = k := by rw [hp, pageN_no hlk hgt, Nat.add_zero]
        have HA4 := Lib.hid (H3.out _ hb4)
        have HB4 := Lib.hid (below_of HB3.out hb4)
        clear hp hz1 hz2 hb4 hb
        generalize r[k] = x at *
        go_upto_region 12 with (first | (refine wpList_new_struct (by rfl) (by rfl) 35 (by rfl) _ _ (by rfl) x.vals infoEntry2 (by rfl) (by rfl) (Entry.one _) (by rfl) (by rfl) ?_) | fail)
        generalize wr.alloc (.cells x.vals.toArray 35) = w4 at *
        have HPN := Lib.hid hpn
        have HBW := Lib.hid HB4.out
        have HAW := Lib.hid HA4.out
        by_cases hz : k = 0
        · subst hz
          by_cases hr0 : 0 < r.length
          · have hr1 : (0 : Int) < (r.length : Int) := by omega
            have HZ := Lib.hid hr0
            clear hgt hw1 hw2 hrow hcell hZ hnb hnk hsz hk0 hk1 hkc hlk hlt1 hm1 hm2 hc8 hc9 hpn
            go_wp2
            go_ret3
            exact HQ1.out _ HPN.out HZ.out HBW.out
          · have hr1 : ¬ (0 : Int) < (r.length : Int) := by omega
            have HZ := Lib.hid (show ¬ ((0 : Nat) = 0 ∧ 0 < r.length) from fun h => hr0 h.2)
            have hc0 : (0 : Int) ≤ (c3 : Int) := Int.natCast_nonneg _
            have hc1 : (0 : Int) ≤ (r.length : Int) := Int.natCast_nonneg _
            clear hgt hw1 hw2 hrow hcell hZ hnb hnk hsz hk0 hk1 hkc hlk hlt1 hm1 hm2 hc8 hc9 hpn
            go_wp2
            go_ret3
            exact HQ2.out _ _ HPN.out (by simpa using HZ.out) HAW.out HBW.out
        · have hz0 : ((k : Int) == 0) = false := by simp; omega
          have HZ := Lib.hid (show ¬ (k = 0 ∧ 0 < r.length) from fun h => hz h.1)
          have hc0 : (0 : Int) ≤ (k : Int) := Int.natCast_nonneg _
          have hc1 : (k : Int) ≤ (r.length : Int) := by omega
          have hc2 : (k : Int) ≤ (c3 : Int) := by omega
          clear hgt hw1 hw2 hrow hcell hZ hnb hnk hsz hk0 hk1 hkc hlk hlt1 hm1 hm2 hc8 hc9 hpn
          go_wp2
          go_ret3
          exact HQ2.out _ _ HPN.out (by simpa using HZ.out) HAW.out HBW.out
      · have hpn := hp
        rw [pageN_yes hlk hgt] at hpn
        have hw3 : IntKind.i64.wrap (z - (24 + (r[k].name.length : Int) + more)) = z - (24 + (r[k].name.length : Int) + more) := IntWalk.i64_in _ (by omega)
        have hw4 : IntKind.i64.wrap ((k : Int) + 1) = ((k + 1 : Nat) : Int) := by rw [IntWalk.i64_in _ (by omega)]; omega
        have HN := Lib.hid (show pageN r count more = (k + 1) + pageN (r.drop (k + 1)) (z - (24 + (r[k].name.length : Int) + more)) more ∧ z - (24 + (r[k].name.length : Int) + more) ≤ count ∧ (0 ≤ z - (24 + (r[k].name.length : Int) + more) ∨ z - (24 + (r[k].name.length : Int) + more) = count) from ⟨by omega, by omega, by omega⟩)
        have HB4 := Lib.hid hb4
        clear hp hz1 hz2 hb4 hb hpn
        generalize r[k] = x at *
        go_wp2_with (first | (refine wpList_new_struct (by rfl) (by rfl) 35 (by rfl) _ _ (by rfl) x.vals infoEntry2 (by rfl) (by rfl) (Entry.one _) (by rfl) (by rfl) ?_) | fail)
        go_roundw
        case rel => exact ⟨k + 1, _, by omega, rfl, rfl, rfl, HN.out.1, HN.out.2.1, HN.out.2.2, HB4.out⟩
        case measure => simp [intOf]; omega
    · have hpn : pageN r count more = k := by rw [hp, pageN_end hlk, Nat.add_zero]
      have hkl : ¬ (k : Int) < (r.length : Int) := by omega
      have HA4 := Lib.hid (H3.out _ hb)
      have HB4 := Lib.hid (below_of HB3.out hb)
      clear hp hz1 hz2 hb
      go_upto_region 12 with fail
      have HPN := Lib.hid hpn
      have HBW := Lib.hid HB4.out
      have HAW := Lib.hid HA4.out
      by_cases hz : k = 0
      · subst hz
        by_cases hr0 : 0 < r.length
        · have hr1 : (0 : Int) < (r.length : Int) := by omega
          have HZ := Lib.hid hr0
          clear hkl hnb hlk hm1 hm2 hc8 hc9 hpn
          go_wp2
          go_ret3
          exact HQ1.out _ HPN.out HZ.out HBW.out
        · have hr1 : ¬ (0 : Int) < (r.length : Int) := by omega
          have HZ := Lib.hid (show ¬ ((0 : Nat) = 0 ∧ 0 < r.length) from fun h => hr0 h.2)
          have hc0 : (0 : Int) ≤ (c3 : Int) := Int.natCast_nonneg _
          have hc1 : (0 : Int) ≤ (r.length : Int) := Int.natCast_nonneg _
          clear hkl hnb hlk hm1 hm2 hc8 hc9 hpn
          go_wp2
          go_ret3
          exact HQ2.out _ _ HPN.out (by simpa using HZ.out) HAW.out HBW.out
      · have hz0 : ((k : Int) == 0) = false := by simp; omega
        have HZ := Lib.hid (show ¬ (k = 0 ∧ 0 < r.length) from fun h => hz h.1)
        have hc0 : (0 : Int) ≤ (k : Int) := Int.natCast_nonneg _
        have hc1 : (k : Int) ≤ (r.length : Int) := by omega
        have hc2 : (k : Int) ≤ (c3 : Int) := by omega
        clear hkl hnb hlk hm1 hm2 hc8 hc9 hpn
        go_wp2
        go_ret3
        exact HQ2.out _ _ HPN.out (by simpa using HZ.out) HAW.out HBW.out
end Go.Proofs.Ytmkhpgpnahligaa

/-
  A slice literal of one struct whose cells are a term. No condition but the struct's size.
-/
namespace Go.Proofs.Ytmkhpgpnahligaa
open Go.RowKit

theorem fill_one (s : Nat) (hs : 0 < s) (base c : Array Value) (hb : base.size = s) (hc : c.size = s) : Instr.fill (fun i => some (i * s, s)) base [(0, .agg c)] = some c := by
  have hv : ∀ v ∈ [Value.agg c], v.cells.size = s := fun v h => by
    obtain rfl := List.mem_singleton.1 h
    exact hc
  obtain ⟨r, hr, hsz, hk⟩ := Great.fill_dense hs [Value.agg c] 0 base hv (by simp only [List.length_cons, List.length_nil]; omega)
  have hr2 : Instr.fill (fun i => some (i * s, s)) base [(0, .agg c)] = some r := hr
  rw [hr2]
  congr 1
  apply Array.ext
  · omega
  · intro k h1 h2
    have h3 := hk k
    have hk2 : k < s := by omega
    rw [if_pos (by simp only [List.length_cons, List.length_nil]; omega), Nat.div_eq_of_lt hk2, Nat.mod_eq_of_lt hk2] at h3
    have h4 : r[k]? = c[k]? := h3
    rw [Array.getElem?_eq_getElem h1, Array.getElem?_eq_getElem h2] at h4
    exact Option.some.inj h4
theorem wpList_buildSlice_one {P : Program} {ops : Array Oper} {rest : List Oper} {o : Oper} {a : Act} {w : World} {Q : Exit → Act → World → Prop} (hg : o.guard = none) (t e : TypeId) (x : Operand) (ho : o.op = .buildSlice t 1 #[(0, x)])
    (cs : List Value) (hx : a.eval x = .agg cs.toArray) (hu : P.underlying t = some (.slice e)) (ie : TypeInfo) (z : Value) (hie : P.info? e = some ie) (hz : ie.zero = some z) (_hzs : z.cells.size = cs.length) (hsize : ie.size = cs.length) (h0 : 0 < cs.length) (hsm : cs.length ≤ 1000)
    (h : wpList P ops Q rest (a.put o.dst (.slice (some ⟨w.heap.size, 0, none⟩) 1 1)) (w.alloc (.cells cs.toArray e))) : wpList P ops Q (o :: rest) a w := by
  refine wpList_buildSlice hg t e 1 #[(0, x)] ho cs.toArray ie z hu hie hz (by rw [hsize]; omega) (by rw [hsize]; omega) ?_ h
  rw [hsize]
  have hm : ((#[(0, x)] : Array (Nat × Operand)).map fun (i, x) => (i, a.eval x)).toList = [(0, .agg cs.toArray)] := by simp [hx]
  rw [hm]
  exact fill_one cs.length h0 _ _ (by simp) (by simp)
end Go.Proofs.Ytmkhpgpnahligaa


/-
  Layer 20, walks: the document's Page. Conditions: lengths; a count that a machine holds.
-/
namespace Go.Proofs.Ytmkhpgpnahligaa
open Go.RowKit
attribute [local go_sem ↓] Go.wp_at_zero Go.wp_at_succ
attribute [local go_sem] rowAt_ptr rowOf_drew rowOf_drewN rowOf_alloc_past rowOf_new
attribute [local go_sem ↓] ldEntry

attribute [local go_sem] Entry.at0 Entry.lat0 Entry.at1 Entry.lat1 Entry.at2 Entry.lat2 Entry.at3 Entry.lat3 Entry.at4 Entry.lat4 Entry.at5 Entry.lat5 Entry.at6 Entry.lat6 Entry.at7 Entry.lat7 Entry.at8 Entry.lat8 Entry.at9 Entry.lat9 Entry.at10 Entry.lat10 Entry.at11 Entry.lat11 Entry.at12 Entry.lat12 Entry.at13 Entry.lat13 Entry.at14 Entry.lat14 Entry.sub0_15 Entry.lsub0_15 Entry.sub3_11 Entry.lsub3_11 Entry.sub4_10 Entry.lsub4_10 Entry.len

/-- in the document's loop: B all entries behind the Cookie, R those that are still to come, out what is told so far, z the room, n how many came, full: no room any more -/
structure RPg (B R : List Entry) (count more : Int) (out : List Entry) (z : Int) (n : Nat) (full : Bool) : Prop where
  all : n + R.length = B.length
  told : out = B.take out.length
  room : full = false → out.length = n ∧ B.drop n = R ∧ pageN B count more = n + pageN R z more ∧ z ≤ count ∧ (0 ≤ z ∨ z = count)
  fill : full = true → pageN B count more = out.length
theorem RPg.start (B : List Entry) (count more : Int) : RPg B B count more [] count 0 false := ⟨by simp, by simp, fun _ => ⟨rfl, by simp, by simp, Int.le_refl _, .inr rfl⟩, fun h => by cases h⟩
theorem RPg.over {B R : List Entry} {count more : Int} {out : List Entry} {z : Int} {n : Nat} {x : Entry} (h : RPg B (x :: R) count more out z n true) : RPg B R count more out z (n + 1) true :=
  ⟨by have := h.all; simp only [List.length_cons] at this; omega, h.told, (fun h => by cases h), h.fill⟩
theorem RPg.first {B R : List Entry} {count more : Int} {out : List Entry} {z : Int} {n : Nat} {x : Entry} (h : RPg B (x :: R) count more out z n false) (hx : z < 24 + (x.name.length : Int) + more) : RPg B R count more out z (n + 1) true := by
  obtain ⟨h1, h2, h3, h4, h5⟩ := h.room rfl
  refine ⟨by have := h.all; simp only [List.length_cons] at this; omega, h.told, (fun h => by cases h), fun _ => ?_⟩
  rw [h3, pageN, if_pos hx]
  omega
theorem RPg.next {B R : List Entry} {count more : Int} {out : List Entry} {z : Int} {n : Nat} {x : Entry} (h : RPg B (x :: R) count more out z n false) (hx : ¬ z < 24 + (x.name.length : Int) + more) (hm : 0 ≤ more) : RPg B R count more (out ++ [x]) (z - (24 + (x.name.length : Int) + more)) (n + 1) false := by
  obtain ⟨h1, h2, h3, h4, h5⟩ := h.room rfl
  have hl : (out ++ [x]).length = n + 1 := by simp [h1]
  have hall := h.all
  simp only [List.length_cons] at hall
  have hn : n < B.length := by omega
  have hx2 : B.drop n = B[n] :: B.drop (n + 1) := (List.getElem_cons_drop hn).symm
  rw [h2] at hx2
  injection hx2 with hx3 hx4
  refine ⟨by omega, ?_, fun _ => ⟨hl, hx4.symm, ?_, by omega, by omega⟩, (fun h => by cases h)⟩
  · rw [hl, take_next _ _ hn, ← hx3]
    have := h.told
    rw [h1] at this
    rw [← this]
  · rw [h3, pageN, if_neg hx]; omega
theorem RPg.done {B : List Entry} {count more : Int} {out : List Entry} {z : Int} {n : Nat} {full : Bool} (h : RPg B [] count more out z n full) : pageN B count more = out.length ∧ n = B.length ∧ out = B.take out.length := by
  have hall := h.all
  simp only [List.length_nil] at hall
  refine ⟨?_, by omega, h.told⟩
  cases full with
  | true => exact h.fill rfl
  | false =>
    obtain ⟨h1, h2, h3, h4, h5⟩ := h.room rfl
    rw [h3, pageN]; omega
theorem behind_drop {ck : Int} {l : List Entry} {k : Nat} (hk : k < l.length) : behind ck (l.drop k) = if decide (l[k].cookie ≤ ck) then behind ck (l.drop (k + 1)) else l[k] :: behind ck (l.drop (k + 1)) := by
  unfold behind
  rw [← List.getElem_cons_drop hk, List.filter_cons]
  cases decide (l[k].cookie ≤ ck) <;> rfl

set_option maxRecDepth 20000 in
set_option maxHeartbeats 3200000 in
theorem refPage20_any (A : Option Addr) (c : Nat) (l : List Entry) (ck count more : Int) (w : World) (hl : l.length ≤ 70) (hn : ∀ x ∈ l, x.name.length ≤ 300) (hm : 0 ≤ more ∧ more ≤ 1000) (hc : -9223372036854775808 ≤ count ∧ count ≤ 9223372036854775807) (hA : At w 15 A (l.map Entry.vals)) :
    Calls Try.prog 10 #[.slice A l.length c, .int .i64 ck, .int .i64 count, .int .i64 more] w (PagePost w (pageF l ck count more)) := by
  obtain ⟨i0, hi, hz, hsize, hby⟩ := info_parts infoEntryB
  have hQ1 : ∀ (W : World), pageN (behind ck l) count more = 0 → 0 < (behind ck l).length → Below w.heap.size w W → PagePost w (pageF l ck count more) (.returned (.tuple #[.slice none 0 0, .bool false, .int .i64 10005])) W := fun W h h2 hb => PagePost.few h h2 hb
  have HL := Lib.hid (show (behind ck l).length ≤ 70 from Nat.le_trans (List.length_filter_le _ _) hl)
  have HQ1 := Lib.hid hQ1
  have HQ2 := Lib.hid (fun (W : World) (v : Value) (out : List Entry) (n : Nat) (h : pageN (behind ck l) count more = out.length ∧ n = (behind ck l).length ∧ out = (behind ck l).take out.length) (h2 : ¬ (out.length = 0 ∧ 0 < n)) (hR : RowS W w.heap.size 35 15 v (out.map Entry.vals)) (hb : Below w.heap.size w W) => PagePost.lists (l := l) h h2 hR hb)
  generalize pageF l ck count more = PF at *
  have H0 := Lib.hid (RPg.start (behind ck l) count more)
  obtain ⟨B, hB⟩ : ∃ B, B = behind ck l := ⟨_, rfl⟩
  have hd0 : behind ck (l.drop 0) = B := by rw [hB, List.drop_zero]
  rw [← hB] at HQ1 HQ2 H0 HL
  rw [← hd0] at H0
  have HI := Lib.hid (And.intro hi (And.intro hz (And.intro hsize hby)))
  clear hi hz hsize hby hB hQ1
  go_enter Try.func10, Try.ntmps10
  go_wp2
  go_loopw [11, 12, 13, 14, 15] (fun v L n f i wr => ∃ (k : Nat) (out : List Entry) (z : Int) (m : Nat) (full : Bool), k ≤ l.length ∧ L = .int .i64 z ∧ n = .int .i64 m ∧ f = .bool full ∧ i = .int .i64 k ∧ RPg B (behind ck (l.drop k)) count more out z m full ∧ RowS wr w.heap.size 35 15 v (out.map Entry.vals) ∧ Below w.heap.size w wr) (fun _ _ _ _ i _ => l.length - (intOf i).toNat)
  case atStart => exact ⟨0, [], count, 0, false, Nat.zero_le _, rfl, rfl, rfl, rfl, by rw [hd0] at H0 ⊢; exact H0.out, RowS.none_, Below.refl _ _⟩
  case round =>
    obtain ⟨k, out, z, m, full, hk, rfl, rfl, rfl, rfl, hP, hR, hb⟩ := hrel
    obtain ⟨hm1, hm2⟩ := hm
    obtain ⟨hc9, hc8⟩ := hc
    have hmB : m ≤ B.length := by have := hP.all; omega
    have hmB2 := HL.out
    by_cases hlk : k < l.length
    · obtain ⟨b1, o1, rfl, hlt1, hrow, hcell⟩ := rowCell8 Entry.len (by omega) (hA.below hb) hlk
      have hnk := hn l[k] (List.getElem_mem hlk)
      have c1 := hcell 1 (.string (bs l[k].name)) rfl
      have c2 := hcell 2 (.int .i64 l[k].cookie) rfl
      have hsz := bs_size l[k].name
      have hdr := behind_drop (ck := ck) hlk
      have hw1 : IntKind.i64.wrap (24 + (l[k].name.length : Int)) = 24 + (l[k].name.length : Int) := IntWalk.i64_in _ (by omega)
      have hw2 : IntKind.i64.wrap (24 + (l[k].name.length : Int) + more) = 24 + (l[k].name.length : Int) + more := IntWalk.i64_in _ (by omega)
      have hw4 : IntKind.i64.wrap ((k : Int) + 1) = ((k + 1 : Nat) : Int) := by rw [IntWalk.i64_in _ (by omega)]; omega
      have hw5 : IntKind.i64.wrap ((m : Int) + 1) = ((m + 1 : Nat) : Int) := by rw [IntWalk.i64_in _ (by omega)]; omega
      have hk0 : (0 : Int) ≤ (k : Int) := Int.natCast_nonneg _
      have hk1 : (k : Int) < (l.length : Int) := by omega
      have HR := Lib.hid hR
      have HB := Lib.hid hb
      have HA := Lib.hid hA
      have HN := Lib.hid hn
      by_cases hck : l[k].cookie ≤ ck
      · rw [decide_eq_true hck, if_pos rfl] at hdr
        rw [hdr] at hP
        have HP := Lib.hid hP
        clear hP hdr hR hb hA hn hcell hd0
        go_wp2
        go_roundw
        case rel => exact ⟨k + 1, out, z, m, full, by omega, rfl, rfl, rfl, rfl, HP.out, HR.out, HB.out⟩
        case measure => simp [intOf]; omega
      · rw [decide_eq_false hck, if_neg (by simp)] at hdr
        rw [hdr] at hP
        have HDR := Lib.hid hdr
        clear hdr hcell hd0
        cases full with
        | true =>
          have HP := Lib.hid hP.over
          clear hP hR hb hA hn HDR
          go_wp2
          go_roundw
          case rel => exact ⟨k + 1, out, z, m + 1, true, by omega, rfl, rfl, rfl, rfl, HP.out, HR.out, HB.out⟩
          case measure => simp [intOf]; omega
        | false =>
          by_cases hgt : z < 24 + (l[k].name.length : Int) + more
          · have HP := Lib.hid (hP.first hgt)
            clear hP hR hb hA hn HDR
            go_wp2
            go_roundw
            case rel => exact ⟨k + 1, out, z, m + 1, true, by omega, rfl, rfl, rfl, rfl, HP.out, HR.out, HB.out⟩
            case measure => simp [intOf]; omega
          · have HP := Lib.hid (hP.next hgt hm1)
            obtain ⟨hom, -, -, hz1, hz2⟩ := hP.room rfl
            have hw3 : IntKind.i64.wrap (z - (24 + (l[k].name.length : Int) + more)) = z - (24 + (l[k].name.length : Int) + more) := IntWalk.i64_in _ (by omega)
            obtain ⟨hi, hz, hsize, hby⟩ := HI.out
            have hap := RowS.append (P := Try.prog) 22 22 i0 Try.underlying22 hi hz hsize hby rfl (by omega) (by omega) hR hb.size l[k].vals (Entry.len _) (Entry.one _) (by rw [List.length_map]; omega)
            rw [show out.map Entry.vals ++ [l[k].vals] = (out ++ [l[k]]).map Entry.vals by simp] at hap
            have HAP := Lib.hid hap
            have HS := Lib.hid (And.intro hi (And.intro hz hsize))
            clear hap hP hR hb hA hn HDR hi hz hsize hby HI hz1 hz2 hom
            generalize l[k] = x at *
            go_wp2_with (first
              | (refine wpList_buildSlice_one (by rfl) 22 35 (.tmp 54) (by rfl) x.vals (by rfl) Try.underlying22 i0 _ HS.out.1 HS.out.2.1 rfl HS.out.2.2 (by rw [Entry.len]; omega) (by rw [Entry.len]; omega) ?_)
              | (refine wpList_append_by (by rfl) (.tmp 50) (.tmp 55) #[22, 22] (by rfl) _ _ (by rfl) (by rfl) HAP.out ?_; rintro v' w' ⟨hR', hb'⟩; have HR2 := Lib.hid hR'; have HB2 := Lib.hid (hb' w HB.out); clear hR' hb')
              | fail)
            go_roundw
            case rel => exact ⟨k + 1, _, _, m + 1, false, by omega, rfl, rfl, rfl, rfl, HP.out, HR2.out, HB2.out⟩
            case measure => simp [intOf]; omega
    · have hkl : ¬ (k : Int) < (l.length : Int) := by omega
      have hd1 : behind ck (l.drop k) = [] := by rw [List.drop_of_length_le (by omega)]; rfl
      rw [hd1] at hP
      have hdn := hP.done
      clear hP hd1 hd0 hA hn
      by_cases hz : out.length = 0 ∧ 0 < m
      · obtain ⟨hz1, hz2⟩ := hz
        obtain rfl : out = [] := List.eq_nil_of_length_eq_zero hz1
        have HF := Lib.hid (HQ1.out _ hdn.1 (by rw [← hdn.2.1]; exact hz2) hb)
        obtain ⟨A9, c9, rfl, -⟩ := hR.at_
        have hm0 : (0 : Int) < (m : Int) := by omega
        clear hR hdn hb hz1
        go_wp2
        go_ret3
        exact HF.out
      · obtain ⟨A9, c9, rfl, hF⟩ := HQ2.out _ _ _ _ hdn hz hR hb
        have HF := Lib.hid hF
        have hz9 : ¬ ((out.length : Int) = 0 ∧ (0 : Int) < (m : Int)) := by omega
        clear hF hR hdn hb
        by_cases hz1 : (out.length : Int) = 0
        · obtain rfl : m = 0 := by omega
          obtain rfl : out = [] := List.eq_nil_of_length_eq_zero (by omega)
          clear hz9 hz hz1
          go_wp2
          go_ret3
          exact HF.out
        · clear hz9 hz
          go_wp2
          go_ret3
          exact HF.out
end Go.Proofs.Ytmkhpgpnahligaa
