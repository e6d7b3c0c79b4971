/-
  Layer 20, walks: the law NodePages. Conditions: machine lists and numbers.
-/
import Derived.Test.YtmkhpgpnahligaaP15
import Derived.Test.YtmkhpgpnahligaaP16
import Derived.Test.YtmkhpgpnahligaaP01
import Derived.ProofKit
import Derived.Deep.Slices
import Derived.OpenShut
import Derived.ChangeOld
import Derived.Test.YtmkhpgpnahligaaProg
import Derived.Test.YtmkhpgpnahligaaP02
namespace Go.Proofs.Ytmkhpgpnahligaa
open Go.RowKit
attribute [local go_sem ↓] Go.wp_at_zero Go.wp_at_succ
attribute [local go_sem] rowAt_ptr rowOf_drew rowOf_drewN rowOf_alloc_past rowOf_new

theorem pageF_short {l : List Entry} {ck count more : Int} (hl : l.length ≤ 70) : (pageF l ck count more).1.length ≤ 70 := by
  unfold pageF
  split
  · simp
  · have : (behind ck l).length ≤ 70 := Nat.le_trans (List.length_filter_le _ _) hl
    simp only [List.length_take]
    omega

set_option maxRecDepth 20000 in
set_option maxHeartbeats 1600000 in
theorem nodePagesLaw_any (A : Option Addr) (c : Nat) (l : List Entry) (ck count more : Int) (w : World) (hl : l.length ≤ 9223372036854775807) (hA : At w 15 A (l.map Entry.vals)) :
    Calls Try.prog 3 #[.slice A l.length c, .int .i64 ck, .int .i64 count, .int .i64 more] w fun e w' => e = .returned (.bool true) ∧ Below w.heap.size w w' := by
  go_enter Try.func3, Try.ntmps3
  go_wp2_with fail
  refine (large20_any A c l w hl hA).mono ?_
  rintro e w1 ⟨b, rfl, hs, hb1⟩
  cases b with
  | true =>
    clear hs
    go_wp2_with fail
    refine (known20_any _).mono ?_
    rintro e w2 ⟨rfl, hb2⟩
    go_wp2
    go_ret
    exact ⟨rfl, below_then hb1 hb2⟩
  | false =>
    obtain ⟨h70, hn⟩ := hs rfl
    by_cases q : count < -1000 ∨ 1099511627776 < count ∨ more < 0 ∨ 1000 < more
    · clear hs hn
      have HB1 := Lib.hid hb1
      clear hb1
      by_cases q1 : count < -1000
      · go_wp2_with fail
        refine (known20_any _).mono ?_
        rintro e w2 ⟨rfl, hb2⟩
        go_wp2
        go_ret
        exact ⟨rfl, below_then HB1.out hb2⟩
      · have q1 : -1000 ≤ count := by omega
        by_cases q2 : 1099511627776 < count
        · go_wp2_with fail
          refine (known20_any _).mono ?_
          rintro e w2 ⟨rfl, hb2⟩
          go_wp2
          go_ret
          exact ⟨rfl, below_then HB1.out hb2⟩
        · have q2 : count ≤ 1099511627776 := by omega
          by_cases q3 : more < 0
          · go_wp2_with fail
            refine (known20_any _).mono ?_
            rintro e w2 ⟨rfl, hb2⟩
            go_wp2
            go_ret
            exact ⟨rfl, below_then HB1.out hb2⟩
          · have q3 : 0 ≤ more := by omega
            have q4 : 1000 < more := by omega
            go_wp2_with fail
            refine (known20_any _).mono ?_
            rintro e w2 ⟨rfl, hb2⟩
            go_wp2
            go_ret
            exact ⟨rfl, below_then HB1.out hb2⟩
    · have q1 : -1000 ≤ count := by omega
      have q2 : count ≤ 1099511627776 := by omega
      have q3 : 0 ≤ more := by omega
      have q4 : more ≤ 1000 := by omega
      have HP1 := Lib.hid (nodePage_any A c l ck count more w1 h70 hn (by omega) (by omega) (hA.below hb1))
      have HP2 := Lib.hid (fun w2 (h : Below w.heap.size w w2) => refPage20_any A c l ck count more w2 h70 hn (by omega) (by omega) (hA.below h))
      have hps := pageF_short (l := l) (ck := ck) (count := count) (more := more) h70
      have HB1 := Lib.hid hb1
      generalize pageF l ck count more = P at *
      clear hs hn hA q hb1
      go_wp2_with fail
      any_goals first | (exfalso; omega) | skip
      refine HP1.out.mono ?_
      rintro e w2 ⟨A1, c1, rfl, hA1, hb2⟩
      have HB2 := Lib.hid (below_then HB1.out hb2)
      clear HP1 hb2
      go_wp2_with fail
      refine (HP2.out _ HB2.out).mono ?_
      rintro e w3 ⟨A2, c2, rfl, hA2, hb3⟩
      have HS := Lib.hid (same20_any A1 A2 c1 c2 P.1 P.1 w3 (by omega) (by omega) (hA1.below hb3) hA2)
      have HS := Lib.hid (HS.out.mono (R' := fun e w' => e = .returned (.bool true) ∧ Below w3.heap.size w3 w') (by rintro e w' ⟨rfl, h⟩; exact ⟨by rw [decide_eq_true rfl], h⟩))
      have HB3 := Lib.hid (below_then HB2.out hb3)
      clear HP2 hb3 hA1 hA2
      go_wp2_with fail
      refine HS.out.mono ?_
      rintro e w4 ⟨rfl, hb4⟩
      go_wp2_with fail
      refine (known20_any _).mono ?_
      rintro e w5 ⟨rfl, hb5⟩
      go_wp2
      go_ret
      exact ⟨rfl, below_then HB3.out (below_then hb4 hb5)⟩
end Go.Proofs.Ytmkhpgpnahligaa

/-
  How what came in is read: a struct's fields, a slice's rows; and the last step of every law's row. No condition.
-/
namespace Go.Proofs.Ytmkhpgpnahligaa
open Go.ChangeShapes Go.WideShapes Go.ChangeAt Go.RowKit Go.Deep

section
variable {H : Type} {enc : TypeId × Value → H} {P : Program} {w : World} {base : Nat} {spare : Nat → Bool} {held : Bool}

/-- one field of a struct that was read: its own cells' reading -/
theorem field_of {t : TypeId} {fs : Array Field} {fuel : Nat} {cs : List Value} {x : DataW H × List MemPlace} (ht : P.underlying t = some (.struct fs)) (h : DataW.trod enc P w base spare held fuel t cs = some x)
    (i : Nat) (f : Field) (hi : fs[i]? = some f) : ∃ n y, DataW.trod enc P w base spare held n f.type ((cs.drop f.offset).take (P.cellsOf f.type)) = some y := by
  obtain ⟨xs, n, _, _, _, hlen, hf⟩ := DataW.trod_struct ht h
  have hi' : i < xs.length := by rw [hlen]; exact (Array.getElem?_eq_some_iff.1 hi).1
  exact ⟨n, xs[i], (hf i f hi).trans (List.getElem?_eq_getElem hi')⟩
theorem len_of {t : TypeId} {fs : Array Field} {fuel : Nat} {cs : List Value} {x : DataW H × List MemPlace} (ht : P.underlying t = some (.struct fs)) (h : DataW.trod enc P w base spare held fuel t cs = some x) : cs.length = P.cellsOf t := by
  obtain ⟨xs, n, _, _, hl, _, _⟩ := DataW.trod_struct ht h
  exact hl
theorem drop_take {α : Type} {cs p : List α} {o k : Nat} (h : (cs.drop o).take k = p) : cs.drop o = p ++ cs.drop (o + k) := by
  rw [← h, ← List.drop_drop, List.take_append_drop]
theorem int_field {t e : TypeId} {fs : Array Field} {fuel : Nat} {cs : List Value} {x : DataW H × List MemPlace} (ht : P.underlying t = some (.struct fs)) (h : DataW.trod enc P w base spare held fuel t cs = some x)
    (i o : Nat) (f : Field) (hi : fs[i]? = some f) (hT : f.type = e) (ho : f.offset = o) (hc : P.cellsOf e = 1) {k : IntKind} (hk : P.underlying e = some (.int k)) : ∃ z, cs.drop o = .int k z :: cs.drop (o + 1) ∧ (Lit.int k z).wf = true := by
  obtain ⟨n, y, hy⟩ := field_of ht h i f hi
  subst hT ho
  rw [hc] at hy
  obtain ⟨z, hz, _, hw⟩ := DataW.trod_int hk hy
  exact ⟨z, drop_take hz, hw⟩
theorem bool_field {t e : TypeId} {fs : Array Field} {fuel : Nat} {cs : List Value} {x : DataW H × List MemPlace} (ht : P.underlying t = some (.struct fs)) (h : DataW.trod enc P w base spare held fuel t cs = some x)
    (i o : Nat) (f : Field) (hi : fs[i]? = some f) (hT : f.type = e) (ho : f.offset = o) (hc : P.cellsOf e = 1) (hk : P.underlying e = some .bool) : ∃ z, cs.drop o = .bool z :: cs.drop (o + 1) := by
  obtain ⟨n, y, hy⟩ := field_of ht h i f hi
  subst hT ho
  rw [hc] at hy
  obtain ⟨z, hz, _⟩ := DataW.trod_bool hk hy
  exact ⟨z, drop_take hz⟩
theorem string_field {t e : TypeId} {fs : Array Field} {fuel : Nat} {cs : List Value} {x : DataW H × List MemPlace} (ht : P.underlying t = some (.struct fs)) (h : DataW.trod enc P w base spare held fuel t cs = some x)
    (i o : Nat) (f : Field) (hi : fs[i]? = some f) (hT : f.type = e) (ho : f.offset = o) (hc : P.cellsOf e = 1) (hk : P.underlying e = some .string) : ∃ z : ByteArray, cs.drop o = .string z :: cs.drop (o + 1) ∧ z.size ≤ maxLen := by
  obtain ⟨n, y, hy⟩ := field_of ht h i f hi
  subst hT ho
  rw [hc] at hy
  obtain ⟨z, hz, _, hm⟩ := DataW.trod_string hk hy
  exact ⟨z, drop_take hz, hm⟩
/-- a struct in a field -/
theorem sub_field {t e : TypeId} {fs : Array Field} {fuel : Nat} {cs : List Value} {x : DataW H × List MemPlace} (ht : P.underlying t = some (.struct fs)) (h : DataW.trod enc P w base spare held fuel t cs = some x)
    (i o k : Nat) (f : Field) (hi : fs[i]? = some f) (hT : f.type = e) (ho : f.offset = o) (hc : P.cellsOf e = k) : ∃ ps m y, cs.drop o = ps ++ cs.drop (o + k) ∧ DataW.trod enc P w base spare held m e ps = some y := by
  obtain ⟨n, y, hy⟩ := field_of ht h i f hi
  subst hT ho
  rw [hc] at hy
  exact ⟨_, n, y, drop_take rfl, hy⟩
/-- a slice's header in a field, and the slice's own reading -/
theorem slice_field {t e el : TypeId} {fs : Array Field} {fuel : Nat} {cs : List Value} {x : DataW H × List MemPlace} (ht : P.underlying t = some (.struct fs)) (h : DataW.trod enc P w base spare held fuel t cs = some x)
    (i o : Nat) (f : Field) (hi : fs[i]? = some f) (hT : f.type = e) (ho : f.offset = o) (hc : P.cellsOf e = 1) (hk : P.underlying e = some (.slice el)) :
    ∃ A n c m y, cs.drop o = .slice A n c :: cs.drop (o + 1) ∧ n ≤ maxLen ∧ DataW.trod enc P w base spare held m e [.slice A n c] = some y := by
  obtain ⟨m, y, hy⟩ := field_of ht h i f hi
  subst hT ho
  rw [hc] at hy
  rcases open_slice hk hy with ⟨hcs, _⟩ | ⟨a, len, cap, _, _, _, _, hcs, _, hl, hm, _⟩
  · rw [hcs] at hy
    exact ⟨none, 0, 0, m, y, drop_take hcs, Nat.zero_le _, hy⟩
  · rw [hcs] at hy
    exact ⟨some a, len, cap, m, y, drop_take hcs, Nat.le_trans hl hm, hy⟩

theorem slice_field_places {t e el : TypeId} {fs : Array Field} {fuel : Nat} {cs : List Value} {x : DataW H × List MemPlace} (ht : P.underlying t = some (.struct fs)) (h : DataW.trod enc P w base spare held fuel t cs = some x)
    (i o : Nat) (f : Field) (hi : fs[i]? = some f) (hT : f.type = e) (ho : f.offset = o) (hc : P.cellsOf e = 1) (hk : P.underlying e = some (.slice el)) :
    ∃ A n c m y, cs.drop o = .slice A n c :: cs.drop (o + 1) ∧ n ≤ maxLen ∧ DataW.trod enc P w base spare held m e [.slice A n c] = some y ∧ ∀ p ∈ y.2, p ∈ x.2 := by
  obtain ⟨xs, m, _, hx, _, hlen, hf⟩ := DataW.trod_struct ht h
  have hi' : i < xs.length := by rw [hlen]; exact (Array.getElem?_eq_some_iff.1 hi).1
  have hy := (hf i f hi).trans (List.getElem?_eq_getElem hi')
  have hpl : ∀ p ∈ xs[i].2, p ∈ x.2 := fun p hp => by rw [hx]; exact List.mem_flatMap.2 ⟨_, List.getElem_mem hi', hp⟩
  subst hT ho
  rw [hc] at hy
  rcases open_slice hk hy with ⟨hcs, _⟩ | ⟨a, len, cap, _, _, _, _, hcs, _, hl, hm, _⟩
  · rw [hcs] at hy
    exact ⟨none, 0, 0, m, _, drop_take hcs, Nat.zero_le _, hy, hpl⟩
  · rw [hcs] at hy
    exact ⟨some a, len, cap, m, _, drop_take hcs, Nat.le_trans hl hm, hy, hpl⟩

theorem slice_len {t e : TypeId} {fuel : Nat} {A : Option Addr} {n c : Nat} {y : DataW H × List MemPlace} (ht : P.underlying t = some (.slice e)) (h : DataW.trod enc P w base spare held fuel t [.slice A n c] = some y) : n ≤ maxLen := by
  rcases open_slice ht h with ⟨hcs, _⟩ | ⟨a, len, cap, _, _, _, _, hcs, _, hl, hm, _⟩
  · simp only [List.cons.injEq, Value.slice.injEq, and_true] at hcs
    obtain ⟨rfl, rfl, rfl⟩ := hcs
    exact Nat.zero_le _
  · simp only [List.cons.injEq, Value.slice.injEq, and_true] at hcs
    obtain ⟨rfl, rfl, rfl⟩ := hcs
    exact Nat.le_trans hl hm
/-- a slice of elements of sz cells, each of which 'op' reads: the rows -/
theorem rows_of {α : Type} [Inhabited α] {t e : TypeId} {fuel : Nat} {A : Option Addr} {n c sz : Nat} {y : DataW H × List MemPlace} (ht : P.underlying t = some (.slice e)) (hc : P.cellsOf e = sz) (h0 : 0 < sz) (vals : α → List Value) (good : α → Prop) (hlt : ∀ p ∈ y.2, p.block < w.heap.size)
    (hop : ∀ (m : Nat) (cs : List Value) (x : DataW H × List MemPlace), (∀ p ∈ x.2, p.block < w.heap.size) → DataW.trod enc P w base spare held m e cs = some x → ∃ a : α, cs = vals a ∧ good a)
    (h : DataW.trod enc P w base spare held fuel t [.slice A n c] = some y) : ∃ l : List α, n = l.length ∧ At w sz A (l.map vals) ∧ ∀ a ∈ l, good a := by
  rcases open_slice ht h with ⟨hcs, _⟩ | ⟨a, len, cap, m, n', D, Pl, hcs, _, hl, hm, hmm, hy, hi⟩
  · simp only [List.cons.injEq, Value.slice.injEq, and_true] at hcs
    obtain ⟨rfl, rfl, rfl⟩ := hcs
    exact ⟨[], rfl, At.nil, fun a ha => by simp at ha⟩
  · simp only [List.cons.injEq, Value.slice.injEq, and_true] at hcs
    obtain ⟨rfl, rfl, rfl⟩ := hcs
    have hle : n ≤ m := by rw [hmm]; split <;> omega
    have hpl : ∀ i, i < m → ∀ p ∈ Pl i, p.block < w.heap.size := fun i hi p hp => hlt p (by
      rw [hy]; exact List.mem_append_right _ (List.mem_flatMap.2 ⟨i, List.mem_range.2 hi, hp⟩))
    obtain ⟨f, hf⟩ := choose_lt (α := α) (n := n) (p := fun i b => w.cells? base (a.add (i * sz)) sz = some (vals b) ∧ good b) (fun i hin => by
      obtain ⟨cs', h1, h2⟩ := hi i (by omega)
      obtain ⟨b, rfl, hg⟩ := hop _ _ _ (hpl i (by omega)) h2
      rw [hc] at h1
      exact ⟨b, h1, hg⟩)
    refine ⟨(List.range n).map f, by simp, ?_, fun b hb => ?_⟩
    · intro i r hr
      simp only [List.map_map, List.getElem?_map, Option.map_eq_some_iff] at hr
      obtain ⟨j, hj, rfl⟩ := hr
      have hj' : i < n ∧ j = i := by
        rcases Nat.lt_or_ge i n with h | h
        · rw [List.getElem?_range h] at hj; exact ⟨h, by simpa using hj.symm⟩
        · rw [List.getElem?_eq_none (by simpa using h)] at hj; cases hj
      obtain ⟨hin, rfl⟩ := hj'
      obtain ⟨h1, _⟩ := hf j hin
      obtain ⟨hb0, hlen, hcell⟩ := World.cells?_some h1
      have hx0 := hcell 0 (by omega)
      obtain ⟨ab, ao, asp⟩ := a
      have hsp : asp = none ∨ 0 < j * sz := by
        rcases Nat.eq_zero_or_pos (j * sz) with h | h
        · left
          rw [h] at hx0
          simp only [Addr.add, if_true] at hx0
          have := World.cell?_spot (hx0.trans (List.getElem?_eq_getElem (by omega)))
          simpa using this
        · exact .inr h
      -- the slice's own address has no spot: its first element shows it
      have hsp0 : asp = none := by
        obtain ⟨h2, _⟩ := hf 0 (by omega)
        obtain ⟨_, hlen2, hcell2⟩ := World.cells?_some h2
        have hx := hcell2 0 (by omega)
        rw [Nat.zero_mul] at hx
        simp only [Addr.add, if_true] at hx
        have := World.cell?_spot (hx.trans (List.getElem?_eq_getElem (by omega)))
        simpa using this
      subst hsp0
      refine ⟨ab, ao, rfl, ?_, fun k u hu => ?_⟩
      · have hx := hx0.trans (List.getElem?_eq_getElem (by omega))
        rw [Addr.add_mid, Addr.add_mid] at hx
        exact block_lt_of_cell hx
      · have hk : k < sz := by rw [← hlen]; exact (List.getElem?_eq_some_iff.1 hu).1
        have := hcell k hk
        rw [Addr.add_mid, Addr.add_mid] at this
        exact this.trans hu
    · obtain ⟨i, hi', rfl⟩ := List.mem_map.1 hb
      exact (hf i (by simpa using hi')).2
end

section
variable {H : Type} {enc : TypeId × Value → H} {P : Program}
theorem trodAll_below (hl : laidOutB P = true) {W W' : World} (hb : Below W.heap.size W W') : ∀ {ts : List TypeId} {vs : List Value} {ds : List (DataW H)} {ps : List MemPlace}, (∀ t ∈ ts, P.readableRec t = true ∧ t < P.types.size) →
    DataW.TrodAll enc P W 0 (fun _ => true) true ts vs ds ps → DataW.TrodAll enc P W' 0 (fun b => decide (b < W.heap.size)) true ts vs ds ps := by
  intro ts
  induction ts with
  | nil =>
    intro vs ds ps _ h
    obtain ⟨rfl, rfl, rfl⟩ := trodAll_nil h
    exact trodAll_mk0
  | cons t ts ih =>
    intro vs ds ps ht h
    obtain ⟨v, vs', d, ds', p, q, rfl, rfl, rfl, h1, h2⟩ := trodAll_cons h
    have hr := ht t (by simp)
    have lt1 : ∀ x ∈ p, x.block < W.heap.size := by obtain ⟨m, hm⟩ := h1; exact DataW.trod_lt m _ _ _ hm
    exact trodAll_cons_mk (Below.trod hl hr.1 hr.2 h1 hb lt1) (ih (fun x hx => ht x (by simp [hx])) h2)
/-- THE LAST STEP OF EVERY LAW: true was returned, all that was there is as it was -/
theorem law_post {f : Func} {s : ChangeSpec} {W W' : World} {args : Array Value} {ds gs : List (DataW H)} {before : List MemPlace} {tb : TypeId} (hl : laidOutB P = true) (hv : s.vars = [])
    (hW : DataW.Whole enc P f.params.toList s.vars false W args.toList ds gs before) (ht : ∀ t ∈ f.params.toList, P.readableRec t = true ∧ t < P.types.size) (hb : Below W.heap.size W W')
    (hrt : f.resultTypes = #[tb]) (htb : P.underlying tb = some .bool) (hr : (s.fn H (ds ++ gs)).results = [.lit (.bool true)]) (ha : (s.fn H (ds ++ gs)).args = ds) (hvs : (s.fn H (ds ++ gs)).vars = []) :
    s.post enc P f false true false false W args (.bool true) W' := by
  have hW' := hW
  obtain ⟨p, q, hA, hV, rfl, hfz, hnd⟩ := hW
  refine ⟨ds, gs, p ++ q, [], p, [], hW', ?_, ?_, ?_, hb.frame _, fun h => by cases h⟩
  · rw [hr, hrt]; exact trodAll_mk1 (shut_bool htb _)
  · rw [ha]; exact trodAll_below hl hb ht hA
  · rw [hvs, hv]; rfl
end
end Go.Proofs.Ytmkhpgpnahligaa


/-
  How attributes, and what is to be set, that came in are read (written by wip/tools/structs.py). No condition.
-/
namespace Go.Proofs.Ytmkhpgpnahligaa
open Go.ChangeShapes Go.WideShapes Go.ChangeAt Go.RowKit Go.Deep
section
variable {H : Type} {enc : TypeId × Value → H} {w : World} {base : Nat} {spare : Nat → Bool} {held : Bool} {fuel : Nat} {cs : List Value} {x : DataW H × List MemPlace}

theorem open_Attr (h : DataW.trod enc Try.prog w base spare held fuel 31 cs = some x) : ∃ a : Attr, cs = a.vals ∧ a.good := by
  have hl : cs.length = 10 := (len_of Try.underlying31 h).trans (by kernel_rfl)
  obtain ⟨z0, h0, g0⟩ := int_field Try.underlying31 h 0 0 _ rfl (e := 3) rfl rfl (by kernel_rfl) Try.underlying3
  obtain ⟨z1, h1, g1⟩ := int_field Try.underlying31 h 1 1 _ rfl (e := 3) rfl rfl (by kernel_rfl) Try.underlying3
  obtain ⟨z2, h2, g2⟩ := int_field Try.underlying31 h 2 2 _ rfl (e := 3) rfl rfl (by kernel_rfl) Try.underlying3
  obtain ⟨z3, h3, g3⟩ := int_field Try.underlying31 h 3 3 _ rfl (e := 3) rfl rfl (by kernel_rfl) Try.underlying3
  obtain ⟨z4, h4, g4⟩ := int_field Try.underlying31 h 4 4 _ rfl (e := 3) rfl rfl (by kernel_rfl) Try.underlying3
  obtain ⟨z5, h5, g5⟩ := int_field Try.underlying31 h 5 5 _ rfl (e := 3) rfl rfl (by kernel_rfl) Try.underlying3
  obtain ⟨z6, h6, g6⟩ := int_field Try.underlying31 h 6 6 _ rfl (e := 3) rfl rfl (by kernel_rfl) Try.underlying3
  obtain ⟨z7, h7, g7⟩ := int_field Try.underlying31 h 7 7 _ rfl (e := 3) rfl rfl (by kernel_rfl) Try.underlying3
  obtain ⟨z8, h8, g8⟩ := int_field Try.underlying31 h 8 8 _ rfl (e := 3) rfl rfl (by kernel_rfl) Try.underlying3
  obtain ⟨z9, h9, g9⟩ := int_field Try.underlying31 h 9 9 _ rfl (e := 3) rfl rfl (by kernel_rfl) Try.underlying3
  have hend : cs.drop 10 = [] := List.drop_of_length_le (by omega)
  have e : cs = cs.drop 0 := rfl
  simp only [Nat.reduceAdd] at h0 h1 h2 h3 h4 h5 h6 h7 h8 h9
  refine ⟨⟨z0, z1, z2, z3, z4, z5, z6, z7, z8, z9⟩, e.trans ?_, ⟨g0, g1, g2, g3, g4, g5, g6, g7, g8, g9⟩⟩
  rw [h0, h1, h2, h3, h4, h5, h6, h7, h8, h9, hend]
  rfl

theorem open_Opt (h : DataW.trod enc Try.prog w base spare held fuel 41 cs = some x) : ∃ a : Opt, cs = a.vals ∧ a.good := by
  have hl : cs.length = 2 := (len_of Try.underlying41 h).trans (by kernel_rfl)
  obtain ⟨z0, h0⟩ := bool_field Try.underlying41 h 0 0 _ rfl (e := 4) rfl rfl (by kernel_rfl) Try.underlying4
  obtain ⟨z1, h1, g1⟩ := int_field Try.underlying41 h 1 1 _ rfl (e := 3) rfl rfl (by kernel_rfl) Try.underlying3
  have hend : cs.drop 2 = [] := List.drop_of_length_le (by omega)
  have e : cs = cs.drop 0 := rfl
  simp only [Nat.reduceAdd] at h0 h1
  refine ⟨⟨z0, z1⟩, e.trans ?_, g1⟩
  rw [h0, h1, hend]
  rfl

theorem open_Post (h : DataW.trod enc Try.prog w base spare held fuel 33 cs = some x) : ∃ a : Post, cs = a.vals ∧ a.good := by
  have hl : cs.length = 11 := (len_of Try.underlying33 h).trans (by kernel_rfl)
  obtain ⟨z0, h0⟩ := bool_field Try.underlying33 h 0 0 _ rfl (e := 4) rfl rfl (by kernel_rfl) Try.underlying4
  obtain ⟨ps1, m1, y1, h1, hs1⟩ := sub_field Try.underlying33 h 1 1 10 _ rfl (e := 31) rfl rfl (by kernel_rfl)
  obtain ⟨z1, rfl, g1⟩ := open_Attr hs1
  have hend : cs.drop 11 = [] := List.drop_of_length_le (by omega)
  have e : cs = cs.drop 0 := rfl
  simp only [Nat.reduceAdd] at h0 h1
  refine ⟨⟨z0, z1⟩, e.trans ?_, g1⟩
  rw [h0, h1, hend]
  rfl

theorem open_Wcc (h : DataW.trod enc Try.prog w base spare held fuel 43 cs = some x) : ∃ a : Wcc, cs = a.vals ∧ a.good := by
  have hl : cs.length = 13 := (len_of Try.underlying43 h).trans (by kernel_rfl)
  obtain ⟨ps0, m0, y0, h0, hs0⟩ := sub_field Try.underlying43 h 0 0 2 _ rfl (e := 41) rfl rfl (by kernel_rfl)
  obtain ⟨z0, rfl, g0⟩ := open_Opt hs0
  obtain ⟨ps1, m1, y1, h1, hs1⟩ := sub_field Try.underlying43 h 1 2 11 _ rfl (e := 33) rfl rfl (by kernel_rfl)
  obtain ⟨z1, rfl, g1⟩ := open_Post hs1
  have hend : cs.drop 13 = [] := List.drop_of_length_le (by omega)
  have e : cs = cs.drop 0 := rfl
  simp only [Nat.reduceAdd] at h0 h1
  refine ⟨⟨z0, z1⟩, e.trans ?_, ⟨g0, g1⟩⟩
  rw [h0, h1, hend]
  rfl

end
end Go.Proofs.Ytmkhpgpnahligaa
