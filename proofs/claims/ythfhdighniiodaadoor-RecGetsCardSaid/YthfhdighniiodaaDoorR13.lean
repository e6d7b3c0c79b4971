/-
  Layer 17, walks: why a change may not be. Condition: the change's numbers are machine numbers.
-/
import Derived.Test.YthfhdighniiodaaDoorR12
import Derived.Test.YthfhdighniiodaaDoorR09
import Derived.Test.YthfhdighniiodaaDoorProg
import Derived.Test.YthfhdighniiodaaDoorR04
import Derived.Test.YthfhdighniiodaaDoorR06
import Derived.Deep.RegionLaw
namespace Go.Proofs.YthfhdighniiodaaDoor
open Go.RowKit
attribute [local go_sem ↓] Go.wp_at_zero Go.wp_at_succ
attribute [local go_sem] rowAt_ptr rowOf_drew rowOf_drewN rowOf_alloc_past rowOf_new
theorem ldChange {ρ : Operand → Value} {w : World} {dst : Option Tmp} {ty : TypeId} {pos : String} {after : Array Edge} {g : Option (Nat × Bool)} {x : Operand} (h : (rowAt w 18 (ρ x)).isSome = true) :
    (execOp ρ ⟨dst, .load 44 x, ty, pos, after, g⟩).run Tryd.prog w = .ok (.value (.agg ((rowAt w 18 (ρ x)).getD #[]))) w := ex_load 44 18 Tryd.underlying44 rfl (by kernel_rfl) h
attribute [local go_sem ↓] ldAttrR ldChange

attribute [local go_sem] Change.at0 Change.lat0 Change.at1 Change.lat1 Change.at2 Change.lat2 Change.at3 Change.lat3 Change.at4 Change.lat4 Change.at5 Change.lat5 Change.at6 Change.lat6 Change.at7 Change.lat7 Change.at8 Change.lat8 Change.at9 Change.lat9 Change.at10 Change.lat10 Change.at11 Change.lat11 Change.at12 Change.lat12 Change.at13 Change.lat13 Change.at14 Change.lat14 Change.at15 Change.lat15 Change.at16 Change.lat16 Change.at17 Change.lat17 Change.sub0_18 Change.lsub0_18 Change.sub6_10 Change.lsub6_10 Change.len Attr.at0 Attr.lat0 Attr.at1 Attr.lat1 Attr.at2 Attr.lat2 Attr.at3 Attr.lat3 Attr.at4 Attr.lat4 Attr.at5 Attr.lat5 Attr.at6 Attr.lat6 Attr.at7 Attr.lat7 Attr.at8 Attr.lat8 Attr.at9 Attr.lat9 Attr.sub0_10 Attr.lsub0_10 Attr.len

theorem infoChangeS : (Tryd.prog.info? 44).map (fun i => (i.zero, i.size)) = some (some (.agg change0.vals.toArray), 18) := by kernel_rfl
theorem guardChange : Tryd.prog.eqGuardType Tryd.prog.depth 44 = false := by kernel_rfl
def lfChange : List Leaf := [.i .i64, .i .i64, .i .i64, .s, .s, .s, .i .i64, .i .i64, .i .i64, .i .i64, .i .i64, .i .i64, .i .i64, .i .i64, .i .i64, .i .i64, .i .i64, .i .i64]
theorem leafsChange : leafs Tryd.prog 8 44 = some lfChange := by kernel_rfl
theorem Change.inj {x y : Change} (h : x.vals = y.vals) : x = y := by
  obtain ⟨_, _, _, _, _, _, ⟨_, _, _, _, _, _, _, _, _, _⟩, _, _⟩ := x
  obtain ⟨_, _, _, _, _, _, ⟨_, _, _, _, _, _, _, _, _, _⟩, _, _⟩ := y
  simp only [Change.vals, Attr.vals, List.cons_append, List.nil_append, List.cons.injEq, Value.int.injEq, Value.string.injEq, true_and, and_true] at h
  obtain ⟨h0, h1, h2, h3, h4, h5, h6, h7, h8, h9, h10, h11, h12, h13, h14, h15, h16, h17⟩ := h
  have h3 := bs_inj h3
  have h4 := bs_inj h4
  have h5 := bs_inj h5
  subst_vars
  rfl
theorem neqChange (x y : Change) (w : World) : (binOp .neq 44 (.agg x.vals.toArray) (.agg y.vals.toArray)).run Tryd.prog w = .ok (.bool (decide (x ≠ y))) w := by
  by_cases h : x = y
  · rw [neq_same leafsChange (by kernel_rfl) w _ _ (by rfl) (by rw [h]), decide_eq_false (by simpa using h)]
  · rw [neq_other leafsChange (by kernel_rfl) w _ _ (by rfl) (by rfl) (fun e => h (Change.inj e)), decide_eq_true h]
attribute [local go_sem ↓] neqChange

attribute [local go_sem] guardChange

/-- the first k letters' fields are copied -/
def rTaken (x : Change) (l : List UInt8) (z : Change) (k : Nat) : Change := (l.take k).foldl (fun z c => rCopy z x c.toNat) z
theorem rTaken_succ (x : Change) (l : List UInt8) (z : Change) (k : Nat) (hk : k < l.length) : rTaken x l z (k + 1) = rCopy (rTaken x l z k) x l[k].toNat := by
  unfold rTaken
  rw [List.take_add_one, List.getElem?_eq_getElem hk, List.foldl_append]
  rfl
def rMayAll (x : Change) (l : List UInt8) : Bool := l.all fun c => rMay x c.toNat
/-- may a change be? -/
def rOk (x : Change) : Bool := !(rHas x.kind).isEmpty && (rMayAll x (rHas x.kind) && decide (rTaken x (rHas x.kind) { change0 with kind := x.kind } (rHas x.kind).length = x))
def rCheck (x : Change) : Int := if rOk x then 0 else 14
/-- where an iterator is -/
def itPos (w : World) (b : Nat) : Nat := match w.heap[b]? with
  | some (.stringIter _ p) => p
  | _ => 0
theorem Itr.posn {w : World} {b : Nat} {l : List UInt8} {pos : Nat} (h : Itr w b l pos) : itPos w b = pos := by
  unfold Itr at h
  simp [itPos, h]
theorem Blk.ne_it {w : World} {g b pos : Nat} {T : TypeId} {cs : List Value} {l : List UInt8} (h : Blk w g T cs) (hI : Itr w b l pos) : g ≠ b := by
  intro e
  subst e
  unfold Blk at h
  unfold Itr at hI
  rw [h] at hI
  cases hI
theorem rAll_to {x : Change} {l : List UInt8} (h : ∀ (j : Nat) (hj : j < l.length), rMay x l[j].toNat = true) : rMayAll x l = true := by
  rw [rMayAll, List.all_eq_true]
  intro c hc
  obtain ⟨k, hk, rfl⟩ := List.getElem_of_mem hc
  exact h k hk
theorem rAll_at {x : Change} {l : List UInt8} (h : rMayAll x l = true) (j : Nat) (hj : j < l.length) : rMay x l[j].toNat = true := by
  rw [rMayAll, List.all_eq_true] at h
  exact h _ (List.getElem_mem hj)

set_option maxRecDepth 20000 in
set_option maxHeartbeats 1600000 in
theorem check17_any (x : Change) (w : World) (hg : x.attr.good) : Calls Tryd.prog 22 #[.agg x.vals.toArray] w fun e w' => e = .returned (.int .i64 (rCheck x)) ∧ Below w.heap.size w w' := by
  have hb := Blk.new w 44 x.vals
  have hB : Below w.heap.size w (w.alloc (.cells x.vals.toArray 44)) := (Below.refl _ _).alloc (Nat.le_refl _) _
  have hc := hb.cell
  have hs1 : (w.alloc (.cells x.vals.toArray 44)).heap.size = w.heap.size + 1 := by simp
  have hhas := fun W => recHas_any x.kind W
  have hlet := rHas_letter x.kind
  obtain ⟨z, hz⟩ : ∃ z : Change, z = { change0 with kind := x.kind } := ⟨_, rfl⟩
  have HS := Lib.hid (show rCheck x = if (!(rHas x.kind).isEmpty && (rMayAll x (rHas x.kind) && decide (rTaken x (rHas x.kind) z (rHas x.kind).length = x))) then 0 else 14 by rw [hz]; rfl)
  have HZ := Lib.hid hz
  clear hz
  generalize rHas x.kind = l at *
  go_enter Tryd.func22, Tryd.ntmps22
  go_wp2_with fail
  refine (hhas _).mono ?_
  rintro e w0 ⟨rfl, rfl⟩
  generalize w.alloc (.cells x.vals.toArray 44) = w1 at *
  have hA := Blk.new w1 44 z.vals
  have hX := hb.alloc (.cells z.vals.toArray 44)
  have hB2 := hB.alloc hB.size (.cells z.vals.toArray 44)
  have hs2 : (w1.alloc (.cells z.vals.toArray 44)).heap.size = w.heap.size + 1 + 1 := by simp [hs1]
  obtain ⟨w2, hw2⟩ : ∃ u, u = w1.alloc (.cells z.vals.toArray 44) := ⟨_, rfl⟩
  rw [← hw2] at hA hX hB2 hs2
  rw [hs1] at hA
  have HW := Lib.hid hw2
  have hI := Itr.new w2 l
  have hb0 : Below w2.heap.size w2 (w2.iter (bs l) 0) := (Below.refl _ _).alloc (Nat.le_refl _) (.stringIter (bs l) 0)
  have HA := Lib.hid (hA.stays hb0)
  have HX := Lib.hid (hX.stays hb0)
  have HB := Lib.hid (below_then hB2 hb0)
  have HI := Lib.hid hI
  clear hw2 hb hB hA hX hB2 hI hb0 hhas
  go_wp2_with (first | (refine wpList_new_struct (by rfl) (by rfl) 44 (by rfl) _ _ (by rfl) z.vals infoChangeS (by rfl) (by rfl) (Change.one _) (by rfl) (by rw [HZ.out]; rfl) ?_; rw [← HW.out]) | fail)
  generalize w2.iter (bs l) 0 = w3 at *
  rw [hs2] at HI
  clear hc
  go_loopw [6] (fun _ wr => ∃ k : Nat, k ≤ l.length ∧ (∀ (j : Nat) (hj : j < l.length), j < k → rMay x l[j].toNat = true) ∧ Blk wr (w.heap.size + 1) 44 (rTaken x l z k).vals ∧ Blk wr w.heap.size 44 x.vals ∧ Below w.heap.size w wr ∧ Itr wr (w.heap.size + 1 + 1) l k) (fun _ wr => l.length - itPos wr (w.heap.size + 1 + 1))
  case atStart => exact ⟨0, Nat.zero_le _, fun _ _ h => absurd h (Nat.not_lt_zero _), HA.out, HX.out, HB.out, HI.out⟩
  case round =>
    obtain ⟨k, hk, hok, hA, hX, hB, hI⟩ := hrel
    by_cases hlk : k < l.length
    · have hn := fun ty => run_next_itr (P := Tryd.prog) hI hlk (hlet _ (List.getElem_mem hlk)).2 ty
      have hI2 := hI.set_ (k + 1)
      have hA2 := hA.farIter (hA.ne_it hI) l (k + 1)
      have hX2 := hX.farIter (hX.ne_it hI) l (k + 1)
      have hB2 := Below.setIter hB (b := w.heap.size + 1 + 1) (by omega) l (k + 1)
      have hp := hI.posn
      have hl := (hlet _ (List.getElem_mem hlk)).1
      have HT := Lib.hid (rTaken_succ x l z k hlk)
      clear hI hA hX hB
      go_wp2_with fail
      refine (rfield_any _ _ _ x _ hl _ hg hA2 hX2 (by omega)).mono ?_
      rintro e w4 ⟨rfl, hA3, hX3, hT3⟩
      rw [← HT.out] at hA3
      have hI3 := hI2.touch hT3 (fun e => by omega)
      have hB3 := hB2.trans (hT3.below (fun _ _ e => by subst e; omega) hB2.size)
      have hp3 := hI3.posn
      cases hm : rMay x l[k].toNat with
      | true =>
        have HP := Lib.hid (show ∀ (j : Nat) (hj : j < l.length), j < k + 1 → rMay x l[j].toNat = true from fun j hj h => by
          rcases Nat.lt_or_ge j k with h2 | h2
          · exact hok j hj h2
          · obtain rfl : j = k := by omega
            exact hm)
        clear hn hI2 hA2 hX2 hB2 hT3 hok hm
        go_wp2
        go_roundw
        case rel => exact ⟨k + 1, by omega, HP.out, hA3, hX3, hB3, hI3⟩
        case measure => rw [hp, hp3]; omega
      | false =>
        have HV := Lib.hid (HS.out.trans (if_neg (fun h => by
          simp only [Bool.and_eq_true] at h
          have := rAll_at h.2.1 k hlk
          rw [hm] at this; cases this)))
        clear hn hI2 hA2 hX2 hT3 hB2 hok hm
        go_wp2
        go_ret
        rw [HV.out]
        exact ⟨rfl, hB3⟩
    · have hn := fun ty => run_next_itr_end (P := Tryd.prog) hI hlk ty
      obtain rfl : k = l.length := by omega
      have hma := rAll_to (x := x) (l := l) (fun j hj => hok j hj hj)
      have HV := Lib.hid (show rCheck x = if (!l.isEmpty && decide (rTaken x l z l.length = x)) = true then 0 else 14 by rw [HS.out, hma, Bool.true_and])
      have rX : rowOf wr w.heap.size 0 18 = some x.vals.toArray := hX.row 0 18 (by simp [Change.len])
      have rA : rowOf wr (w.heap.size + 1) 0 18 = some (rTaken x l z l.length).vals.toArray := hA.row 0 18 (by simp [Change.len])
      generalize rTaken x l z l.length = y at *
      clear hA hX hI hok hma
      by_cases hy : y = x
      · have hd : decide (y ≠ x) = false := decide_eq_false (by simpa using hy)
        have hd2 : decide (y = x) = true := decide_eq_true hy
        rw [hd2, Bool.and_true] at HV
        clear hy hd2
        cases l with
        | nil =>
          clear hlk hk hlet
          go_wp2
          go_ret
          rw [HV.out]
          exact ⟨rfl, hB⟩
        | cons c t =>
          clear hlk hk hlet
          go_wp2
          go_ret
          rw [HV.out]
          exact ⟨rfl, hB⟩
      · have hd : decide (y ≠ x) = true := decide_eq_true hy
        have hd2 : decide (y = x) = false := decide_eq_false hy
        rw [hd2, Bool.and_false] at HV
        clear hy hd2
        cases l with
        | nil =>
          clear hlk hk hlet
          go_wp2
          go_ret
          rw [HV.out]
          exact ⟨rfl, hB⟩
        | cons c t =>
          clear hlk hk hlet
          go_wp2
          go_ret
          rw [HV.out]
          exact ⟨rfl, hB⟩
end Go.Proofs.YthfhdighniiodaaDoor

/-
  Layer 1, walks: the reference's bytes of numbers and texts; what fills up. Conditions: numbers from 0 on; texts below 2^40 bytes.
-/
namespace Go.Proofs.YthfhdighniiodaaDoor
open Go.RowKit
attribute [local go_sem ↓] Go.wp_at_zero Go.wp_at_succ

set_option maxHeartbeats 400000 in
theorem pad_any (n : Int) (w : World) (hn : n ≤ 9223372036854775807) :
    Calls Tryd.prog 120 #[.int .i64 n] w fun e w' => e = .returned (.int .i64 (padn n.toNat)) ∧ w = w' := by
  by_cases h : n < 1
  · have hr := Lib.hid (show padn n.toNat = 0 by rw [show n.toNat = 0 by omega]; rfl)
    go_enter Tryd.func120, Tryd.ntmps120
    go_wp2
    go_ret
    exact ⟨ret_int (by rw [hr.out]; rfl), rfl⟩
  · have hr := Lib.hid (show (padn n.toNat : Int) = (4 - n % 4) % 4 by unfold padn; omega)
    go_enter Tryd.func120, Tryd.ntmps120
    go_wp2
    go_ret
    exact ⟨ret_int (by have := hr.out; omega), rfl⟩

theorem one_string (x : Int) (W : World) : (convert 85 9 (.slice (some ⟨W.heap.size, 0, none⟩) 1 1)).run Tryd.prog (W.alloc (.cells #[.int .u8 x] 5)) = .ok (.string (bs [UInt8.ofNat x.toNat])) (W.alloc (.cells #[.int .u8 x] 5)) :=
  run_one_string Tryd.underlying85 Tryd.underlying5 Tryd.underlying9 x W
attribute [local go_sem] one_string

set_option maxRecDepth 20000 in
set_option maxHeartbeats 800000 in
theorem refNum_any (n k : Nat) (w : World) (hn : (n : Int) ≤ 9223372036854775807) (hk : k ≤ 8) :
    Calls Tryd.prog 62 #[.int .i64 n, .int .i64 k] w fun e w' => e = .returned (.string (bs (num n k))) ∧ Below w.heap.size w w' := by
  go_enter Tryd.func62, Tryd.ntmps62
  go_wp2
  go_loopg [0, 5, 6] k (fun g m s i wr => ∃ (j q : Nat) (l : List UInt8), i = .int .i64 j ∧ j + g = k ∧ m = .int .i64 q ∧ (q : Int) ≤ 9223372036854775807 ∧ s = .string (bs l) ∧ l.length = j ∧ num q g ++ l = num n k ∧ Below w.heap.size w wr)
  case atStart => exact ⟨0, n, [], rfl, by omega, rfl, hn, rfl, rfl, by simp, Below.refl _ _⟩
  case round =>
    obtain ⟨j, q, l, rfl, hj, rfl, hq, rfl, hl, hnum, hB⟩ := hrel
    have HN := Lib.hid hnum
    clear hnum
    by_cases hlt : j < k
    · have HS := Lib.hid (show num (q / 256) (gk - 1) ++ (UInt8.ofNat (q % 256) :: l) = num n k by
        rw [ofNat_mod, ← HN.out, show gk = gk - 1 + 1 by omega, num]; simp)
      go_wp2
      go_roundg (gk - 1)
      case measure => omega
      case rel => exact ⟨j + 1, q / 256, UInt8.ofNat (q % 256) :: l, by go_num, by omega, by go_num, by omega, by rw [bs_append]; rfl, by simp [hl], HS.out, hB.alloc hB.size _⟩
    · have HS := Lib.hid (show l = num n k by rw [← HN.out, show gk = 0 by omega]; rfl)
      go_wp2
      go_ret
      exact ⟨by show Ending.returned (.string (bs l)) = _; rw [HS.out], hB⟩

theorem ret_string {a b : List UInt8} (h : a = b) : Ending.returned (.string (bs a)) = .returned (.string (bs b)) := by rw [h]

theorem refTruth_any (b : Bool) (w : World) : Calls Tryd.prog 118 #[.bool b] w fun e w' => e = .returned (.string (bs (truth b))) ∧ Below w.heap.size w w' := by
  cases b
  · go_enter Tryd.func118, Tryd.ntmps118
    go_wp2_with (go_at_call 62; refine (refNum_any 0 4 _ (by omega) (by omega)).mono ?_; rintro e w' ⟨rfl, hb⟩)
    go_ret
    exact ⟨rfl, hb⟩
  · go_enter Tryd.func118, Tryd.ntmps118
    go_wp2_with (go_at_call 62; refine (refNum_any 1 4 _ (by omega) (by omega)).mono ?_; rintro e w' ⟨rfl, hb⟩)
    go_ret
    exact ⟨rfl, hb⟩

theorem filled_step {l m : List UInt8} (h : filled l = filled m) (hn : m.length % 4 ≠ 0) : filled l = filled (m ++ [0]) := by
  rw [h]
  unfold filled
  have : padn m.length = padn (m ++ [0]).length + 1 := by simp [padn]; omega
  rw [this, List.append_assoc]
  rfl
theorem filled_end {m : List UInt8} (hn : m.length % 4 = 0) : filled m = m := by
  unfold filled
  rw [show padn m.length = 0 by unfold padn; omega]
  simp

set_option maxRecDepth 20000 in
set_option maxHeartbeats 800000 in
theorem refFilled_any (l : List UInt8) (w : World) (hl : l.length ≤ 1000000000) :
    Calls Tryd.prog 104 #[.string (bs l)] w fun e w' => e = .returned (.string (bs (filled l))) ∧ Below w.heap.size w w' := by
  go_enter Tryd.func104, Tryd.ntmps104
  go_wp2
  go_loopg [0] 4 (fun g s wr => ∃ m : List UInt8, s = .string (bs m) ∧ filled l = filled m ∧ (m.length % 4 ≠ 0 → 4 - m.length % 4 ≤ g) ∧ m.length ≤ 1000000010 - g ∧ g ≤ 4 ∧ Below w.heap.size w wr)
  case atStart => exact ⟨l, rfl, rfl, fun _ => by omega, by omega, by omega, Below.refl _ _⟩
  case round =>
    obtain ⟨m, rfl, hf, hg, hm, hg4, hB⟩ := hrel
    have hsz := bs_size m
    by_cases hn : m.length % 4 = 0
    · have HS := Lib.hid (show m = filled l by rw [hf, filled_end hn])
      have h1 : ((m.length : Int) % 4 != 0) = false := by simp; omega
      clear hf hg hn
      go_wp2
      go_ret
      exact ⟨ret_string HS.out, hB⟩
    · have HS := Lib.hid (filled_step hf hn)
      have h1 : ((m.length : Int) % 4 != 0) = true := by simp; omega
      have hg' := hg hn
      have hlen : (m ++ [(0 : UInt8)]).length = m.length + 1 := by simp
      clear hf hg
      go_wp2
      go_roundg (gk - 1)
      case measure => omega
      case rel => exact ⟨m ++ [0], by rw [← bs_append], HS.out, fun h => by omega, by omega, by omega, hB⟩

set_option maxHeartbeats 800000 in
theorem refText_any (l : List UInt8) (w : World) (hl : l.length ≤ 1000000000) :
    Calls Tryd.prog 63 #[.string (bs l)] w fun e w' => e = .returned (.string (bs (opq l))) ∧ Below w.heap.size w w' := by
  have hsz := bs_size l
  have hf := filled_len l
  have hp := padn_lt l.length
  have hn := num_len l.length 4
  go_enter Tryd.func63, Tryd.ntmps63
  go_wp2_with fail
  refine (refNum_any l.length 4 _ (by omega) (by omega)).mono ?_
  rintro e w1 ⟨rfl, hb1⟩
  go_wp2_with fail
  refine (refFilled_any l _ hl).mono ?_
  rintro e w2 ⟨rfl, hb2⟩
  go_wp2
  go_ret
  exact ⟨by show Ending.returned (.string (bs _ ++ bs _)) = _; rw [bs_append]; rfl, below_then hb1 hb2⟩
end Go.Proofs.YthfhdighniiodaaDoor


/-
  Layer 1, walks: a writer's number. Conditions: a number from 0 on, in 4 or 8 bytes; at most 2^40 bytes so far.
-/
namespace Go.Proofs.YthfhdighniiodaaDoor
open Go.RowKit
attribute [local go_sem ↓] Go.wp_at_zero Go.wp_at_succ

theorem infoU8 : (Tryd.prog.info? 5).map (fun i => (i.zero, i.size, i.bytes)) = some (some (.int .u8 0), 1, 1) := by kernel_rfl

set_option maxRecDepth 20000 in
set_option maxHeartbeats 1600000 in
theorem number_any (g : Nat) (sv : Value) (l : List UInt8) (n k : Nat) (w : World) (hW : Wr w g sv l) (_hn : (n : Int) ≤ 9223372036854775807) (hk : k ≤ 8) (hl : l.length ≤ 1000000000000) :
    Calls Tryd.prog 92 #[.pointer (some ⟨g, 0, none⟩), .int .i64 n, .int .i64 k] w (Wrote g sv (l ++ num n k) (.tuple #[]) w) := by
  obtain ⟨i0, hi0, hz0, hz1, hz2⟩ := info_parts infoU8
  go_enter Tryd.func92, Tryd.ntmps92
  go_wp2
  go_loopg [6] k (fun m i wr => i = .int .i64 ((m : Int) - 1) ∧ m ≤ k ∧ Moved g sv (l ++ (num n k).take (k - m)) w wr)
  case atStart => exact ⟨rfl, Nat.le_refl _, by simpa using Moved.refl hW⟩
  case round =>
    obtain ⟨rfl, hm, hM⟩ := hrel
    by_cases h0 : gk = 0
    · subst h0
      have HM := Lib.hid hM
      clear hM
      go_wp2
      go_end0
      exact ⟨rfl, by have := HM.out; rw [Nat.sub_zero, List.take_of_length_le (by rw [num_len]; omega)] at this; exact this⟩
    · obtain ⟨sv1, hW1, hrow, hT⟩ := hM
      have hm1 : 1 ≤ gk := by omega
      have hlen : (l ++ (num n k).take (k - gk)).length ≤ 1000000000100 := by simp [num_len]; omega
      have HN := Lib.hid (num_take n k gk hm1 hm)
      generalize hl1 : (l ++ (num n k).take (k - gk)) = l1 at *
      have HL := Lib.hid hl1
      clear hl1
      have HR := Lib.hid hrow
      clear hrow
      have hc := (hW1.1.cell 0)
      simp only [List.getElem?_cons_zero] at hc
      have hf := hW1.1.frozen 0
      have hsh := shr_byte n gk hm1 (by omega)
      generalize n / 256 ^ (gk - 1) = b at *
      have hcv := u8_wrap b
      have hOwn := Lib.hid hW1.2
      have hBlk := Lib.hid hW1.1
      go_wp2_with fail
      have hLen := Lib.hid hlen
      have hglt := hW1.1.lt
      clear hlen hW1 hl
      go_region_law ((refine step_append_lies _ (by rfl) (.tmp 17) (.tmp 23) 85 (by rfl) 0 5 i0 _ 1 1 Tryd.underlying85 hi0 hz0 hz1 hz2 rfl (by omega) sv1 l1.length (l1.map u8) (by simp [Act.eval]) ((hOwn.out.alloc _).drew) ⟨wr.heap.size, 0, none⟩ 1 1 [u8 (UInt8.ofNat b)] (by simp [Act.eval]) rfl (cell_one_new _ _ _) (u8_one [UInt8.ofNat b]) (by omega) (by have := hLen.out; unfold maxLen; omega) (by have := hLen.out; omega) (Nat.zero_le _) (wr.heap.size + 1) (by simp) ?_; intro g1 cap w1 hown1 hgrow1 hat1 hlt1; have hB1 := (wr_row_ne ⟨hBlk.out, hOwn.out⟩ (((Below.refl _ _).alloc (Nat.le_refl _) _).drew) hgrow1 hown1).1; have hc1 : w1.cell? ⟨g, 0, none⟩ = some sv1 := hB1.cell 0; have hf1 := hB1.frozen 0))
      all_goals
        go_wp2
        go_roundg (gk - 1)
        case measure => omega
        case rel =>
          refine ⟨by go_num, by omega, ?_⟩
          rw [HN.out, ← List.append_assoc]
          rw [HL.out]
          exact ⟨_, moved_append (m := [UInt8.ofNat b]) ⟨hBlk.out, hOwn.out⟩ HR.out hT (((Below.refl _ _).alloc (Nat.le_refl _) _).drew) hgrow1 hown1 (fun k hk => by
            have hk' : g1 = k := by simpa [Value.ownBlock] using hk
            rcases hat1 with h | h
            · left; rw [h, hk']
            · right; simp; omega)⟩

/-- a pointer to a writer, or none -/
abbrev ptr (g : Nat) : Value := .pointer (some ⟨g, 0, none⟩)

set_option maxHeartbeats 800000 in
theorem wU32_any (g : Nat) (sv : Value) (l : List UInt8) (n : Nat) (w : World) (hW : Wr w g sv l) (hn : n < 4294967296) (hl : l.length ≤ 1000000000000) :
    Calls Tryd.prog 48 #[ptr g, .int .i64 n] w (Wrote g sv (l ++ num n 4) (.int .i64 0) w) := by
  have hsh : Op.shift .shr .i64 (n : Int) .u64 32 = pure (.int .i64 0) := by
    rw [shift_shr .i64 .u64 _ _ (by omega) (by show (32 : Int) ≤ 64; omega)]
    congr 2
    have : (2 : Int) ^ ((32 : Int).toNat) = 4294967296 := by rfl
    rw [this]; omega
  go_enter Tryd.func48, Tryd.ntmps48
  go_wp2_with fail
  refine (number_any g sv l n 4 _ hW (by omega) (by omega) hl).mono ?_
  rintro e w1 ⟨rfl, hM⟩
  go_wp2
  go_ret
  exact ⟨rfl, hM⟩

set_option maxHeartbeats 800000 in
theorem wU32_bad (g : Nat) (n : Int) (w : World) (hn : n < 0 ∨ 4294967296 ≤ n) (hi : -9223372036854775808 ≤ n ∧ n ≤ 9223372036854775807) :
    Calls Tryd.prog 48 #[ptr g, .int .i64 n] w fun e w' => e = .returned (.int .i64 3) ∧ w = w' := by
  have hsh : Op.shift .shr .i64 n .u64 32 = pure (.int .i64 (n / 4294967296)) := by
    rw [shift_shr .i64 .u64 _ _ (by omega) (by show (32 : Int) ≤ 64; omega)]
    rfl
  have hb : 0 ≤ n → ((n / 4294967296 != 0) = true) := fun h0 => by rw [bne_iff_ne]; omega
  rcases hn with hn | hn
  · go_enter Tryd.func48, Tryd.ntmps48
    go_wp2
    go_ret
    exact ⟨rfl, rfl⟩
  · have h0 : 0 ≤ n := by omega
    have hb' := hb h0
    go_enter Tryd.func48, Tryd.ntmps48
    go_wp2
    go_ret
    exact ⟨rfl, rfl⟩

theorem wU64_any (g : Nat) (sv : Value) (l : List UInt8) (n : Nat) (w : World) (hW : Wr w g sv l) (hn : (n : Int) ≤ 9223372036854775807) (hl : l.length ≤ 1000000000000) :
    Calls Tryd.prog 93 #[ptr g, .int .i64 n] w (Wrote g sv (l ++ num n 8) (.int .i64 0) w) := by
  go_enter Tryd.func93, Tryd.ntmps93
  go_wp2_with fail
  refine (number_any g sv l n 8 _ hW (by omega) (by omega) hl).mono ?_
  rintro e w1 ⟨rfl, hM⟩
  go_wp2
  go_ret
  exact ⟨rfl, hM⟩
theorem wU64_bad (g : Nat) (n : Int) (w : World) (hn : n < 0) :
    Calls Tryd.prog 93 #[ptr g, .int .i64 n] w fun e w' => e = .returned (.int .i64 3) ∧ w = w' := by
  go_enter Tryd.func93, Tryd.ntmps93
  go_wp2
  go_ret
  exact ⟨rfl, rfl⟩

theorem wBool_any (g : Nat) (sv : Value) (l : List UInt8) (b : Bool) (w : World) (hW : Wr w g sv l) (hl : l.length ≤ 1000000000000) :
    Calls Tryd.prog 133 #[ptr g, .bool b] w (Wrote g sv (l ++ truth b) (.int .i64 0) w) := by
  cases b
  · go_enter Tryd.func133, Tryd.ntmps133
    go_wp2_with fail
    refine (wU32_any g sv l 0 _ hW (by omega) hl).mono ?_
    rintro e w1 ⟨rfl, hM⟩
    go_wp2
    go_ret
    exact ⟨rfl, hM⟩
  · go_enter Tryd.func133, Tryd.ntmps133
    go_wp2_with fail
    refine (wU32_any g sv l 1 _ hW (by omega) hl).mono ?_
    rintro e w1 ⟨rfl, hM⟩
    go_wp2
    go_ret
    exact ⟨rfl, hM⟩
end Go.Proofs.YthfhdighniiodaaDoor
