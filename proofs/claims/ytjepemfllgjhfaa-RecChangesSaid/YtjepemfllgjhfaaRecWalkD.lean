/-
  Layer 17, walks: why a change may not be. Condition: the change's numbers are machine numbers.
-/
import Derived.Test.YtjepemfllgjhfaaRecWalkC
import Derived.Test.YtjepemfllgjhfaaStructEq
namespace Go.Proofs.Ytjepemfllgjhfaa
open Go.RowKit
attribute [local go_sem ↓] Go.wp_at_zero Go.wp_at_succ
attribute [local go_sem] rowAt_ptr rowOf_drew rowOf_drewN rowOf_alloc_past rowOf_new
theorem ldChange {ρ : Operand → Value} {w : World} {dst : Option Tmp} {ty : TypeId} {pos : String} {after : Array Edge} {g : Option (Nat × Bool)} {x : Operand} (h : (rowAt w 18 (ρ x)).isSome = true) :
    (execOp ρ ⟨dst, .load 66 x, ty, pos, after, g⟩).run Try.prog w = .ok (.value (.agg ((rowAt w 18 (ρ x)).getD #[]))) w := ex_load 66 18 Try.underlying66 rfl (by kernel_rfl) h
attribute [local go_sem ↓] ldAttrR ldChange

attribute [local go_sem] Change.at0 Change.lat0 Change.at1 Change.lat1 Change.at2 Change.lat2 Change.at3 Change.lat3 Change.at4 Change.lat4 Change.at5 Change.lat5 Change.at6 Change.lat6 Change.at7 Change.lat7 Change.at8 Change.lat8 Change.at9 Change.lat9 Change.at10 Change.lat10 Change.at11 Change.lat11 Change.at12 Change.lat12 Change.at13 Change.lat13 Change.at14 Change.lat14 Change.at15 Change.lat15 Change.at16 Change.lat16 Change.at17 Change.lat17 Change.sub0_18 Change.lsub0_18 Change.sub6_10 Change.lsub6_10 Change.len Attr.at0 Attr.lat0 Attr.at1 Attr.lat1 Attr.at2 Attr.lat2 Attr.at3 Attr.lat3 Attr.at4 Attr.lat4 Attr.at5 Attr.lat5 Attr.at6 Attr.lat6 Attr.at7 Attr.lat7 Attr.at8 Attr.lat8 Attr.at9 Attr.lat9 Attr.sub0_10 Attr.lsub0_10 Attr.len

theorem infoChangeS : (Try.prog.info? 66).map (fun i => (i.zero, i.size)) = some (some (.agg change0.vals.toArray), 18) := by kernel_rfl
theorem guardChange : Try.prog.eqGuardType Try.prog.depth 66 = false := by kernel_rfl
def lfChange : List Leaf := [.i .i64, .i .i64, .i .i64, .s, .s, .s, .i .i64, .i .i64, .i .i64, .i .i64, .i .i64, .i .i64, .i .i64, .i .i64, .i .i64, .i .i64, .i .i64, .i .i64]
theorem leafsChange : leafs Try.prog 8 66 = some lfChange := by kernel_rfl
theorem Change.inj {x y : Change} (h : x.vals = y.vals) : x = y := by
  obtain ⟨_, _, _, _, _, _, ⟨_, _, _, _, _, _, _, _, _, _⟩, _, _⟩ := x
  obtain ⟨_, _, _, _, _, _, ⟨_, _, _, _, _, _, _, _, _, _⟩, _, _⟩ := y
  simp only [Change.vals, Attr.vals, List.cons_append, List.nil_append, List.cons.injEq, Value.int.injEq, Value.bool.injEq, Value.string.injEq, true_and, and_true] at h
  obtain ⟨h0, h1, h2, h3, h4, h5, h6, h7, h8, h9, h10, h11, h12, h13, h14, h15, h16, h17⟩ := h
  have h3 := bs_inj h3
  have h4 := bs_inj h4
  have h5 := bs_inj h5
  subst_vars
  rfl
theorem neqChange (x y : Change) (w : World) : (binOp .neq 66 (.agg x.vals.toArray) (.agg y.vals.toArray)).run Try.prog w = .ok (.bool (decide (x ≠ y))) w := by
  by_cases h : x = y
  · rw [neq_same leafsChange (by kernel_rfl) w _ _ (by rfl) (by rw [h]), decide_eq_false (by simpa using h)]
  · rw [neq_other leafsChange (by kernel_rfl) w _ _ (by rfl) (by rfl) (fun e => h (Change.inj e)), decide_eq_true h]
attribute [local go_sem ↓] neqChange

attribute [local go_sem] guardChange

/-- the first k letters' fields are copied -/
def rTaken (x : Change) (l : List UInt8) (z : Change) (k : Nat) : Change := (l.take k).foldl (fun z c => rCopy z x c.toNat) z
theorem rTaken_succ (x : Change) (l : List UInt8) (z : Change) (k : Nat) (hk : k < l.length) : rTaken x l z (k + 1) = rCopy (rTaken x l z k) x l[k].toNat := by
  unfold rTaken
  rw [List.take_add_one, List.getElem?_eq_getElem hk, List.foldl_append]
  rfl
def rMayAll (x : Change) (l : List UInt8) : Bool := l.all fun c => rMay x c.toNat
/-- may a change be? -/
def rOk (x : Change) : Bool := !(rHas x.kind).isEmpty && (rMayAll x (rHas x.kind) && decide (rTaken x (rHas x.kind) { change0 with kind := x.kind } (rHas x.kind).length = x))
def rCheck (x : Change) : Int := if rOk x then 0 else 14
/-- where an iterator is -/
def itPos (w : World) (b : Nat) : Nat := match w.heap[b]? with
  | some (.stringIter _ p) => p
  | _ => 0
theorem Itr.posn {w : World} {b : Nat} {l : List UInt8} {pos : Nat} (h : Itr w b l pos) : itPos w b = pos := by
  unfold Itr at h
  simp [itPos, h]
theorem Blk.ne_it {w : World} {g b pos : Nat} {T : TypeId} {cs : List Value} {l : List UInt8} (h : Blk w g T cs) (hI : Itr w b l pos) : g ≠ b := by
  intro e
  subst e
  unfold Blk at h
  unfold Itr at hI
  rw [h] at hI
  cases hI
theorem rAll_to {x : Change} {l : List UInt8} (h : ∀ (j : Nat) (hj : j < l.length), rMay x l[j].toNat = true) : rMayAll x l = true := by
  rw [rMayAll, List.all_eq_true]
  intro c hc
  obtain ⟨k, hk, rfl⟩ := List.getElem_of_mem hc
  exact h k hk
theorem rAll_at {x : Change} {l : List UInt8} (h : rMayAll x l = true) (j : Nat) (hj : j < l.length) : rMay x l[j].toNat = true := by
  rw [rMayAll, List.all_eq_true] at h
  exact h _ (List.getElem_mem hj)

set_option maxRecDepth 20000 in
set_option maxHeartbeats 1600000 in
theorem check17_any (x : Change) (w : World) (hg : x.attr.good) : Calls Try.prog 49 #[.agg x.vals.toArray] w fun e w' => e = .returned (.int .i64 (rCheck x)) ∧ Below w.heap.size w w' := by
  have hb := Blk.new w 66 x.vals
  have hB : Below w.heap.size w (w.alloc (.cells x.vals.toArray 66)) := (Below.refl _ _).alloc (Nat.le_refl _) _
  have hc := hb.cell
  have hs1 : (w.alloc (.cells x.vals.toArray 66)).heap.size = w.heap.size + 1 := by simp
  have hhas := fun W => recHas_any x.kind W
  have hlet := rHas_letter x.kind
  obtain ⟨z, hz⟩ : ∃ z : Change, z = { change0 with kind := x.kind } := ⟨_, rfl⟩
  have HS := Lib.hid (show rCheck x = if (!(rHas x.kind).isEmpty && (rMayAll x (rHas x.kind) && decide (rTaken x (rHas x.kind) z (rHas x.kind).length = x))) then 0 else 14 by rw [hz]; rfl)
  have HZ := Lib.hid hz
  clear hz
  generalize rHas x.kind = l at *
  go_enter Try.func49, Try.ntmps49
  go_wp2_with fail
  refine (hhas _).mono ?_
  rintro e w0 ⟨rfl, rfl⟩
  generalize w.alloc (.cells x.vals.toArray 66) = w1 at *
  have hA := Blk.new w1 66 z.vals
  have hX := hb.alloc (.cells z.vals.toArray 66)
  have hB2 := hB.alloc hB.size (.cells z.vals.toArray 66)
  have hs2 : (w1.alloc (.cells z.vals.toArray 66)).heap.size = w.heap.size + 1 + 1 := by simp [hs1]
  obtain ⟨w2, hw2⟩ : ∃ u, u = w1.alloc (.cells z.vals.toArray 66) := ⟨_, rfl⟩
  rw [← hw2] at hA hX hB2 hs2
  rw [hs1] at hA
  have HW := Lib.hid hw2
  have hI := Itr.new w2 l
  have hb0 : Below w2.heap.size w2 (w2.iter (bs l) 0) := (Below.refl _ _).alloc (Nat.le_refl _) (.stringIter (bs l) 0)
  have HA := Lib.hid (hA.stays hb0)
  have HX := Lib.hid (hX.stays hb0)
  have HB := Lib.hid (below_then hB2 hb0)
  have HI := Lib.hid hI
  clear hw2 hb hB hA hX hB2 hI hb0 hhas
  go_wp2_with (first | (refine wpList_new_struct (by rfl) (by rfl) 66 (by rfl) _ _ (by rfl) z.vals infoChangeS (by rfl) (by rfl) (Change.one _) (by rfl) (by rw [HZ.out]; rfl) ?_; rw [← HW.out]) | fail)
  generalize w2.iter (bs l) 0 = w3 at *
  rw [hs2] at HI
  clear hc
  go_loopw [6] (fun _ wr => ∃ k : Nat, k ≤ l.length ∧ (∀ (j : Nat) (hj : j < l.length), j < k → rMay x l[j].toNat = true) ∧ Blk wr (w.heap.size + 1) 66 (rTaken x l z k).vals ∧ Blk wr w.heap.size 66 x.vals ∧ Below w.heap.size w wr ∧ Itr wr (w.heap.size + 1 + 1) l k) (fun _ wr => l.length - itPos wr (w.heap.size + 1 + 1))
  case atStart => exact ⟨0, Nat.zero_le _, fun _ _ h => absurd h (Nat.not_lt_zero _), HA.out, HX.out, HB.out, HI.out⟩
  case round =>
    obtain ⟨k, hk, hok, hA, hX, hB, hI⟩ := hrel
    by_cases hlk : k < l.length
    · have hn := fun ty => run_next_itr (P := Try.prog) hI hlk (hlet _ (List.getElem_mem hlk)).2 ty
      have hI2 := hI.set_ (k + 1)
      have hA2 := hA.farIter (hA.ne_it hI) l (k + 1)
      have hX2 := hX.farIter (hX.ne_it hI) l (k + 1)
      have hB2 := Below.setIter hB (b := w.heap.size + 1 + 1) (by omega) l (k + 1)
      have hp := hI.posn
      have hl := (hlet _ (List.getElem_mem hlk)).1
      have HT := Lib.hid (rTaken_succ x l z k hlk)
      clear hI hA hX hB
      go_wp2_with fail
      refine (rfield_any _ _ _ x _ hl _ hg hA2 hX2 (by omega)).mono ?_
      rintro e w4 ⟨rfl, hA3, hX3, hT3⟩
      rw [← HT.out] at hA3
      have hI3 := hI2.touch hT3 (fun e => by omega)
      have hB3 := hB2.trans (hT3.below (fun _ _ e => by subst e; omega) hB2.size)
      have hp3 := hI3.posn
      cases hm : rMay x l[k].toNat with
      | true =>
        have HP := Lib.hid (show ∀ (j : Nat) (hj : j < l.length), j < k + 1 → rMay x l[j].toNat = true from fun j hj h => by
          rcases Nat.lt_or_ge j k with h2 | h2
          · exact hok j hj h2
          · obtain rfl : j = k := by omega
            exact hm)
        clear hn hI2 hA2 hX2 hB2 hT3 hok hm
        go_wp2
        go_roundw
        case rel => exact ⟨k + 1, by omega, HP.out, hA3, hX3, hB3, hI3⟩
        case measure => rw [hp, hp3]; omega
      | false =>
        have HV := Lib.hid (HS.out.trans (if_neg (fun h => by
          simp only [Bool.and_eq_true] at h
          have := rAll_at h.2.1 k hlk
          rw [hm] at this; cases this)))
        clear hn hI2 hA2 hX2 hT3 hB2 hok hm
        go_wp2
        go_ret
        rw [HV.out]
        exact ⟨rfl, hB3⟩
    · have hn := fun ty => run_next_itr_end (P := Try.prog) hI hlk ty
      obtain rfl : k = l.length := by omega
      have hma := rAll_to (x := x) (l := l) (fun j hj => hok j hj hj)
      have HV := Lib.hid (show rCheck x = if (!l.isEmpty && decide (rTaken x l z l.length = x)) = true then 0 else 14 by rw [HS.out, hma, Bool.true_and])
      have rX : rowOf wr w.heap.size 0 18 = some x.vals.toArray := hX.row 0 18 (by simp [Change.len])
      have rA : rowOf wr (w.heap.size + 1) 0 18 = some (rTaken x l z l.length).vals.toArray := hA.row 0 18 (by simp [Change.len])
      generalize rTaken x l z l.length = y at *
      clear hA hX hI hok hma
      by_cases hy : y = x
      · have hd : decide (y ≠ x) = false := decide_eq_false (by simpa using hy)
        have hd2 : decide (y = x) = true := decide_eq_true hy
        rw [hd2, Bool.and_true] at HV
        clear hy hd2
        cases l with
        | nil =>
          clear hlk hk hlet
          go_wp2
          go_ret
          rw [HV.out]
          exact ⟨rfl, hB⟩
        | cons c t =>
          clear hlk hk hlet
          go_wp2
          go_ret
          rw [HV.out]
          exact ⟨rfl, hB⟩
      · have hd : decide (y ≠ x) = true := decide_eq_true hy
        have hd2 : decide (y = x) = false := decide_eq_false hy
        rw [hd2, Bool.and_false] at HV
        clear hy hd2
        cases l with
        | nil =>
          clear hlk hk hlet
          go_wp2
          go_ret
          rw [HV.out]
          exact ⟨rfl, hB⟩
        | cons c t =>
          clear hlk hk hlet
          go_wp2
          go_ret
          rw [HV.out]
          exact ⟨rfl, hB⟩
end Go.Proofs.Ytjepemfllgjhfaa
