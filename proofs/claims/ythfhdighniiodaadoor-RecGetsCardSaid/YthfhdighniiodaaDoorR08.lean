/-
  Layer 5, walks: attributes are read. Conditions: a reader at a block of its own; texts are machine texts.
-/
import Derived.Test.YthfhdighniiodaaDoorR07
import Derived.Test.YthfhdighniiodaaDoorR02
import Derived.Test.YthfhdighniiodaaDoorR05
import Derived.Test.YthfhdighniiodaaDoorProg
import Derived.OpenShut
namespace Go.Proofs.YthfhdighniiodaaDoor
open Go.RowKit
attribute [local go_sem ↓] Go.wp_at_zero Go.wp_at_succ
attribute [local go_sem] rowAt_ptr rowOf_drew rowOf_drewN rowOf_alloc_past rowOf_new
theorem ldAttrR {ρ : Operand → Value} {w : World} {dst : Option Tmp} {ty : TypeId} {pos : String} {after : Array Edge} {g : Option (Nat × Bool)} {x : Operand} (h : (rowAt w 10 (ρ x)).isSome = true) :
    (execOp ρ ⟨dst, .load 42 x, ty, pos, after, g⟩).run Tryd.prog w = .ok (.value (.agg ((rowAt w 10 (ρ x)).getD #[]))) w := ex_load 42 10 Tryd.underlying42 rfl (by kernel_rfl) h
attribute [local go_sem ↓] ldAttrR

def rOne (wide : Bool) (r : Rs) : Nat × Rs := if wide then rU64 r else rU32 r
def rMany : List Bool → Rs → List Nat × Rs
  | [], r => ([], r)
  | b :: bs, r => ((rOne b r).1 :: (rMany bs (rOne b r).2).1, (rMany bs (rOne b r).2).2)
theorem rMany_snoc (l : List Bool) (b : Bool) (r : Rs) : rMany (l ++ [b]) r = ((rMany l r).1 ++ [(rOne b (rMany l r).2).1], (rOne b (rMany l r).2).2) := by
  induction l generalizing r with
  | nil => rfl
  | cons c l ih => simp [rMany, ih]
theorem rMany_length (l : List Bool) (r : Rs) : (rMany l r).1.length = l.length := by
  induction l generalizing r with
  | nil => rfl
  | cons c l ih => simp [rMany, ih]
theorem rOne_len {b : Bool} {r : Rs} (h : r.s.length ≤ 9223372036854775807) : (rOne b r).2.s.length ≤ r.s.length := by
  cases b
  · exact rU32_len h
  · exact rU64_len h
theorem rMany_len (l : List Bool) (r : Rs) (h : r.s.length ≤ 9223372036854775807) : (rMany l r).2.s.length ≤ r.s.length := by
  induction l generalizing r with
  | nil => exact Nat.le_refl _
  | cons c l ih => exact Nat.le_trans (ih _ (Nat.le_trans (rOne_len h) h)) (rOne_len h)
def natsV (l : List Nat) : List Value := l.map fun n : Nat => Value.int .i64 (n : Int)
def attrW : List Bool := [false, false, false, false, false, true, false, true, true, true]
/-- the attributes' cells when k of them were read -/
def attrK (r : Rs) (k : Nat) : List Value := natsV (rMany (attrW.take k) r).1 ++ List.replicate (10 - k) (.int .i64 0)
def restK (r : Rs) (k : Nat) : Rs := (rMany (attrW.take k) r).2
theorem attrK_len (r : Rs) {k : Nat} (hk : k ≤ 10) : (attrK r k).length = 10 := by
  simp only [attrK, natsV, List.length_append, List.length_map, rMany_length, List.length_take, List.length_replicate, attrW, List.length_cons, List.length_nil]
  omega
theorem attrK_succ (r : Rs) {k : Nat} {b : Bool} (hk : k < 10) (hb : attrW[k]? = some b) : (attrK r k).set k (.int .i64 (rOne b (restK r k)).1) = attrK r (k + 1) ∧ restK r (k + 1) = (rOne b (restK r k)).2 := by
  have ht : attrW.take (k + 1) = attrW.take k ++ [b] := by
    rw [List.take_add_one, hb]; rfl
  have hl : (natsV (rMany (attrW.take k) r).1).length = k := by
    simp only [natsV, List.length_map, rMany_length, List.length_take, attrW, List.length_cons, List.length_nil]; omega
  unfold attrK restK
  rw [ht, rMany_snoc]
  refine ⟨?_, rfl⟩
  rw [List.set_append_right _ _ (by omega), hl, Nat.sub_self, show 10 - k = (10 - (k + 1)) + 1 by omega, List.replicate_succ, List.set_cons_zero]
  simp [natsV]
theorem attrK_cell {w : World} {b : Nat} {T : TypeId} {r : Rs} {k j : Nat} (h : Blk w b T (attrK r k)) (hk : k ≤ 10) (hj : j < 10) : ∃ v, w.cell? ⟨b, j, none⟩ = some v := by
  rw [h.cell]
  exact ⟨_, List.getElem?_eq_getElem (by rw [attrK_len r hk]; exact hj)⟩
def attrOf (l : List Nat) : Attr := ⟨l.getD 0 0, l.getD 1 0, l.getD 2 0, l.getD 3 0, l.getD 4 0, l.getD 5 0, l.getD 6 0, l.getD 7 0, l.getD 8 0, l.getD 9 0⟩
theorem attrOf_vals (l : List Nat) (h : l.length = 10) : (attrOf l).vals = natsV l := by
  match l, h with
  | [a, b, c, d, e, f, g, i, j, k], _ => rfl
def rAttr (r : Rs) : Attr × Rs := (attrOf (rMany attrW r).1, (rMany attrW r).2)
theorem attrK_ten (r : Rs) : attrK r 10 = (rAttr r).1.vals ∧ restK r 10 = (rAttr r).2 := by
  refine ⟨?_, rfl⟩
  unfold attrK rAttr
  rw [attrOf_vals _ (rMany_length _ _), show attrW.take 10 = attrW from rfl]
  simp
theorem rAttr_len {r : Rs} (h : r.s.length ≤ 9223372036854775807) : (rAttr r).2.s.length ≤ r.s.length := rMany_len _ _ h
theorem restK_len {r : Rs} (k : Nat) (h : r.s.length ≤ 9223372036854775807) : (restK r k).s.length ≤ 9223372036854775807 := Nat.le_trans (rMany_len _ _ h) h
def fieldPtrs (b : Nat) (l : List Nat) : List Value := l.map fun k => .pointer (some ⟨b, k, none⟩)
theorem fieldPtr_at {w : World} {h b : Nat} {T : TypeId} {l : List Nat} (hB : Blk w h T (fieldPtrs b l)) {k : Nat} (hk : k < l.length) : w.cell? ⟨h, k, none⟩ = some (.pointer (some ⟨b, l[k], none⟩)) := by
  rw [hB.cell]; simp [fieldPtrs, hk]

def zeroA : List Value := [.int .i64 0, .int .i64 0, .int .i64 0, .int .i64 0, .int .i64 0, .int .i64 0, .int .i64 0, .int .i64 0, .int .i64 0, .int .i64 0]
/-- k numbers were read: the reader, the attributes' box, the result's -/
structure RdA (g : Nat) (r : Rs) (w : World) (k : Nat) (wx : World) : Prop where
  R : Reads g (restK r k) w wx
  A : Blk wx (w.heap.size + 1) 42 (attrK r k)
  Z : Blk wx w.heap.size 42 zeroA
  n : g < w.heap.size
theorem RdA.start (g : Nat) (r : Rs) (w : World) (hR : Rd w g r) : RdA g r w 0 ((w.alloc (.cells zeroA.toArray 42)).alloc (.cells zeroA.toArray 42)) := by
  have b0 := Blk.new w 42 zeroA
  have B0 : Below w.heap.size w (w.alloc (.cells zeroA.toArray 42)) := (Below.refl _ _).alloc (Nat.le_refl _) _
  have e0 : (w.alloc (.cells zeroA.toArray 42)).heap.size = w.heap.size + 1 := by simp
  generalize w.alloc (.cells zeroA.toArray 42) = w0 at *
  have b1 := Blk.new w0 42 zeroA
  rw [e0] at b1
  exact ⟨Reads.behind (B0.alloc B0.size _) (Reads.refl (hR.stays (B0.alloc B0.size _))), b1, b0.alloc _, hR.lt⟩
theorem RdA.alloc {g : Nat} {r : Rs} {w wx : World} {k : Nat} (h : RdA g r w k wx) (o : Obj) : RdA g r w k (wx.alloc o) :=
  ⟨h.R.new ((Below.refl _ _).alloc (Nat.le_refl _) o), h.A.alloc o, h.Z.alloc o, h.n⟩
theorem RdA.step {g : Nat} {r : Rs} {w wx wy : World} {k : Nat} {b : Bool} (h : RdA g r w k wx) (hk : k < 10) (hb : attrW[k]? = some b) (hQ : Reads g (rOne b (restK r k)).2 wx wy) :
    RdA g r w (k + 1) (wy.setCell ⟨w.heap.size + 1, k, none⟩ (.int .i64 (rOne b (restK r k)).1)) := by
  obtain ⟨e1, e2⟩ := attrK_succ r hk hb
  have hn := h.n
  refine ⟨⟨⟨?_, ?_⟩, ?_⟩, ?_, ?_, h.n⟩
  · rw [e2]; exact hQ.1.1.far (p := ⟨w.heap.size + 1, k, none⟩) (by simp; omega) _
  · rw [e2]; exact hQ.1.2
  · exact (h.R.2.then_ hQ.2).setCell_ (.inr (by omega)) _
  · have := (hQ.keeps h.A (by omega)).set_ k (.int .i64 (rOne b (restK r k)).1)
    rw [e1] at this
    exact this
  · exact (hQ.keeps h.Z (by omega)).far (p := ⟨w.heap.size + 1, k, none⟩) (by simp) _
theorem RdA.cell {g : Nat} {r : Rs} {w wx wy : World} {k : Nat} {r' : Rs} (h : RdA g r w k wx) (hk : k < 10) (hQ : Reads g r' wx wy) : ∃ v, wy.cell? ⟨w.heap.size + 1, k, none⟩ = some v ∧ wy.frozen? ⟨w.heap.size + 1, k, none⟩ = false := by
  have hn := h.n
  have hb := hQ.keeps h.A (by omega)
  obtain ⟨v, hv⟩ := attrK_cell hb (by omega) hk
  exact ⟨v, hv, hb.frozen _⟩
/-- the pointers' row stands -/
theorem RdA.row {g : Nat} {r : Rs} {w wx wy : World} {k j h0 : Nat} {T : TypeId} {cs : List Value} {r' : Rs} (_h : RdA g r w k wx) (hB : Blk wx h0 T cs) (hh : h0 ≠ w.heap.size + 1) (hg : h0 ≠ g) (hQ : Reads g r' wx wy) (v : Value) : Blk (wy.setCell ⟨w.heap.size + 1, j, none⟩ v) h0 T cs :=
  (hQ.keeps hB hg).far (p := ⟨w.heap.size + 1, j, none⟩) hh v

set_option maxRecDepth 20000 in
set_option maxHeartbeats 3200000 in
theorem attrRead_any (g : Nat) (r : Rs) (w : World) (hR : Rd w g r) (hl : r.s.length ≤ 9223372036854775807) :
    Calls Tryd.prog 129 #[.pointer (some ⟨g, 0, none⟩)] w (Gave g (rAttr r).2 (.agg (rAttr r).1.vals.toArray) w) := by
  have hS := RdA.start g r w hR
  have e1 : ((w.alloc (.cells zeroA.toArray 42)).alloc (.cells zeroA.toArray 42)).heap.size = w.heap.size + 1 + 1 := by simp
  have hP := Blk.new ((w.alloc (.cells zeroA.toArray 42)).alloc (.cells zeroA.toArray 42)) 162 (fieldPtrs (w.heap.size + 1) [0, 1, 2, 3, 4])
  rw [e1] at hP
  clear e1
  have hg := hR.lt
  have hlr := fun k => restK_len (r := r) k hl
  clear hR
  have HL := Lib.hid hlr
  clear hlr
  go_enter Tryd.func129, Tryd.ntmps129
  go_wp2
  change Code.wp _ _ _ _ (((w.alloc (.cells zeroA.toArray 42)).alloc (.cells zeroA.toArray 42)).alloc (.cells (fieldPtrs (w.heap.size + 1) [0, 1, 2, 3, 4]).toArray 162))
  have hS := hS.alloc (.cells (fieldPtrs (w.heap.size + 1) [0, 1, 2, 3, 4]).toArray 162)
  generalize ((w.alloc (.cells zeroA.toArray 42)).alloc (.cells zeroA.toArray 42)).alloc (.cells (fieldPtrs (w.heap.size + 1) [0, 1, 2, 3, 4]).toArray 162) = W0 at *
  go_loopw [15] (fun i wr => ∃ k : Nat, k ≤ 5 ∧ i = .int .i64 k ∧ RdA g r w k wr ∧ Blk wr (w.heap.size + 1 + 1) 162 (fieldPtrs (w.heap.size + 1) [0, 1, 2, 3, 4])) (fun i _ => 5 - (intOf i).toNat)
  case atStart => exact ⟨0, by omega, rfl, hS, hP⟩
  case round =>
    clear hS hP
    obtain ⟨k, hk, rfl, hS, hP⟩ := hrel
    by_cases hlt : k < 5
    · have hp := fieldPtr_at hP (k := k) (by simpa using hlt)
      have hkk : ([0, 1, 2, 3, 4] : List Nat)[k]'(by simpa using hlt) = k := by
        match k, hlt with
        | 0, _ | 1, _ | 2, _ | 3, _ | 4, _ => rfl
      have hw : attrW[k]? = some false := by
        match k, hlt with
        | 0, _ | 1, _ | 2, _ | 3, _ | 4, _ => rfl
      rw [hkk] at hp
      have HW := Lib.hid hw
      clear hkk hw
      go_wp2_with fail
      refine (rU32_any g (restK r k) _ hS.R.1 (HL.out k)).mono ?_
      rintro e w4 ⟨rfl, hQ⟩
      obtain ⟨v, hc, hf⟩ := hS.cell (by omega) hQ
      have HS := Lib.hid (hS.step (by omega) HW.out hQ)
      have HP := Lib.hid (hS.row hP (by omega) (by omega) hQ (.int .i64 (rOne false (restK r k)).1) (j := k))
      clear hS hP hQ hp
      go_wp2
      go_roundw
      case rel => exact ⟨k + 1, by omega, by go_num, HS.out, HP.out⟩
      case measure => simp [intOf]; omega
    · obtain rfl : k = 5 := by omega
      clear hP
      go_wp2_with fail
      refine (rU64_any g (restK r 5) _ hS.R.1 (HL.out 5)).mono ?_
      rintro e w4 ⟨rfl, hQ⟩
      obtain ⟨v, hc, hf⟩ := hS.cell (by omega) hQ
      have hS5 := hS.step (by omega) (b := true) rfl hQ
      clear hS hQ
      change RdA g r w 6 _ at hS5
      go_wp2_with fail
      change Calls _ _ _ (w4.setCell ⟨w.heap.size + 1, 5, none⟩ (.int .i64 (rOne true (restK r 5)).1)) _
      generalize w4.setCell ⟨w.heap.size + 1, 5, none⟩ (.int .i64 (rOne true (restK r 5)).1) = w5 at *
      clear hc hf
      refine (rU32_any g (restK r 6) _ hS5.R.1 (HL.out 6)).mono ?_
      rintro e w6 ⟨rfl, hQ⟩
      obtain ⟨v2, hc, hf⟩ := hS5.cell (by omega) hQ
      have hS6 := hS5.step (by omega) (b := false) rfl hQ
      clear hS5 hQ
      change RdA g r w 7 _ at hS6
      go_wp2
      change Code.wp _ _ _ _ ((w6.setCell ⟨w.heap.size + 1, 6, none⟩ (.int .i64 (rOne false (restK r 6)).1)).alloc (.cells (fieldPtrs (w.heap.size + 1) [7, 8, 9]).toArray 162))
      have hsz : (w6.setCell ⟨w.heap.size + 1, 6, none⟩ (.int .i64 (rOne false (restK r 6)).1)).heap.size = w6.heap.size := by simp [World.setCell]
      have hP := Blk.new (w6.setCell ⟨w.heap.size + 1, 6, none⟩ (.int .i64 (rOne false (restK r 6)).1)) 162 (fieldPtrs (w.heap.size + 1) [7, 8, 9])
      rw [hsz] at hP
      have hS := hS6.alloc (.cells (fieldPtrs (w.heap.size + 1) [7, 8, 9]).toArray 162)
      have hA6 := hS6.A.lt
      rw [hsz] at hA6
      clear hS6 hc hf hsz
      generalize (w6.setCell ⟨w.heap.size + 1, 6, none⟩ (.int .i64 (rOne false (restK r 6)).1)).alloc (.cells (fieldPtrs (w.heap.size + 1) [7, 8, 9]).toArray 162) = W7 at *
      go_loopw [35] (fun i wr => ∃ k : Nat, k ≤ 3 ∧ i = .int .i64 k ∧ RdA g r w (7 + k) wr ∧ Blk wr w6.heap.size 162 (fieldPtrs (w.heap.size + 1) [7, 8, 9])) (fun i _ => 3 - (intOf i).toNat)
      case atStart => exact ⟨0, by omega, rfl, hS, hP⟩
      case round =>
        clear hS hP
        obtain ⟨k, hk, rfl, hS, hP⟩ := hrel
        by_cases hlt : k < 3
        · have hp := fieldPtr_at hP (k := k) (by simpa using hlt)
          have hkk : ([7, 8, 9] : List Nat)[k]'(by simpa using hlt) = 7 + k := by
            match k, hlt with
            | 0, _ | 1, _ | 2, _ => rfl
          have hw : attrW[7 + k]? = some true := by
            match k, hlt with
            | 0, _ | 1, _ | 2, _ => rfl
          rw [hkk] at hp
          have HW := Lib.hid hw
          clear hkk hw
          go_wp2_with fail
          refine (rU64_any g (restK r (7 + k)) _ hS.R.1 (HL.out (7 + k))).mono ?_
          rintro e w8 ⟨rfl, hQ⟩
          obtain ⟨v, hc, hf⟩ := hS.cell (by omega) hQ
          have HS := Lib.hid (hS.step (by omega) HW.out hQ)
          have HP := Lib.hid (hS.row hP (by omega) (by omega) hQ (.int .i64 (rOne true (restK r (7 + k))).1) (j := 7 + k))
          clear hS hP hQ hp
          go_wp2
          go_roundw
          case rel => exact ⟨k + 1, by omega, by go_num, HS.out, HP.out⟩
          case measure => simp [intOf]; omega
        · obtain rfl : k = 3 := by omega
          have hS10 : RdA g r w 10 wr := hS
          obtain ⟨e1, e2⟩ := attrK_ten r
          have hA := hS10.A
          have hR := hS10.R
          rw [e1] at hA
          rw [e2] at hR
          have hZ := hS10.Z
          have rA : rowOf wr (w.heap.size + 1) 0 10 = some (rAttr r).1.vals.toArray := hA.row 0 10 (by simp [Attr.len])
          have HQ := Lib.hid (Reads.lay (cs := (rAttr r).1.vals) hR hZ rfl (by omega) (Nat.le_refl _))
          clear hS10 hA hR hS hP e1 e2
          go_wp2_with (first | (refine wpList_store_whole (by rfl) 42 _ _ (by rfl) w.heap.size (rAttr r).1.vals _ hZ (by rfl) (by rfl) (by rfl) (by kernel_rfl) (Attr.one _) ?_) | fail)
          refine ret_cells w.heap.size 0 (rAttr r).1.vals Tryd.results129 Tryd.underlying42 rfl (by kernel_rfl) rfl HQ.out.2.range rfl ?_
          exact ⟨rfl, HQ.out.1⟩
end Go.Proofs.YthfhdighniiodaaDoor

/-
  Layer 5, walks: whether options may be, by the program and by the reference. No condition.
-/
namespace Go.Proofs.YthfhdighniiodaaDoor
open Go.RowKit
attribute [local go_sem ↓] Go.wp_at_zero Go.wp_at_succ

def limV (p : Int × Int) : List Value := [.int .i64 p.1, .int .i64 p.2]
theorem limV_one (p : Int × Int) : ∀ v ∈ limV p, v.oneCell' = true := by
  intro v hv
  unfold limV at hv
  simp only [List.mem_cons, List.not_mem_nil, or_false] at hv
  rcases hv with rfl | rfl <;> rfl
theorem infoLimit : (Tryd.prog.info? 147).map (fun i => (i.zero, i.size)) = some (some (.agg #[.int .i64 0, .int .i64 0]), 2) := by kernel_rfl
def inLim (p : Int × Int) : Bool := okN p.1 p.2
theorem all_step {α : Type} {p : α → Bool} {l : List α} {k : Nat} (hk : k < l.length) (hn : (l.take k).all p = true) (h : p l[k] = true) : (l.take (k + 1)).all p = true := by
  rw [take_next _ _ hk, List.all_append, hn]; simp [h]
theorem all_hit {α : Type} {p : α → Bool} {l : List α} {k : Nat} (hk : k < l.length) (h : p l[k] = false) : l.all p = false :=
  List.all_eq_false.2 ⟨_, List.getElem_mem hk, by simp [h]⟩
theorem all_end {α : Type} {p : α → Bool} {l : List α} {k : Nat} (hk : l.length ≤ k) (hn : (l.take k).all p = true) : l.all p = true := by
  rwa [List.take_of_length_le hk] at hn

set_option maxHeartbeats 800000 in
theorem within_any (A : Option Addr) (c : Nat) (ls : List (Int × Int)) (w : World) (hl : ls.length ≤ 1000000) (hA : At w 2 A (ls.map limV)) :
    Calls Tryd.prog 122 #[.slice A ls.length c] w fun e w' => e = .returned (.bool (ls.all inLim)) ∧ Below w.heap.size w w' := by
  go_enter Tryd.func122, Tryd.ntmps122
  go_wp2
  go_loopw [7] (fun i wr => ∃ k : Nat, k ≤ ls.length ∧ i = .int .i64 k ∧ (ls.take k).all inLim = true ∧ Below w.heap.size w wr) (fun i _ => ls.length - (intOf i).toNat)
  case atStart => exact ⟨0, Nat.zero_le _, rfl, rfl, Below.refl _ _⟩
  case round =>
    obtain ⟨k, hk, rfl, hn, hB⟩ := hrel
    by_cases hlt : k < ls.length
    · obtain ⟨b, off, rfl, hb, hc⟩ := (hA.below hB).getD (k := k) (by simpa using hlt)
      have hc' : ∀ j u, (limV ls[k])[j]? = some u → wr.cell? ⟨b, off + k * 2 + j, none⟩ = some u := fun j u hu => hc j u (by simpa using hu)
      have hr0 := range_new wr (limV ls[k]) 147 0 _ rfl
      have hr1 := range_new wr (limV ls[k]) 147 1 _ rfl
      have hB1 := hB.alloc hB.size (.cells (limV ls[k]).toArray 147)
      by_cases h : inLim ls[k] = true
      · have HS := Lib.hid (all_step hlt hn h)
        simp only [inLim, okN, Bool.and_eq_true, decide_eq_true_eq] at h
        obtain ⟨h1, h2⟩ := h
        clear hc hn
        go_wp2_with (first
          | (refine wpList_load_mid (by rfl) 147 _ (by rfl) _ _ (by rfl) _ _ (by exact hc') Tryd.underlying147 (by rfl) (by kernel_rfl) ?_)
          | (refine wpList_new_struct (by rfl) (by rfl) 147 (by rfl) _ _ (by rfl) (limV ls[k]) infoLimit (by rfl) (by rfl) (limV_one _) (by rfl) (by rfl) ?_)
          | fail)
        go_roundw
        case rel => exact ⟨k + 1, by omega, by go_num, HS.out, hB1⟩
        case measure => simp [intOf]; omega
      · rw [Bool.not_eq_true] at h
        have HS := Lib.hid (all_hit hlt h)
        simp only [inLim, okN, Bool.and_eq_false_iff, decide_eq_false_iff_not] at h
        clear hc hn
        by_cases h0 : ls[k].1 < 0
        · go_wp2_with (first
            | (refine wpList_load_mid (by rfl) 147 _ (by rfl) _ _ (by rfl) _ _ (by exact hc') Tryd.underlying147 (by rfl) (by kernel_rfl) ?_)
            | (refine wpList_new_struct (by rfl) (by rfl) 147 (by rfl) _ _ (by rfl) (limV ls[k]) infoLimit (by rfl) (by rfl) (limV_one _) (by rfl) (by rfl) ?_)
            | fail)
          go_ret
          exact ⟨ret_bool HS.out.symm, hB1⟩
        · have h2 : ls[k].2 < ls[k].1 := by rcases h with h | h <;> omega
          go_wp2_with (first
            | (refine wpList_load_mid (by rfl) 147 _ (by rfl) _ _ (by rfl) _ _ (by exact hc') Tryd.underlying147 (by rfl) (by kernel_rfl) ?_)
            | (refine wpList_new_struct (by rfl) (by rfl) 147 (by rfl) _ _ (by rfl) (limV ls[k]) infoLimit (by rfl) (by rfl) (limV_one _) (by rfl) (by rfl) ?_)
            | fail)
          go_ret
          exact ⟨ret_bool HS.out.symm, hB1⟩
    · have HE := Lib.hid (all_end (by omega) hn)
      clear hn hA
      go_wp2
      go_ret
      exact ⟨ret_bool HE.out.symm, hB⟩

set_option maxHeartbeats 800000 in
theorem option_any (o : Opt) (most : Int) (w : World) :
    Calls Tryd.prog 139 #[.agg o.vals.toArray, .int .i64 most] w fun e w' => e = .returned (.bool (o.ok most)) ∧ Below w.heap.size w w' := by
  have hr := range_new w o.vals 53
  have hc0 := hr 0 _ rfl
  have hc1 := hr 1 _ rfl
  have hB0 : Below w.heap.size w (w.alloc (.cells o.vals.toArray 53)) := (Below.refl _ _).alloc (Nat.le_refl _) _
  clear hr
  obtain ⟨is, n⟩ := o
  unfold Opt.vals at *
  cases is
  · go_enter Tryd.func139, Tryd.ntmps139
    go_wp2
    go_ret
    exact ⟨rfl, hB0⟩
  · have hA : At ((w.alloc (.cells #[.bool true, .int .i64 n] 53)).alloc (.cells #[.int .i64 n, .int .i64 most] 147)) 2 (some ⟨w.heap.size + 1, 0, none⟩) [limV (n, most)] := At.fresh _ _ _ _ _ (by simp [limV]) (by simp)
    have HA := Lib.hid hA
    clear hA
    have hB1 := hB0.alloc hB0.size (.cells #[.int .i64 n, .int .i64 most] 147)
    go_enter Tryd.func139, Tryd.ntmps139
    go_wp2_with fail
    refine (within_any (some ⟨w.heap.size + 1, 0, none⟩) 1 [(n, most)] _ (by simp) HA.out).mono ?_
    rintro e w2 ⟨rfl, hb⟩
    have HB := Lib.hid (below_then hB1 hb)
    clear hb
    go_wp2
    go_ret
    exact ⟨ret_bool (by simp [Opt.ok, inLim]), HB.out⟩

theorem refIn_any (n most : Int) (w : World) :
    Calls Tryd.prog 96 #[.int .i64 n, .int .i64 most] w fun e w' => e = .returned (.bool (okN n most)) ∧ w = w' := by
  by_cases h : 0 ≤ n
  · have HS := Lib.hid (show okN n most = decide (n ≤ most) by simp [okN, h])
    go_enter Tryd.func96, Tryd.ntmps96
    go_wp2
    go_ret
    exact ⟨ret_bool HS.out.symm, rfl⟩
  · have HS := Lib.hid (show okN n most = false by simp [okN]; omega)
    go_enter Tryd.func96, Tryd.ntmps96
    go_wp2
    go_ret
    exact ⟨ret_bool HS.out.symm, rfl⟩

set_option maxHeartbeats 800000 in
theorem refOption_any (o : Opt) (most : Int) (w : World) :
    Calls Tryd.prog 112 #[.agg o.vals.toArray, .int .i64 most] w fun e w' => e = .returned (.bool (o.ok most)) ∧ Below w.heap.size w w' := by
  have hr := range_new w o.vals 53
  have hc0 := hr 0 _ rfl
  have hc1 := hr 1 _ rfl
  have hB0 : Below w.heap.size w (w.alloc (.cells o.vals.toArray 53)) := (Below.refl _ _).alloc (Nat.le_refl _) _
  clear hr
  obtain ⟨is, n⟩ := o
  unfold Opt.vals at *
  cases is
  · go_enter Tryd.func112, Tryd.ntmps112
    go_wp2
    go_ret
    exact ⟨rfl, hB0⟩
  · go_enter Tryd.func112, Tryd.ntmps112
    go_wp2_with fail
    refine (refIn_any n most _).mono ?_
    rintro e w2 ⟨rfl, rfl⟩
    go_wp2
    go_ret
    exact ⟨rfl, hB0⟩

end Go.Proofs.YthfhdighniiodaaDoor
