/-
  Layer 5, walks: attributes are read. Conditions: a reader at a block of its own; texts are machine texts.
-/
import Derived.Test.YtfjflkmhhbhceaaGreatDoorW07
import Derived.Test.YtfjflkmhhbhceaaGreatDoorW02
import Derived.Test.YtfjflkmhhbhceaaGreatDoorW04
import Derived.Test.YtfjflkmhhbhceaaGreatDoorProg
import Derived.Test.YtfjflkmhhbhceaaGreatDoorW06
import Derived.Deep.Light
namespace Go.Proofs.YtfjflkmhhbhceaaGreatDoor
open Go.RowKit
attribute [local go_sem ↓] Go.wp_at_zero Go.wp_at_succ
attribute [local go_sem] rowAt_ptr rowOf_drew rowOf_drewN rowOf_alloc_past rowOf_new
theorem ldAttrR {ρ : Operand → Value} {w : World} {dst : Option Tmp} {ty : TypeId} {pos : String} {after : Array Edge} {g : Option (Nat × Bool)} {x : Operand} (h : (rowAt w 10 (ρ x)).isSome = true) :
    (execOp ρ ⟨dst, .load 43 x, ty, pos, after, g⟩).run Tryz.prog w = .ok (.value (.agg ((rowAt w 10 (ρ x)).getD #[]))) w := ex_load 43 10 Tryz.underlying43 rfl (by kernel_rfl) h
attribute [local go_sem ↓] ldAttrR

def rOne (wide : Bool) (r : Rs) : Nat × Rs := if wide then rU64 r else rU32 r
def rMany : List Bool → Rs → List Nat × Rs
  | [], r => ([], r)
  | b :: bs, r => ((rOne b r).1 :: (rMany bs (rOne b r).2).1, (rMany bs (rOne b r).2).2)
theorem rMany_snoc (l : List Bool) (b : Bool) (r : Rs) : rMany (l ++ [b]) r = ((rMany l r).1 ++ [(rOne b (rMany l r).2).1], (rOne b (rMany l r).2).2) := by
  induction l generalizing r with
  | nil => rfl
  | cons c l ih => simp [rMany, ih]
theorem rMany_length (l : List Bool) (r : Rs) : (rMany l r).1.length = l.length := by
  induction l generalizing r with
  | nil => rfl
  | cons c l ih => simp [rMany, ih]
theorem rOne_len {b : Bool} {r : Rs} (h : r.s.length ≤ 9223372036854775807) : (rOne b r).2.s.length ≤ r.s.length := by
  cases b
  · exact rU32_len h
  · exact rU64_len h
theorem rMany_len (l : List Bool) (r : Rs) (h : r.s.length ≤ 9223372036854775807) : (rMany l r).2.s.length ≤ r.s.length := by
  induction l generalizing r with
  | nil => exact Nat.le_refl _
  | cons c l ih => exact Nat.le_trans (ih _ (Nat.le_trans (rOne_len h) h)) (rOne_len h)
def natsV (l : List Nat) : List Value := l.map fun n : Nat => Value.int .i64 (n : Int)
def attrW : List Bool := [false, false, false, false, false, true, false, true, true, true]
/-- the attributes' cells when k of them were read -/
def attrK (r : Rs) (k : Nat) : List Value := natsV (rMany (attrW.take k) r).1 ++ List.replicate (10 - k) (.int .i64 0)
def restK (r : Rs) (k : Nat) : Rs := (rMany (attrW.take k) r).2
theorem attrK_len (r : Rs) {k : Nat} (hk : k ≤ 10) : (attrK r k).length = 10 := by
  simp only [attrK, natsV, List.length_append, List.length_map, rMany_length, List.length_take, List.length_replicate, attrW, List.length_cons, List.length_nil]
  omega
theorem attrK_succ (r : Rs) {k : Nat} {b : Bool} (hk : k < 10) (hb : attrW[k]? = some b) : (attrK r k).set k (.int .i64 (rOne b (restK r k)).1) = attrK r (k + 1) ∧ restK r (k + 1) = (rOne b (restK r k)).2 := by
  have ht : attrW.take (k + 1) = attrW.take k ++ [b] := by
    rw [List.take_add_one, hb]; rfl
  have hl : (natsV (rMany (attrW.take k) r).1).length = k := by
    simp only [natsV, List.length_map, rMany_length, List.length_take, attrW, List.length_cons, List.length_nil]; omega
  unfold attrK restK
  rw [ht, rMany_snoc]
  refine ⟨?_, rfl⟩
  rw [List.set_append_right _ _ (by omega), hl, Nat.sub_self, show 10 - k = (10 - (k + 1)) + 1 by omega, List.replicate_succ, List.set_cons_zero]
  simp [natsV]
theorem attrK_cell {w : World} {b : Nat} {T : TypeId} {r : Rs} {k j : Nat} (h : Blk w b T (attrK r k)) (hk : k ≤ 10) (hj : j < 10) : ∃ v, w.cell? ⟨b, j, none⟩ = some v := by
  rw [h.cell]
  exact ⟨_, List.getElem?_eq_getElem (by rw [attrK_len r hk]; exact hj)⟩
def attrOf (l : List Nat) : Attr := ⟨l.getD 0 0, l.getD 1 0, l.getD 2 0, l.getD 3 0, l.getD 4 0, l.getD 5 0, l.getD 6 0, l.getD 7 0, l.getD 8 0, l.getD 9 0⟩
theorem attrOf_vals (l : List Nat) (h : l.length = 10) : (attrOf l).vals = natsV l := by
  match l, h with
  | [a, b, c, d, e, f, g, i, j, k], _ => rfl
def rAttr (r : Rs) : Attr × Rs := (attrOf (rMany attrW r).1, (rMany attrW r).2)
theorem attrK_ten (r : Rs) : attrK r 10 = (rAttr r).1.vals ∧ restK r 10 = (rAttr r).2 := by
  refine ⟨?_, rfl⟩
  unfold attrK rAttr
  rw [attrOf_vals _ (rMany_length _ _), show attrW.take 10 = attrW from rfl]
  simp
theorem rAttr_len {r : Rs} (h : r.s.length ≤ 9223372036854775807) : (rAttr r).2.s.length ≤ r.s.length := rMany_len _ _ h
theorem restK_len {r : Rs} (k : Nat) (h : r.s.length ≤ 9223372036854775807) : (restK r k).s.length ≤ 9223372036854775807 := Nat.le_trans (rMany_len _ _ h) h
def fieldPtrs (b : Nat) (l : List Nat) : List Value := l.map fun k => .pointer (some ⟨b, k, none⟩)
theorem fieldPtr_at {w : World} {h b : Nat} {T : TypeId} {l : List Nat} (hB : Blk w h T (fieldPtrs b l)) {k : Nat} (hk : k < l.length) : w.cell? ⟨h, k, none⟩ = some (.pointer (some ⟨b, l[k], none⟩)) := by
  rw [hB.cell]; simp [fieldPtrs, hk]

def zeroA : List Value := [.int .i64 0, .int .i64 0, .int .i64 0, .int .i64 0, .int .i64 0, .int .i64 0, .int .i64 0, .int .i64 0, .int .i64 0, .int .i64 0]
/-- k numbers were read: the reader, the attributes' box, the result's -/
structure RdA (g : Nat) (r : Rs) (w : World) (k : Nat) (wx : World) : Prop where
  R : Reads g (restK r k) w wx
  A : Blk wx (w.heap.size + 1) 43 (attrK r k)
  Z : Blk wx w.heap.size 43 zeroA
  n : g < w.heap.size
theorem RdA.start (g : Nat) (r : Rs) (w : World) (hR : Rd w g r) : RdA g r w 0 ((w.alloc (.cells zeroA.toArray 43)).alloc (.cells zeroA.toArray 43)) := by
  have b0 := Blk.new w 43 zeroA
  have B0 : Below w.heap.size w (w.alloc (.cells zeroA.toArray 43)) := (Below.refl _ _).alloc (Nat.le_refl _) _
  have e0 : (w.alloc (.cells zeroA.toArray 43)).heap.size = w.heap.size + 1 := by simp
  generalize w.alloc (.cells zeroA.toArray 43) = w0 at *
  have b1 := Blk.new w0 43 zeroA
  rw [e0] at b1
  exact ⟨Reads.behind (B0.alloc B0.size _) (Reads.refl (hR.stays (B0.alloc B0.size _))), b1, b0.alloc _, hR.lt⟩
theorem RdA.alloc {g : Nat} {r : Rs} {w wx : World} {k : Nat} (h : RdA g r w k wx) (o : Obj) : RdA g r w k (wx.alloc o) :=
  ⟨h.R.new ((Below.refl _ _).alloc (Nat.le_refl _) o), h.A.alloc o, h.Z.alloc o, h.n⟩
theorem RdA.step {g : Nat} {r : Rs} {w wx wy : World} {k : Nat} {b : Bool} (h : RdA g r w k wx) (hk : k < 10) (hb : attrW[k]? = some b) (hQ : Reads g (rOne b (restK r k)).2 wx wy) :
    RdA g r w (k + 1) (wy.setCell ⟨w.heap.size + 1, k, none⟩ (.int .i64 (rOne b (restK r k)).1)) := by
  obtain ⟨e1, e2⟩ := attrK_succ r hk hb
  have hn := h.n
  refine ⟨⟨⟨?_, ?_⟩, ?_⟩, ?_, ?_, h.n⟩
  · rw [e2]; exact hQ.1.1.far (p := ⟨w.heap.size + 1, k, none⟩) (by simp; omega) _
  · rw [e2]; exact hQ.1.2
  · exact (h.R.2.then_ hQ.2).setCell_ (.inr (by omega)) _
  · have := (hQ.keeps h.A (by omega)).set_ k (.int .i64 (rOne b (restK r k)).1)
    rw [e1] at this
    exact this
  · exact (hQ.keeps h.Z (by omega)).far (p := ⟨w.heap.size + 1, k, none⟩) (by simp) _
theorem RdA.cell {g : Nat} {r : Rs} {w wx wy : World} {k : Nat} {r' : Rs} (h : RdA g r w k wx) (hk : k < 10) (hQ : Reads g r' wx wy) : ∃ v, wy.cell? ⟨w.heap.size + 1, k, none⟩ = some v ∧ wy.frozen? ⟨w.heap.size + 1, k, none⟩ = false := by
  have hn := h.n
  have hb := hQ.keeps h.A (by omega)
  obtain ⟨v, hv⟩ := attrK_cell hb (by omega) hk
  exact ⟨v, hv, hb.frozen _⟩
/-- the pointers' row stands -/
theorem RdA.row {g : Nat} {r : Rs} {w wx wy : World} {k j h0 : Nat} {T : TypeId} {cs : List Value} {r' : Rs} (_h : RdA g r w k wx) (hB : Blk wx h0 T cs) (hh : h0 ≠ w.heap.size + 1) (hg : h0 ≠ g) (hQ : Reads g r' wx wy) (v : Value) : Blk (wy.setCell ⟨w.heap.size + 1, j, none⟩ v) h0 T cs :=
  (hQ.keeps hB hg).far (p := ⟨w.heap.size + 1, j, none⟩) hh v

set_option maxRecDepth 20000 in
set_option maxHeartbeats 3200000 in
theorem attrRead_any (g : Nat) (r : Rs) (w : World) (hR : Rd w g r) (hl : r.s.length ≤ 9223372036854775807) :
    Calls Tryz.prog 207 #[.pointer (some ⟨g, 0, none⟩)] w (Gave g (rAttr r).2 (.agg (rAttr r).1.vals.toArray) w) := by
  have hS := RdA.start g r w hR
  have e1 : ((w.alloc (.cells zeroA.toArray 43)).alloc (.cells zeroA.toArray 43)).heap.size = w.heap.size + 1 + 1 := by simp
  have hP := Blk.new ((w.alloc (.cells zeroA.toArray 43)).alloc (.cells zeroA.toArray 43)) 277 (fieldPtrs (w.heap.size + 1) [0, 1, 2, 3, 4])
  rw [e1] at hP
  clear e1
  have hg := hR.lt
  have hlr := fun k => restK_len (r := r) k hl
  clear hR
  have HL := Lib.hid hlr
  clear hlr
  go_enter Tryz.func207, Tryz.ntmps207
  go_wp2
  change Code.wp _ _ _ _ (((w.alloc (.cells zeroA.toArray 43)).alloc (.cells zeroA.toArray 43)).alloc (.cells (fieldPtrs (w.heap.size + 1) [0, 1, 2, 3, 4]).toArray 277))
  have hS := hS.alloc (.cells (fieldPtrs (w.heap.size + 1) [0, 1, 2, 3, 4]).toArray 277)
  generalize ((w.alloc (.cells zeroA.toArray 43)).alloc (.cells zeroA.toArray 43)).alloc (.cells (fieldPtrs (w.heap.size + 1) [0, 1, 2, 3, 4]).toArray 277) = W0 at *
  go_loopw [15] (fun i wr => ∃ k : Nat, k ≤ 5 ∧ i = .int .i64 k ∧ RdA g r w k wr ∧ Blk wr (w.heap.size + 1 + 1) 277 (fieldPtrs (w.heap.size + 1) [0, 1, 2, 3, 4])) (fun i _ => 5 - (intOf i).toNat)
  case atStart => exact ⟨0, by omega, rfl, hS, hP⟩
  case round =>
    clear hS hP
    obtain ⟨k, hk, rfl, hS, hP⟩ := hrel
    by_cases hlt : k < 5
    · have hp := fieldPtr_at hP (k := k) (by simpa using hlt)
      have hkk : ([0, 1, 2, 3, 4] : List Nat)[k]'(by simpa using hlt) = k := by
        match k, hlt with
        | 0, _ | 1, _ | 2, _ | 3, _ | 4, _ => rfl
      have hw : attrW[k]? = some false := by
        match k, hlt with
        | 0, _ | 1, _ | 2, _ | 3, _ | 4, _ => rfl
      rw [hkk] at hp
      have HW := Lib.hid hw
      clear hkk hw
      go_wp2_with fail
      refine (rU32_any g (restK r k) _ hS.R.1 (HL.out k)).mono ?_
      rintro e w4 ⟨rfl, hQ⟩
      obtain ⟨v, hc, hf⟩ := hS.cell (by omega) hQ
      have HS := Lib.hid (hS.step (by omega) HW.out hQ)
      have HP := Lib.hid (hS.row hP (by omega) (by omega) hQ (.int .i64 (rOne false (restK r k)).1) (j := k))
      clear hS hP hQ hp
      go_wp2
      go_roundw
      case rel => exact ⟨k + 1, by omega, by go_num, HS.out, HP.out⟩
      case measure => simp [intOf]; omega
    · obtain rfl : k = 5 := by omega
      clear hP
      go_wp2_with fail
      refine (rU64_any g (restK r 5) _ hS.R.1 (HL.out 5)).mono ?_
      rintro e w4 ⟨rfl, hQ⟩
      obtain ⟨v, hc, hf⟩ := hS.cell (by omega) hQ
      have hS5 := hS.step (by omega) (b := true) rfl hQ
      clear hS hQ
      change RdA g r w 6 _ at hS5
      go_wp2_with fail
      change Calls _ _ _ (w4.setCell ⟨w.heap.size + 1, 5, none⟩ (.int .i64 (rOne true (restK r 5)).1)) _
      generalize w4.setCell ⟨w.heap.size + 1, 5, none⟩ (.int .i64 (rOne true (restK r 5)).1) = w5 at *
      clear hc hf
      refine (rU32_any g (restK r 6) _ hS5.R.1 (HL.out 6)).mono ?_
      rintro e w6 ⟨rfl, hQ⟩
      obtain ⟨v2, hc, hf⟩ := hS5.cell (by omega) hQ
      have hS6 := hS5.step (by omega) (b := false) rfl hQ
      clear hS5 hQ
      change RdA g r w 7 _ at hS6
      go_wp2
      change Code.wp _ _ _ _ ((w6.setCell ⟨w.heap.size + 1, 6, none⟩ (.int .i64 (rOne false (restK r 6)).1)).alloc (.cells (fieldPtrs (w.heap.size + 1) [7, 8, 9]).toArray 277))
      have hsz : (w6.setCell ⟨w.heap.size + 1, 6, none⟩ (.int .i64 (rOne false (restK r 6)).1)).heap.size = w6.heap.size := by simp [World.setCell]
      have hP := Blk.new (w6.setCell ⟨w.heap.size + 1, 6, none⟩ (.int .i64 (rOne false (restK r 6)).1)) 277 (fieldPtrs (w.heap.size + 1) [7, 8, 9])
      rw [hsz] at hP
      have hS := hS6.alloc (.cells (fieldPtrs (w.heap.size + 1) [7, 8, 9]).toArray 277)
      have hA6 := hS6.A.lt
      rw [hsz] at hA6
      clear hS6 hc hf hsz
      generalize (w6.setCell ⟨w.heap.size + 1, 6, none⟩ (.int .i64 (rOne false (restK r 6)).1)).alloc (.cells (fieldPtrs (w.heap.size + 1) [7, 8, 9]).toArray 277) = W7 at *
      go_loopw [35] (fun i wr => ∃ k : Nat, k ≤ 3 ∧ i = .int .i64 k ∧ RdA g r w (7 + k) wr ∧ Blk wr w6.heap.size 277 (fieldPtrs (w.heap.size + 1) [7, 8, 9])) (fun i _ => 3 - (intOf i).toNat)
      case atStart => exact ⟨0, by omega, rfl, hS, hP⟩
      case round =>
        clear hS hP
        obtain ⟨k, hk, rfl, hS, hP⟩ := hrel
        by_cases hlt : k < 3
        · have hp := fieldPtr_at hP (k := k) (by simpa using hlt)
          have hkk : ([7, 8, 9] : List Nat)[k]'(by simpa using hlt) = 7 + k := by
            match k, hlt with
            | 0, _ | 1, _ | 2, _ => rfl
          have hw : attrW[7 + k]? = some true := by
            match k, hlt with
            | 0, _ | 1, _ | 2, _ => rfl
          rw [hkk] at hp
          have HW := Lib.hid hw
          clear hkk hw
          go_wp2_with fail
          refine (rU64_any g (restK r (7 + k)) _ hS.R.1 (HL.out (7 + k))).mono ?_
          rintro e w8 ⟨rfl, hQ⟩
          obtain ⟨v, hc, hf⟩ := hS.cell (by omega) hQ
          have HS := Lib.hid (hS.step (by omega) HW.out hQ)
          have HP := Lib.hid (hS.row hP (by omega) (by omega) hQ (.int .i64 (rOne true (restK r (7 + k))).1) (j := 7 + k))
          clear hS hP hQ hp
          go_wp2
          go_roundw
          case rel => exact ⟨k + 1, by omega, by go_num, HS.out, HP.out⟩
          case measure => simp [intOf]; omega
        · obtain rfl : k = 3 := by omega
          have hS10 : RdA g r w 10 wr := hS
          obtain ⟨e1, e2⟩ := attrK_ten r
          have hA := hS10.A
          have hR := hS10.R
          rw [e1] at hA
          rw [e2] at hR
          have hZ := hS10.Z
          have rA : rowOf wr (w.heap.size + 1) 0 10 = some (rAttr r).1.vals.toArray := hA.row 0 10 (by simp [Attr.len])
          have HQ := Lib.hid (Reads.lay (cs := (rAttr r).1.vals) hR hZ rfl (by omega) (Nat.le_refl _))
          clear hS10 hA hR hS hP e1 e2
          go_wp2_with (first | (refine wpList_store_whole (by rfl) 43 _ _ (by rfl) w.heap.size (rAttr r).1.vals _ hZ (by rfl) (by rfl) (by rfl) (by kernel_rfl) (Attr.one _) ?_) | fail)
          refine ret_cells w.heap.size 0 (rAttr r).1.vals Tryz.results207 Tryz.underlying43 rfl (by kernel_rfl) rfl HQ.out.2.range rfl ?_
          exact ⟨rfl, HQ.out.1⟩
end Go.Proofs.YtfjflkmhhbhceaaGreatDoor

/-
  Layer 1, walks: the reference's reader takes numbers. Conditions: a reader at a block of its own; texts are machine texts.
-/
namespace Go.Proofs.YtfjflkmhhbhceaaGreatDoor
open Go.RowKit
attribute [local go_sem ↓] Go.wp_at_zero Go.wp_at_succ
attribute [local go_sem] rowAt_ptr rowOf_drew rowOf_drewN rowOf_alloc_past rowOf_new
attribute [local go_sem] bs_get

/-- the reference's reader at block g -/
def RdF (w : World) (g : Nat) (r : Rs) : Prop :=
  ∃ (S : List UInt8) (at_ : Nat), Blk w g 131 [.string (bs S), .int .i64 at_, .int .i64 r.e] ∧ at_ ≤ S.length ∧ S.length ≤ 1000000000000000000 ∧ (r.e = 0 → r.s = S.drop at_) ∧ (r.e ≠ 0 → r.s = [])
def ReadsF (g : Nat) (r : Rs) (w w' : World) : Prop := RdF w' g r ∧ Touch (fun k => k = g) w w'
def GaveF (g : Nat) (r : Rs) (v : Value) (w : World) (e : Ending) (w' : World) : Prop := e = .returned v ∧ ReadsF g r w w'
theorem RdF.lt {w : World} {g : Nat} {r : Rs} (h : RdF w g r) : g < w.heap.size := by obtain ⟨_, _, h, _⟩ := h; exact h.lt
theorem RdF.touch {w w' : World} {g : Nat} {r : Rs} {F : Nat → Prop} (h : RdF w g r) (ht : Touch F w w') (hn : ¬ F g) : RdF w' g r := by
  obtain ⟨S, a, h, k⟩ := h
  exact ⟨S, a, h.touch ht hn, k⟩
theorem RdF.stays {w w' : World} {g : Nat} {r : Rs} (h : RdF w g r) (hb : Below w.heap.size w w') : RdF w' g r := h.touch (Touch.of_below hb (fun _ => False)) (fun h => h)
theorem ReadsF.refl {w : World} {g : Nat} {r : Rs} (h : RdF w g r) : ReadsF g r w w := ⟨h, Touch.refl _ _⟩
theorem ReadsF.trans {a b c : World} {g : Nat} {r r' : Rs} (h : ReadsF g r a b) (k : ReadsF g r' b c) : ReadsF g r' a c := ⟨k.1, h.2.then_ k.2⟩
theorem ReadsF.behind {a b c : World} {g : Nat} {r : Rs} (h : Below a.heap.size a b) (k : ReadsF g r b c) : ReadsF g r a c := ⟨k.1, (Touch.of_below h _).then_ k.2⟩
theorem ReadsF.new {a b c : World} {g : Nat} {r : Rs} (h : ReadsF g r a b) (k : Below b.heap.size b c) : ReadsF g r a c := ⟨h.1.stays k, h.2.then_ (Touch.of_below k _)⟩
theorem ReadsF.keeps {a b : World} {g : Nat} {r : Rs} (h : ReadsF g r a b) {k : Nat} {T : TypeId} {cs : List Value} (hb : Blk a k T cs) (hk : k ≠ g) : Blk b k T cs := hb.touch h.2 hk
theorem ReadsF.below {a b : World} {g B : Nat} {r : Rs} (h : ReadsF g r a b) (hg : B ≤ g) (hB : B ≤ a.heap.size) : Below B a b := h.2.below (fun k _ hk => by subst hk; exact hg) hB
theorem ReadsF.lay {w wx : World} {g b : Nat} {r : Rs} {T : TypeId} {old cs : List Value} (h : ReadsF g r w wx) (hb : Blk wx b T old) (hl : old.length = cs.length) (hne : b ≠ g) (hB : w.heap.size ≤ b) : ReadsF g r w (wx.setCells b 0 cs) ∧ Blk (wx.setCells b 0 cs) b T cs :=
  ⟨⟨h.1.touch (Touch.setCells (F := fun k => k = b) (.inl rfl) cs 0 wx (Touch.refl _ _)) (fun hh => hne hh.symm), Touch.setCells (.inr hB) cs 0 wx h.2⟩, hb.whole hl⟩
theorem ReadsF.err {wx : World} {g : Nat} {r : Rs} (h : RdF wx g r) : wx.cell? ⟨g, 2, none⟩ = some (.int .i64 r.e) := by
  obtain ⟨S, a, h, _⟩ := h
  rw [h.cell]; rfl

theorem beVal_take_le {l : List UInt8} {i k : Nat} (h : i ≤ k) : beVal (l.take i) ≤ beVal (l.take k) := by
  induction k with
  | zero => obtain rfl : i = 0 := by omega
            exact Nat.le_refl _
  | succ k ih =>
    rcases Nat.lt_or_ge i (k + 1) with hlt | hge
    · refine Nat.le_trans (ih (by omega)) ?_
      rcases Nat.lt_or_ge k l.length with hk | hk
      · rw [List.take_succ_eq_append_getElem hk, beVal_snoc]; omega
      · rw [List.take_of_length_le hk, List.take_of_length_le (by omega)]; exact Nat.le_refl _
    · obtain rfl : i = k + 1 := by omega
      exact Nat.le_refl _
theorem beVal_top {b : UInt8} {l : List UInt8} (h : l.length = 7) : 9223372036854775808 ≤ beVal (b :: l) ↔ 127 < b.toNat := by
  have := beVal_lt l
  rw [h] at this
  simp only [beVal, h]
  omega
set_option maxRecDepth 20000 in
set_option maxHeartbeats 1600000 in
theorem refU_err (g k : Nat) (r : Rs) (w : World) (hR : RdF w g r) (he : r.e ≠ 0) :
    Calls Tryz.prog 55 #[.pointer (some ⟨g, 0, none⟩), .int .i64 k] w fun e w' => e = .returned (.int .i64 0) ∧ w = w' := by
  have hc := ReadsF.err hR
  have he' : (r.e != 0) = true := by simpa using he
  clear he hR
  go_enter Tryz.func55, Tryz.ntmps55
  go_wp2
  go_ret
  exact ⟨rfl, rfl⟩

set_option maxRecDepth 20000 in
set_option maxHeartbeats 1600000 in
theorem refU_short (g k : Nat) (s : List UInt8) (w : World) (hR : RdF w g ⟨s, 0⟩) (_hk : k ≤ 8) (hs : s.length < k) :
    Calls Tryz.prog 55 #[.pointer (some ⟨g, 0, none⟩), .int .i64 k] w (GaveF g (Rs.fail 10) (.int .i64 0) w) := by
  obtain ⟨S, a, hB, ha, hS, h0, -⟩ := hR
  have h0 := h0 rfl
  simp only at h0
  subst h0
  simp only [List.length_drop] at hs
  have hc := hB.cell
  have hf := hB.frozen
  have hsz := bs_size S
  have hw1 : IntKind.i64.wrap ((S.length : Int) - (a : Int)) = (S.length : Int) - a := IntWalk.i64_in _ (by omega)
  have HB := Lib.hid hB
  clear hB
  go_enter Tryz.func55, Tryz.ntmps55
  go_wp2
  go_quiet (fail)
  go_wp2
  go_ret
  exact ⟨rfl, ⟨S, a, (HB.out.drewN nq).set_ 2 (.int .i64 10), ha, hS, (fun h => by cases h), fun _ => rfl⟩, ((Touch.refl (fun k => k = g) w).drewN nq).setCell_ (g := g) (o := 2) (.inl rfl) (.int .i64 10)⟩

set_option maxRecDepth 20000 in
set_option maxHeartbeats 1600000 in
theorem refU_range (g : Nat) (s : List UInt8) (w : World) (hR : RdF w g ⟨s, 0⟩) (hs : 8 ≤ s.length) (hv : 9223372036854775808 ≤ beVal (s.take 8)) :
    Calls Tryz.prog 55 #[.pointer (some ⟨g, 0, none⟩), .int .i64 8] w (GaveF g (Rs.fail 3) (.int .i64 0) w) := by
  obtain ⟨S, a, hB, ha, hS, h0, -⟩ := hR
  have h0 := h0 rfl
  simp only at h0
  subst h0
  simp only [List.length_drop] at hs
  have hc := hB.cell
  have hf := hB.frozen
  have hsz := bs_size S
  have hw1 : IntKind.i64.wrap ((S.length : Int) - (a : Int)) = (S.length : Int) - a := IntWalk.i64_in _ (by omega)
  have hal : a < S.length := by omega
  have htop : 127 < ((S[a]'hal).toNat : Int) := by
    rw [List.drop_eq_getElem_cons hal, List.take_succ_cons] at hv
    have := (beVal_top (by simp; omega)).1 hv
    omega
  have HB := Lib.hid hB
  clear hB hv
  go_enter Tryz.func55, Tryz.ntmps55
  go_wp2
  go_quiet (fail)
  go_wp2
  go_quiet (fail)
  go_wp2
  go_ret
  exact ⟨rfl, ⟨S, a, (HB.out.drewN _).set_ 2 (.int .i64 3), ha, hS, (fun h => by cases h), fun _ => rfl⟩, ((Touch.refl (fun k => k = g) w).drewN _).setCell_ (g := g) (o := 2) (.inl rfl) (.int .i64 3)⟩

set_option maxRecDepth 20000 in
set_option maxHeartbeats 3200000 in
theorem refU_ok (g k : Nat) (s : List UInt8) (w : World) (hR : RdF w g ⟨s, 0⟩) (hk : k = 4 ∨ k = 8) (hs : k ≤ s.length) (hv : beVal (s.take k) < 9223372036854775808) :
    Calls Tryz.prog 55 #[.pointer (some ⟨g, 0, none⟩), .int .i64 k] w (GaveF g ⟨s.drop k, 0⟩ (.int .i64 (beVal (s.take k))) w) := by
  obtain ⟨S, a, hB, ha, hS, h0, -⟩ := hR
  have h0 := h0 rfl
  simp only at h0
  subst h0
  simp only [List.length_drop] at hs
  have hc := hB.cell
  have hf := hB.frozen
  have hsz := bs_size S
  have hw1 : IntKind.i64.wrap ((S.length : Int) - (a : Int)) = (S.length : Int) - a := IntWalk.i64_in _ (by omega)
  have hw2 : IntKind.i64.wrap ((a : Int) + (k : Int)) = ((a + k : Nat) : Int) := by rw [IntWalk.i64_in _ (by omega)]; omega
  have hal : a < S.length := by omega
  have htop : k = 8 → ¬ 127 < ((S[a]'hal).toNat : Int) := fun h8 => by
    subst h8
    rw [List.drop_eq_getElem_cons hal, List.take_succ_cons] at hv
    have := (beVal_top (b := S[a]'hal) (l := (S.drop (a + 1)).take 7) (by simp; omega))
    omega
  have HB := Lib.hid hB
  have HV := Lib.hid hv
  have HT := Lib.hid htop
  clear hB hv htop
  rcases hk with rfl | rfl
  · go_enter Tryz.func55, Tryz.ntmps55
    go_wp2
    go_quiet (fail)
    go_wp2
    go_quiet (fail)
    go_wp2
    go_loopw [5, 6] (fun n i wr => ∃ j : Nat, j ≤ 4 ∧ i = .int .i64 j ∧ n = .int .i64 (beVal ((S.drop a).take j)) ∧ Blk wr g 131 [.string (bs S), .int .i64 a, .int .i64 0] ∧ Touch (fun k => k = g) w wr) (fun _ i _ => 4 - (intOf i).toNat)
    case atStart => exact ⟨0, by omega, rfl, rfl, (HB.out.drewN _).drewN _, ((Touch.refl _ w).drewN _).drewN _⟩
    case round =>
      obtain ⟨j, hj, rfl, rfl, hB, hT⟩ := hrel
      have hc := hB.cell
      have hf := hB.frozen
      by_cases hlt : j < 4
      · have hja : a + j < S.length := by omega
        have hjd : j < (S.drop a).length := by simp; omega
        have HS := Lib.hid (show beVal ((S.drop a).take (j + 1)) = beVal ((S.drop a).take j) * 256 + (S[a + j]'hja).toNat by rw [List.take_succ_eq_append_getElem hjd, beVal_snoc]; simp)
        have hle := beVal_take_le (l := S.drop a) (i := j + 1) (k := 4) (by omega)
        have hmax : 256 * beVal ((S.drop a).take j) + (S[a + j]'hja).toNat < 9223372036854775808 := by have := HV.out; have := HS.out; omega
        generalize beVal ((S.drop a).take j) = v at *
        have hcb : (S[a + j]'hja).toNat < 256 := (S[a + j]'hja).toNat_lt
        have e1 : IntKind.i64.wrap ((a : Int) + (j : Int)) = (a : Int) + (j : Int) := IntWalk.i64_in _ (by omega)
        have e5 : (0 : Int) ≤ (a : Int) + (j : Int) := by omega
        have e6 : ((a : Int) + (j : Int)).toNat = a + j := by omega
        have e7 : (a : Int) + (j : Int) < (S.length : Int) := by omega
        have e2 : IntKind.i64.wrap (256 * (v : Int)) = 256 * (v : Int) := IntWalk.i64_in _ (by omega)
        have e4 : IntKind.i64.wrap ((S[a + j]'hja).toNat : Int) = ((S[a + j]'hja).toNat : Int) := IntWalk.i64_in _ (by omega)
        have e3 : IntKind.i64.wrap (256 * (v : Int) + ((S[a + j]'hja).toNat : Int)) = 256 * (v : Int) + ((S[a + j]'hja).toNat : Int) := IntWalk.i64_in _ (by omega)
        clear hle hmax hjd
        go_wp2
        go_quiet (fail)
        clear e1 e2 e3 e4
        go_wp2
        go_roundw
        case rel => exact ⟨j + 1, by omega, by go_num, by rw [HS.out]; exact congrArg (Value.int .i64) (by omega), hB.drewN _, hT.drewN _⟩
        case measure => simp [intOf]; omega
      · obtain rfl : j = 4 := by omega
        go_wp2
        go_ret
        refine ⟨rfl, ⟨S, a + 4, hB.set_ 1 (.int .i64 ((a + 4 : Nat) : Int)), by omega, hS, (fun _ => by simp), fun h => absurd rfl h⟩, hT.setCell_ (g := g) (o := 1) (.inl rfl) (.int .i64 ((a + 4 : Nat) : Int))⟩
  · have ht := HT.out rfl
    have ht' : ((S[a]'hal).toNat : Int) ≤ 127 := by omega
    have hd : decide (127 < ((S[a]'hal).toNat : Int)) = false := by simpa using ht
    go_enter Tryz.func55, Tryz.ntmps55
    go_wp2
    go_quiet (fail)
    go_wp2
    go_quiet (fail)
    go_wp2
    go_loopw [5, 6] (fun n i wr => ∃ j : Nat, j ≤ 8 ∧ i = .int .i64 j ∧ n = .int .i64 (beVal ((S.drop a).take j)) ∧ Blk wr g 131 [.string (bs S), .int .i64 a, .int .i64 0] ∧ Touch (fun k => k = g) w wr) (fun _ i _ => 8 - (intOf i).toNat)
    case atStart => exact ⟨0, by omega, rfl, rfl, (HB.out.drewN _).drewN _, ((Touch.refl _ w).drewN _).drewN _⟩
    case round =>
      obtain ⟨j, hj, rfl, rfl, hB, hT⟩ := hrel
      have hc := hB.cell
      have hf := hB.frozen
      by_cases hlt : j < 8
      · have hja : a + j < S.length := by omega
        have hjd : j < (S.drop a).length := by simp; omega
        have HS := Lib.hid (show beVal ((S.drop a).take (j + 1)) = beVal ((S.drop a).take j) * 256 + (S[a + j]'hja).toNat by rw [List.take_succ_eq_append_getElem hjd, beVal_snoc]; simp)
        have hle := beVal_take_le (l := S.drop a) (i := j + 1) (k := 8) (by omega)
        have hmax : 256 * beVal ((S.drop a).take j) + (S[a + j]'hja).toNat < 9223372036854775808 := by have := HV.out; have := HS.out; omega
        generalize beVal ((S.drop a).take j) = v at *
        have hcb : (S[a + j]'hja).toNat < 256 := (S[a + j]'hja).toNat_lt
        have e1 : IntKind.i64.wrap ((a : Int) + (j : Int)) = (a : Int) + (j : Int) := IntWalk.i64_in _ (by omega)
        have e5 : (0 : Int) ≤ (a : Int) + (j : Int) := by omega
        have e6 : ((a : Int) + (j : Int)).toNat = a + j := by omega
        have e7 : (a : Int) + (j : Int) < (S.length : Int) := by omega
        have e2 : IntKind.i64.wrap (256 * (v : Int)) = 256 * (v : Int) := IntWalk.i64_in _ (by omega)
        have e4 : IntKind.i64.wrap ((S[a + j]'hja).toNat : Int) = ((S[a + j]'hja).toNat : Int) := IntWalk.i64_in _ (by omega)
        have e3 : IntKind.i64.wrap (256 * (v : Int) + ((S[a + j]'hja).toNat : Int)) = 256 * (v : Int) + ((S[a + j]'hja).toNat : Int) := IntWalk.i64_in _ (by omega)
        clear hle hmax hjd
        go_wp2
        go_quiet (fail)
        clear e1 e2 e3 e4
        go_wp2
        go_roundw
        case rel => exact ⟨j + 1, by omega, by go_num, by rw [HS.out]; exact congrArg (Value.int .i64) (by omega), hB.drewN _, hT.drewN _⟩
        case measure => simp [intOf]; omega
      · obtain rfl : j = 8 := by omega
        go_wp2
        go_ret
        refine ⟨rfl, ⟨S, a + 8, hB.set_ 1 (.int .i64 ((a + 8 : Nat) : Int)), by omega, hS, (fun _ => by simp), fun h => absurd rfl h⟩, hT.setCell_ (g := g) (o := 1) (.inl rfl) (.int .i64 ((a + 8 : Nat) : Int))⟩

/-- numbers of 32 and of 64 bits -/
theorem refU4_any (g : Nat) (r : Rs) (w : World) (hR : RdF w g r) : Calls Tryz.prog 55 #[.pointer (some ⟨g, 0, none⟩), .int .i64 4] w (GaveF g (rU32 r).2 (.int .i64 (rU32 r).1) w) := by
  unfold rU32
  by_cases he : r.e = 0
  · obtain ⟨s, e⟩ := r
    simp only at he
    subst he
    by_cases hs : s.length < 4
    · have : rNum 4 ⟨s, 0⟩ = (0, Rs.fail 10) := by simp [rNum, hs]
      rw [this]
      exact refU_short g 4 s w hR (by omega) hs
    · have : rNum 4 ⟨s, 0⟩ = (beVal (s.take 4), ⟨s.drop 4, 0⟩) := by simp [rNum, hs]
      rw [this]
      have hb := beVal_lt (s.take 4)
      rw [List.length_take, Nat.min_eq_left (by omega)] at hb
      exact refU_ok g 4 s w hR (.inl rfl) (by omega) (by omega)
  · have : rNum 4 r = (0, r) := by simp [rNum, he]
    rw [this]
    exact (refU_err g 4 r w hR he).mono fun e w' ⟨h1, h2⟩ => ⟨h1, by subst h2; exact ReadsF.refl hR⟩
theorem refU8_any (g : Nat) (r : Rs) (w : World) (hR : RdF w g r) : Calls Tryz.prog 55 #[.pointer (some ⟨g, 0, none⟩), .int .i64 8] w (GaveF g (rU64 r).2 (.int .i64 (rU64 r).1) w) := by
  by_cases he : r.e = 0
  · obtain ⟨s, e⟩ := r
    simp only at he
    subst he
    by_cases hs : s.length < 8
    · have : rU64 ⟨s, 0⟩ = (0, Rs.fail 10) := by simp [rU64, rNum, hs]
      rw [this]
      exact refU_short g 8 s w hR (by omega) hs
    · have h8 : rNum 8 ⟨s, 0⟩ = (beVal (s.take 8), ⟨s.drop 8, 0⟩) := by simp [rNum, hs]
      by_cases hv : 9223372036854775808 ≤ beVal (s.take 8)
      · have : rU64 ⟨s, 0⟩ = (0, Rs.fail 3) := by simp [rU64, h8, hv]
        rw [this]
        exact refU_range g s w hR (by omega) hv
      · have : rU64 ⟨s, 0⟩ = (beVal (s.take 8), ⟨s.drop 8, 0⟩) := by simp [rU64, h8, hv]
        rw [this]
        exact refU_ok g 8 s w hR (.inr rfl) (by omega) (by omega)
  · have : rU64 r = (0, r) := by simp [rU64, rNum, he]
    rw [this]
    exact (refU_err g 8 r w hR he).mono fun e w' ⟨h1, h2⟩ => ⟨h1, by subst h2; exact ReadsF.refl hR⟩

/-- the reference notes an error -/
theorem RdF.fail {w wx : World} {g : Nat} {r r' : Rs} (h : ReadsF g r w wx) (n : Int) (hn : n ≠ 0) (hr : r' = Rs.fail n) : ReadsF g r' w (wx.setCell ⟨g, 2, none⟩ (.int .i64 n)) := by
  subst hr
  obtain ⟨⟨S, a, hB, ha, hS, -, -⟩, hT⟩ := h
  exact ⟨⟨S, a, hB.set_ 2 (.int .i64 n), ha, hS, (fun h => absurd h hn), fun _ => rfl⟩, hT.setCell_ (.inl rfl) _⟩
theorem rU32_e {r : Rs} (h : (rU32 r).2.e ≠ 0) : (rU32 r).1 = 0 := by
  unfold rU32 rNum at *
  split at h <;> rename_i h1
  · simp [h1]
  · split at h <;> rename_i h2
    · simp [h1, h2]
    · exact absurd rfl h

set_option maxHeartbeats 1600000 in
theorem refTruthR_any (g : Nat) (r : Rs) (w : World) (hR : RdF w g r) : Calls Tryz.prog 110 #[.pointer (some ⟨g, 0, none⟩)] w (GaveF g (rBool r).2 (.bool (rBool r).1) w) := by
  by_cases hb : 1 < (rU32 r).1
  · have HN := Lib.hid (show rBool r = (false, Rs.fail 13) by simp [rBool, hb])
    have he : (rU32 r).2.e = 0 := Classical.byContradiction fun h => by have := rU32_e h; omega
    go_enter Tryz.func110, Tryz.ntmps110
    go_wp2_with fail
    refine (refU4_any g r _ hR).mono ?_
    rintro e w1 ⟨rfl, hQ⟩
    have hc : w1.cell? ⟨g, 2, none⟩ = some (.int .i64 0) := by have := ReadsF.err hQ.1; rw [he] at this; exact this
    have hf : w1.frozen? ⟨g, 2, none⟩ = false := by obtain ⟨_, _, h, _⟩ := hQ.1; exact h.frozen 2
    have HQ := Lib.hid (RdF.fail hQ 13 (by decide) (r' := Rs.fail 13) rfl)
    clear hQ he
    go_wp2
    go_ret
    rw [HN.out]
    exact ⟨rfl, HQ.out⟩
  · have HN := Lib.hid (show rBool r = ((rU32 r).1 == 1, (rU32 r).2) by simp [rBool, hb])
    go_enter Tryz.func110, Tryz.ntmps110
    go_wp2_with fail
    refine (refU4_any g r _ hR).mono ?_
    rintro e w1 ⟨rfl, hQ⟩
    have hc := ReadsF.err hQ.1
    go_wp2
    all_goals
      go_ret
      rw [HN.out]
      refine ⟨ret_bool ?_, hQ⟩
      go_light
      grind
end Go.Proofs.YtfjflkmhhbhceaaGreatDoor


/-
  Layers 1 and 5, walks: the reference's reader takes options, attributes, what was and is. Conditions: a reader at a block of its own.
-/
namespace Go.Proofs.YtfjflkmhhbhceaaGreatDoor
open Go.RowKit
attribute [local go_sem ↓] Go.wp_at_zero Go.wp_at_succ
attribute [local go_sem] rowAt_ptr rowOf_drew rowOf_drewN rowOf_alloc_past rowOf_new
attribute [local go_sem ↓] ldAttrR

attribute [local go_sem] Attr.at0 Attr.lat0 Attr.at1 Attr.lat1 Attr.at2 Attr.lat2 Attr.at3 Attr.lat3 Attr.at4 Attr.lat4 Attr.at5 Attr.lat5 Attr.at6 Attr.lat6 Attr.at7 Attr.lat7 Attr.at8 Attr.lat8 Attr.at9 Attr.lat9 Attr.sub0_10 Attr.lsub0_10 Attr.len Opt.at0 Opt.lat0 Opt.at1 Opt.lat1 Opt.sub0_2 Opt.lsub0_2 Opt.len Sett.at0 Sett.lat0 Sett.at1 Sett.lat1 Sett.at2 Sett.lat2 Sett.at3 Sett.lat3 Sett.at4 Sett.lat4 Sett.at5 Sett.lat5 Sett.at6 Sett.lat6 Sett.at7 Sett.lat7 Sett.at8 Sett.lat8 Sett.at9 Sett.lat9 Sett.sub0_10 Sett.lsub0_10 Sett.sub0_2 Sett.lsub0_2 Sett.sub2_2 Sett.lsub2_2 Sett.sub4_2 Sett.lsub4_2 Sett.sub6_2 Sett.lsub6_2 Sett.sub8_2 Sett.lsub8_2 Sett.len Post.at0 Post.lat0 Post.at1 Post.lat1 Post.at2 Post.lat2 Post.at3 Post.lat3 Post.at4 Post.lat4 Post.at5 Post.lat5 Post.at6 Post.lat6 Post.at7 Post.lat7 Post.at8 Post.lat8 Post.at9 Post.lat9 Post.at10 Post.lat10 Post.sub0_11 Post.lsub0_11 Post.sub1_10 Post.lsub1_10 Post.len Wcc.at0 Wcc.lat0 Wcc.at1 Wcc.lat1 Wcc.at2 Wcc.lat2 Wcc.at3 Wcc.lat3 Wcc.at4 Wcc.lat4 Wcc.at5 Wcc.lat5 Wcc.at6 Wcc.lat6 Wcc.at7 Wcc.lat7 Wcc.at8 Wcc.lat8 Wcc.at9 Wcc.lat9 Wcc.at10 Wcc.lat10 Wcc.at11 Wcc.lat11 Wcc.at12 Wcc.lat12 Wcc.sub0_13 Wcc.lsub0_13 Wcc.sub0_2 Wcc.lsub0_2 Wcc.sub2_11 Wcc.lsub2_11 Wcc.sub3_10 Wcc.lsub3_10 Wcc.len

set_option maxHeartbeats 1600000 in
theorem refOptR_any (g : Nat) (r : Rs) (w : World) (hR : RdF w g r) :
    Calls Tryz.prog 56 #[.pointer (some ⟨g, 0, none⟩)] w (GaveF g (rOpt r).2 (.agg (optV (rOpt r).1).toArray) w) := by
  have hb := Blk.new w 32 [.bool false, .int .i64 0]
  have hB : Below w.heap.size w (w.alloc (.cells #[.bool false, .int .i64 0] 32)) := (Below.refl _ _).alloc (Nat.le_refl _) _
  have hR1 := hR.stays hB
  have hne : w.heap.size ≠ g := Nat.ne_of_gt hR.lt
  clear hR
  cases hq : (rBool r).1
  · have HN := Lib.hid (show rOpt r = ((false, 0), (rBool r).2) by simp [rOpt, hq])
    go_enter Tryz.func56, Tryz.ntmps56
    go_wp2_with fail
    generalize w.alloc (.cells #[.bool false, .int .i64 0] 32) = w0 at *
    refine (refTruthR_any g r _ hR1).mono ?_
    rintro e w1 ⟨rfl, hQ⟩
    have hb1 := hQ.keeps hb hne
    have HQ := Lib.hid (ReadsF.lay (cs := optV (false, 0)) (ReadsF.behind hB hQ) hb1 rfl hne (Nat.le_refl _))
    clear hQ hb
    go_wp2_with (first | (refine wpList_store_whole (by rfl) 32 _ _ (by rfl) w.heap.size (optV (false, 0)) _ hb1 (by rfl) (by rfl) (by rfl) (by kernel_rfl) (optV_one _) ?_) | fail)
    refine ret_cells w.heap.size 0 (optV (false, 0)) Tryz.results56 Tryz.underlying32 rfl (by kernel_rfl) rfl HQ.out.2.range rfl ?_
    rw [HN.out]
    exact ⟨rfl, HQ.out.1⟩
  · by_cases he : (rU64 (rBool r).2).2.e = 0
    · have HN := Lib.hid (show rOpt r = ((true, (rU64 (rBool r).2).1), (rU64 (rBool r).2).2) by simp [rOpt, hq, he])
      have he' : ((rU64 (rBool r).2).2.e != 0) = false := by simpa using he
      go_enter Tryz.func56, Tryz.ntmps56
      go_wp2_with fail
      generalize w.alloc (.cells #[.bool false, .int .i64 0] 32) = w0 at *
      refine (refTruthR_any g r _ hR1).mono ?_
      rintro e w1 ⟨rfl, hQ⟩
      have hb1 := hQ.keeps hb hne
      go_wp2_with fail
      refine (refU8_any g (rBool r).2 _ hQ.1).mono ?_
      rintro e w2 ⟨rfl, hQ2⟩
      have hb2 := hQ2.keeps hb1 hne
      have hc := ReadsF.err hQ2.1
      have HQ := Lib.hid (ReadsF.lay (cs := optV (true, (rU64 (rBool r).2).1)) (ReadsF.behind hB (hQ.trans hQ2)) hb2 rfl hne (Nat.le_refl _))
      clear hQ hb hb1 hQ2
      go_wp2_with (first | (refine wpList_store_whole (by rfl) 32 _ _ (by rfl) w.heap.size (optV (true, (rU64 (rBool r).2).1)) _ hb2 (by rfl) (by rfl) (by rfl) (by kernel_rfl) (optV_one _) ?_) | fail)
      refine ret_cells w.heap.size 0 (optV (true, (rU64 (rBool r).2).1)) Tryz.results56 Tryz.underlying32 rfl (by kernel_rfl) rfl HQ.out.2.range rfl ?_
      rw [HN.out]
      exact ⟨rfl, HQ.out.1⟩
    · have HN := Lib.hid (show rOpt r = ((false, 0), (rU64 (rBool r).2).2) by simp [rOpt, hq, he])
      have he' : ((rU64 (rBool r).2).2.e != 0) = true := by simpa using he
      go_enter Tryz.func56, Tryz.ntmps56
      go_wp2_with fail
      generalize w.alloc (.cells #[.bool false, .int .i64 0] 32) = w0 at *
      refine (refTruthR_any g r _ hR1).mono ?_
      rintro e w1 ⟨rfl, hQ⟩
      have hb1 := hQ.keeps hb hne
      go_wp2_with fail
      refine (refU8_any g (rBool r).2 _ hQ.1).mono ?_
      rintro e w2 ⟨rfl, hQ2⟩
      have hb2 := hQ2.keeps hb1 hne
      have hc := ReadsF.err hQ2.1
      have HQ := Lib.hid (ReadsF.lay (cs := optV (false, 0)) (ReadsF.behind hB (hQ.trans hQ2)) hb2 rfl hne (Nat.le_refl _))
      clear hQ hb hb1 hQ2
      go_wp2_with (first | (refine wpList_store_whole (by rfl) 32 _ _ (by rfl) w.heap.size (optV (false, 0)) _ hb2 (by rfl) (by rfl) (by rfl) (by kernel_rfl) (optV_one _) ?_) | fail)
      refine ret_cells w.heap.size 0 (optV (false, 0)) Tryz.results56 Tryz.underlying32 rfl (by kernel_rfl) rfl HQ.out.2.range rfl ?_
      rw [HN.out]
      exact ⟨rfl, HQ.out.1⟩


/-- k numbers were read: the reader, the attributes' box, the result's -/
structure RdAF (g : Nat) (r : Rs) (w : World) (k : Nat) (wx : World) : Prop where
  R : ReadsF g (restK r k) w wx
  A : Blk wx (w.heap.size + 1) 43 (attrK r k)
  Z : Blk wx w.heap.size 43 zeroA
  n : g < w.heap.size
theorem RdAF.start (g : Nat) (r : Rs) (w : World) (hR : RdF w g r) : RdAF g r w 0 ((w.alloc (.cells zeroA.toArray 43)).alloc (.cells zeroA.toArray 43)) := by
  have b0 := Blk.new w 43 zeroA
  have B0 : Below w.heap.size w (w.alloc (.cells zeroA.toArray 43)) := (Below.refl _ _).alloc (Nat.le_refl _) _
  have e0 : (w.alloc (.cells zeroA.toArray 43)).heap.size = w.heap.size + 1 := by simp
  generalize w.alloc (.cells zeroA.toArray 43) = w0 at *
  have b1 := Blk.new w0 43 zeroA
  rw [e0] at b1
  exact ⟨ReadsF.behind (B0.alloc B0.size _) (ReadsF.refl (hR.stays (B0.alloc B0.size _))), b1, b0.alloc _, hR.lt⟩
theorem RdAF.alloc {g : Nat} {r : Rs} {w wx : World} {k : Nat} (h : RdAF g r w k wx) (o : Obj) : RdAF g r w k (wx.alloc o) :=
  ⟨h.R.new ((Below.refl _ _).alloc (Nat.le_refl _) o), h.A.alloc o, h.Z.alloc o, h.n⟩
theorem RdAF.step {g : Nat} {r : Rs} {w wx wy : World} {k : Nat} {b : Bool} (h : RdAF g r w k wx) (hk : k < 10) (hb : attrW[k]? = some b) (hQ : ReadsF g (rOne b (restK r k)).2 wx wy) :
    RdAF g r w (k + 1) (wy.setCell ⟨w.heap.size + 1, k, none⟩ (.int .i64 (rOne b (restK r k)).1)) := by
  obtain ⟨e1, e2⟩ := attrK_succ r hk hb
  have hn := h.n
  refine ⟨⟨?_, ?_⟩, ?_, ?_, h.n⟩
  · rw [e2]; exact hQ.1.touch ((Touch.refl (fun i => i = w.heap.size + 1) wy).setCell_ (g := w.heap.size + 1) (o := k) (.inl rfl) _) (by omega)
  · exact (h.R.2.then_ hQ.2).setCell_ (.inr (by omega)) _
  · have := (hQ.keeps h.A (by omega)).set_ k (.int .i64 (rOne b (restK r k)).1)
    rw [e1] at this
    exact this
  · exact (hQ.keeps h.Z (by omega)).far (p := ⟨w.heap.size + 1, k, none⟩) (by simp) _
theorem RdAF.cell {g : Nat} {r : Rs} {w wx wy : World} {k : Nat} {r' : Rs} (h : RdAF g r w k wx) (hk : k < 10) (hQ : ReadsF g r' wx wy) : ∃ v, wy.cell? ⟨w.heap.size + 1, k, none⟩ = some v ∧ wy.frozen? ⟨w.heap.size + 1, k, none⟩ = false := by
  have hn := h.n
  have hb := hQ.keeps h.A (by omega)
  obtain ⟨v, hv⟩ := attrK_cell hb (by omega) hk
  exact ⟨v, hv, hb.frozen _⟩
/-- the pointers' row stands -/
theorem RdAF.row {g : Nat} {r : Rs} {w wx wy : World} {k j h0 : Nat} {T : TypeId} {cs : List Value} {r' : Rs} (_h : RdAF g r w k wx) (hB : Blk wx h0 T cs) (hh : h0 ≠ w.heap.size + 1) (hg : h0 ≠ g) (hQ : ReadsF g r' wx wy) (v : Value) : Blk (wy.setCell ⟨w.heap.size + 1, j, none⟩ v) h0 T cs :=
  (hQ.keeps hB hg).far (p := ⟨w.heap.size + 1, j, none⟩) hh v


end Go.Proofs.YtfjflkmhhbhceaaGreatDoor


/-
  Layer 9, walks: whether a message may be. No condition.
-/
namespace Go.Proofs.YtfjflkmhhbhceaaGreatDoor
open Go.RowKit
attribute [local go_sem ↓] Go.wp_at_zero Go.wp_at_succ

theorem number9_any (n least : Int) (w : World) : Calls Tryz.prog 169 #[.int .i64 n, .int .i64 least] w fun e w' => e = .returned (.bool (num32 n least)) ∧ w = w' := by
  go_enter Tryz.func169, Tryz.ntmps169
  go_wp2
  all_goals
    go_ret
    exact ⟨ret_bool (by grind [num32]), rfl⟩
theorem there9_any (n : Int) (w : World) : Calls Tryz.prog 135 #[.int .i64 n] w fun e w' => e = .returned (.bool (thereP n)) ∧ w = w' := by
  go_enter Tryz.func135, Tryz.ntmps135
  go_wp2
  all_goals
    go_ret
    exact ⟨ret_bool (by grind [thereP]), rfl⟩

set_option maxHeartbeats 1600000 in
theorem owner9_any (c : Cred) (w : World) : Calls Tryz.prog 136 #[.agg c.vals.toArray] w fun e w' => e = .returned (.bool c.ok) ∧ Below w.heap.size w w' := by
  have hr := range_new w c.vals 63
  have hc0 := hr 0 _ rfl
  have hc1 := hr 1 _ rfl
  have hc2 := hr 2 _ rfl
  have hc3 := hr 3 _ rfl
  have hB0 : Below w.heap.size w (w.alloc (.cells c.vals.toArray 63)) := (Below.refl _ _).alloc (Nat.le_refl _) _
  clear hr
  go_enter Tryz.func136, Tryz.ntmps136
  go_wp2_with (first | (go_at_call 169; refine (number9_any _ _ _).mono ?_; rintro e w' ⟨rfl, rfl⟩) | fail)
  all_goals
    clear hc0 hc1 hc2 hc3
    go_ret
    exact ⟨ret_bool (by grind [Cred.ok]), hB0⟩

theorem guardCred : Tryz.prog.eqGuardType Tryz.prog.depth 63 = false := by kernel_rfl
theorem leafsCred : leafs Tryz.prog 8 63 = some (List.replicate 4 (.i .i64)) := by kernel_rfl
theorem fitsCred (a : Cred) : fits (List.replicate 4 (.i .i64)) a.vals = true := by rfl
theorem valsCred {a b : Cred} (h : a.vals = b.vals) : a = b := by
  cases a; cases b; simp_all [Cred.vals]
theorem eqCred (a b : Cred) (w : World) : (binOp .eql 63 (.agg a.vals.toArray) (.agg b.vals.toArray)).run Tryz.prog w = .ok (.bool (decide (a = b))) w := by
  by_cases h : a = b
  · subst h
    rw [eql_same leafsCred (by kernel_rfl) w _ _ (fitsCred a) rfl]
    simp
  · rw [eql_other leafsCred (by kernel_rfl) w _ _ (fitsCred a) (fitsCred b) fun hh => h (valsCred hh)]
    simp [h]
theorem eqCred0 (a : Cred) (w : World) : (binOp .eql 63 (.agg a.vals.toArray) (.agg #[.int .i64 0, .int .i64 0, .int .i64 0, .int .i64 0])).run Tryz.prog w = .ok (.bool (decide (a = cred0))) w := eqCred a cred0 w
theorem ldCred {ρ : Operand → Value} {w : World} {dst : Option Tmp} {ty : TypeId} {pos : String} {after : Array Edge} {g : Option (Nat × Bool)} {x : Operand} (h : (rowAt w 4 (ρ x)).isSome = true) :
    (execOp ρ ⟨dst, .load 63 x, ty, pos, after, g⟩).run Tryz.prog w = .ok (.value (.agg ((rowAt w 4 (ρ x)).getD #[]))) w := ex_load 63 4 Tryz.underlying63 rfl (by kernel_rfl) h
theorem ldMessage {ρ : Operand → Value} {w : World} {dst : Option Tmp} {ty : TypeId} {pos : String} {after : Array Edge} {g : Option (Nat × Bool)} {x : Operand} (h : (rowAt w 10 (ρ x)).isSome = true) :
    (execOp ρ ⟨dst, .load 81 x, ty, pos, after, g⟩).run Tryz.prog w = .ok (.value (.agg ((rowAt w 10 (ρ x)).getD #[]))) w := ex_load 81 10 Tryz.underlying81 rfl (by kernel_rfl) h
attribute [local go_sem ↓] eqCred eqCred0 ldCred ldMessage

attribute [local go_sem] guardCred rowAt_ptr rowOf_drew rowOf_drewN

set_option maxHeartbeats 3200000 in
theorem may9_any (m : Message) (w : World) (hl : m.body.length ≤ 9223372036854775807) : Calls Tryz.prog 139 #[.agg m.vals.toArray] w fun e w' => e = .returned (.bool m.may) ∧ Below w.heap.size w w' := by
  have hr := range_new w m.vals 81
  have hc0 := hr 0 _ rfl
  have hc1 := hr 1 _ rfl
  have hc2 := hr 2 _ rfl
  have hc3 := hr 3 _ rfl
  have hc8 := hr 8 _ rfl
  have hc9 := hr 9 _ rfl
  have hb0 := Blk.new w 81 m.vals
  have h4 : rowOf (w.alloc (.cells m.vals.toArray 81)) w.heap.size 4 4 = some m.cred.vals.toArray := hb0.row 4 4 (by simp [Message.len])
  have hB0 : Below w.heap.size w (w.alloc (.cells m.vals.toArray 81)) := (Below.refl _ _).alloc (Nat.le_refl _) _
  have hz : w.heap.size < (w.alloc (.cells m.vals.toArray 81)).heap.size := by simp
  have hsz := bs_size m.body
  clear hr hb0
  go_enter Tryz.func139, Tryz.ntmps139
  go_wp2_with (first
    | (go_at_call 169; refine (number9_any _ _ _).mono ?_; rintro e w' ⟨rfl, rfl⟩)
    | (go_at_call 135; refine (there9_any _ _).mono ?_; rintro e w' ⟨rfl, rfl⟩)
    | (go_at_call 136; refine (owner9_any _ _).mono ?_; rintro e w' ⟨rfl, hb⟩; have hs := Stb.of hb) | fail)
  all_goals
    go_ret
    clear hc0 hc1 hc2 hc3 hc8 hc9 h4 hz hsz
    go_light
    refine ⟨ret_bool ?_, by first | exact hB0 | exact below_then hB0 (Stb.below (by assumption))⟩
    grind [Message.may]
end Go.Proofs.YtfjflkmhhbhceaaGreatDoor
