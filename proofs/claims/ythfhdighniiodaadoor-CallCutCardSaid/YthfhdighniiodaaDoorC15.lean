/-
  Layer 5, walks: attributes are read. Conditions: a reader at a block of its own; texts are machine texts.
-/
import Derived.Test.YthfhdighniiodaaDoorC14
import Derived.Test.YthfhdighniiodaaDoorC04
import Derived.Test.YthfhdighniiodaaDoorC05
import Derived.Test.YthfhdighniiodaaDoorC12
namespace Go.Proofs.YthfhdighniiodaaDoor
open Go.RowKit
attribute [local go_sem ↓] Go.wp_at_zero Go.wp_at_succ
attribute [local go_sem] rowAt_ptr rowOf_drew rowOf_drewN rowOf_alloc_past rowOf_new
theorem ldAttrR {ρ : Operand → Value} {w : World} {dst : Option Tmp} {ty : TypeId} {pos : String} {after : Array Edge} {g : Option (Nat × Bool)} {x : Operand} (h : (rowAt w 10 (ρ x)).isSome = true) :
    (execOp ρ ⟨dst, .load 42 x, ty, pos, after, g⟩).run Tryd.prog w = .ok (.value (.agg ((rowAt w 10 (ρ x)).getD #[]))) w := ex_load 42 10 Tryd.underlying42 rfl (by kernel_rfl) h
attribute [local go_sem ↓] ldAttrR

def rOne (wide : Bool) (r : Rs) : Nat × Rs := if wide then rU64 r else rU32 r
def rMany : List Bool → Rs → List Nat × Rs
  | [], r => ([], r)
  | b :: bs, r => ((rOne b r).1 :: (rMany bs (rOne b r).2).1, (rMany bs (rOne b r).2).2)
theorem rMany_snoc (l : List Bool) (b : Bool) (r : Rs) : rMany (l ++ [b]) r = ((rMany l r).1 ++ [(rOne b (rMany l r).2).1], (rOne b (rMany l r).2).2) := by
  induction l generalizing r with
  | nil => rfl
  | cons c l ih => simp [rMany, ih]
theorem rMany_length (l : List Bool) (r : Rs) : (rMany l r).1.length = l.length := by
  induction l generalizing r with
  | nil => rfl
  | cons c l ih => simp [rMany, ih]
theorem rOne_len {b : Bool} {r : Rs} (h : r.s.length ≤ 9223372036854775807) : (rOne b r).2.s.length ≤ r.s.length := by
  cases b
  · exact rU32_len h
  · exact rU64_len h
theorem rMany_len (l : List Bool) (r : Rs) (h : r.s.length ≤ 9223372036854775807) : (rMany l r).2.s.length ≤ r.s.length := by
  induction l generalizing r with
  | nil => exact Nat.le_refl _
  | cons c l ih => exact Nat.le_trans (ih _ (Nat.le_trans (rOne_len h) h)) (rOne_len h)
def natsV (l : List Nat) : List Value := l.map fun n : Nat => Value.int .i64 (n : Int)
def attrW : List Bool := [false, false, false, false, false, true, false, true, true, true]
/-- the attributes' cells when k of them were read -/
def attrK (r : Rs) (k : Nat) : List Value := natsV (rMany (attrW.take k) r).1 ++ List.replicate (10 - k) (.int .i64 0)
def restK (r : Rs) (k : Nat) : Rs := (rMany (attrW.take k) r).2
theorem attrK_len (r : Rs) {k : Nat} (hk : k ≤ 10) : (attrK r k).length = 10 := by
  simp only [attrK, natsV, List.length_append, List.length_map, rMany_length, List.length_take, List.length_replicate, attrW, List.length_cons, List.length_nil]
  omega
theorem attrK_succ (r : Rs) {k : Nat} {b : Bool} (hk : k < 10) (hb : attrW[k]? = some b) : (attrK r k).set k (.int .i64 (rOne b (restK r k)).1) = attrK r (k + 1) ∧ restK r (k + 1) = (rOne b (restK r k)).2 := by
  have ht : attrW.take (k + 1) = attrW.take k ++ [b] := by
    rw [List.take_add_one, hb]; rfl
  have hl : (natsV (rMany (attrW.take k) r).1).length = k := by
    simp only [natsV, List.length_map, rMany_length, List.length_take, attrW, List.length_cons, List.length_nil]; omega
  unfold attrK restK
  rw [ht, rMany_snoc]
  refine ⟨?_, rfl⟩
  rw [List.set_append_right _ _ (by omega), hl, Nat.sub_self, show 10 - k = (10 - (k + 1)) + 1 by omega, List.replicate_succ, List.set_cons_zero]
  simp [natsV]
theorem attrK_cell {w : World} {b : Nat} {T : TypeId} {r : Rs} {k j : Nat} (h : Blk w b T (attrK r k)) (hk : k ≤ 10) (hj : j < 10) : ∃ v, w.cell? ⟨b, j, none⟩ = some v := by
  rw [h.cell]
  exact ⟨_, List.getElem?_eq_getElem (by rw [attrK_len r hk]; exact hj)⟩
def attrOf (l : List Nat) : Attr := ⟨l.getD 0 0, l.getD 1 0, l.getD 2 0, l.getD 3 0, l.getD 4 0, l.getD 5 0, l.getD 6 0, l.getD 7 0, l.getD 8 0, l.getD 9 0⟩
theorem attrOf_vals (l : List Nat) (h : l.length = 10) : (attrOf l).vals = natsV l := by
  match l, h with
  | [a, b, c, d, e, f, g, i, j, k], _ => rfl
def rAttr (r : Rs) : Attr × Rs := (attrOf (rMany attrW r).1, (rMany attrW r).2)
theorem attrK_ten (r : Rs) : attrK r 10 = (rAttr r).1.vals ∧ restK r 10 = (rAttr r).2 := by
  refine ⟨?_, rfl⟩
  unfold attrK rAttr
  rw [attrOf_vals _ (rMany_length _ _), show attrW.take 10 = attrW from rfl]
  simp
theorem rAttr_len {r : Rs} (h : r.s.length ≤ 9223372036854775807) : (rAttr r).2.s.length ≤ r.s.length := rMany_len _ _ h
theorem restK_len {r : Rs} (k : Nat) (h : r.s.length ≤ 9223372036854775807) : (restK r k).s.length ≤ 9223372036854775807 := Nat.le_trans (rMany_len _ _ h) h
def fieldPtrs (b : Nat) (l : List Nat) : List Value := l.map fun k => .pointer (some ⟨b, k, none⟩)
theorem fieldPtr_at {w : World} {h b : Nat} {T : TypeId} {l : List Nat} (hB : Blk w h T (fieldPtrs b l)) {k : Nat} (hk : k < l.length) : w.cell? ⟨h, k, none⟩ = some (.pointer (some ⟨b, l[k], none⟩)) := by
  rw [hB.cell]; simp [fieldPtrs, hk]

def zeroA : List Value := [.int .i64 0, .int .i64 0, .int .i64 0, .int .i64 0, .int .i64 0, .int .i64 0, .int .i64 0, .int .i64 0, .int .i64 0, .int .i64 0]
/-- k numbers were read: the reader, the attributes' box, the result's -/
structure RdA (g : Nat) (r : Rs) (w : World) (k : Nat) (wx : World) : Prop where
  R : Reads g (restK r k) w wx
  A : Blk wx (w.heap.size + 1) 42 (attrK r k)
  Z : Blk wx w.heap.size 42 zeroA
  n : g < w.heap.size
theorem RdA.start (g : Nat) (r : Rs) (w : World) (hR : Rd w g r) : RdA g r w 0 ((w.alloc (.cells zeroA.toArray 42)).alloc (.cells zeroA.toArray 42)) := by
  have b0 := Blk.new w 42 zeroA
  have B0 : Below w.heap.size w (w.alloc (.cells zeroA.toArray 42)) := (Below.refl _ _).alloc (Nat.le_refl _) _
  have e0 : (w.alloc (.cells zeroA.toArray 42)).heap.size = w.heap.size + 1 := by simp
  generalize w.alloc (.cells zeroA.toArray 42) = w0 at *
  have b1 := Blk.new w0 42 zeroA
  rw [e0] at b1
  exact ⟨Reads.behind (B0.alloc B0.size _) (Reads.refl (hR.stays (B0.alloc B0.size _))), b1, b0.alloc _, hR.lt⟩
theorem RdA.alloc {g : Nat} {r : Rs} {w wx : World} {k : Nat} (h : RdA g r w k wx) (o : Obj) : RdA g r w k (wx.alloc o) :=
  ⟨h.R.new ((Below.refl _ _).alloc (Nat.le_refl _) o), h.A.alloc o, h.Z.alloc o, h.n⟩
theorem RdA.step {g : Nat} {r : Rs} {w wx wy : World} {k : Nat} {b : Bool} (h : RdA g r w k wx) (hk : k < 10) (hb : attrW[k]? = some b) (hQ : Reads g (rOne b (restK r k)).2 wx wy) :
    RdA g r w (k + 1) (wy.setCell ⟨w.heap.size + 1, k, none⟩ (.int .i64 (rOne b (restK r k)).1)) := by
  obtain ⟨e1, e2⟩ := attrK_succ r hk hb
  have hn := h.n
  refine ⟨⟨⟨?_, ?_⟩, ?_⟩, ?_, ?_, h.n⟩
  · rw [e2]; exact hQ.1.1.far (p := ⟨w.heap.size + 1, k, none⟩) (by simp; omega) _
  · rw [e2]; exact hQ.1.2
  · exact (h.R.2.then_ hQ.2).setCell_ (.inr (by omega)) _
  · have := (hQ.keeps h.A (by omega)).set_ k (.int .i64 (rOne b (restK r k)).1)
    rw [e1] at this
    exact this
  · exact (hQ.keeps h.Z (by omega)).far (p := ⟨w.heap.size + 1, k, none⟩) (by simp) _
theorem RdA.cell {g : Nat} {r : Rs} {w wx wy : World} {k : Nat} {r' : Rs} (h : RdA g r w k wx) (hk : k < 10) (hQ : Reads g r' wx wy) : ∃ v, wy.cell? ⟨w.heap.size + 1, k, none⟩ = some v ∧ wy.frozen? ⟨w.heap.size + 1, k, none⟩ = false := by
  have hn := h.n
  have hb := hQ.keeps h.A (by omega)
  obtain ⟨v, hv⟩ := attrK_cell hb (by omega) hk
  exact ⟨v, hv, hb.frozen _⟩
/-- the pointers' row stands -/
theorem RdA.row {g : Nat} {r : Rs} {w wx wy : World} {k j h0 : Nat} {T : TypeId} {cs : List Value} {r' : Rs} (_h : RdA g r w k wx) (hB : Blk wx h0 T cs) (hh : h0 ≠ w.heap.size + 1) (hg : h0 ≠ g) (hQ : Reads g r' wx wy) (v : Value) : Blk (wy.setCell ⟨w.heap.size + 1, j, none⟩ v) h0 T cs :=
  (hQ.keeps hB hg).far (p := ⟨w.heap.size + 1, j, none⟩) hh v

set_option maxRecDepth 20000 in
set_option maxHeartbeats 3200000 in
theorem attrRead_any (g : Nat) (r : Rs) (w : World) (hR : Rd w g r) (hl : r.s.length ≤ 9223372036854775807) :
    Calls Tryd.prog 129 #[.pointer (some ⟨g, 0, none⟩)] w (Gave g (rAttr r).2 (.agg (rAttr r).1.vals.toArray) w) := by
  have hS := RdA.start g r w hR
  have e1 : ((w.alloc (.cells zeroA.toArray 42)).alloc (.cells zeroA.toArray 42)).heap.size = w.heap.size + 1 + 1 := by simp
  have hP := Blk.new ((w.alloc (.cells zeroA.toArray 42)).alloc (.cells zeroA.toArray 42)) 162 (fieldPtrs (w.heap.size + 1) [0, 1, 2, 3, 4])
  rw [e1] at hP
  clear e1
  have hg := hR.lt
  have hlr := fun k => restK_len (r := r) k hl
  clear hR
  have HL := Lib.hid hlr
  clear hlr
  go_enter Tryd.func129, Tryd.ntmps129
  go_wp2
  change Code.wp _ _ _ _ (((w.alloc (.cells zeroA.toArray 42)).alloc (.cells zeroA.toArray 42)).alloc (.cells (fieldPtrs (w.heap.size + 1) [0, 1, 2, 3, 4]).toArray 162))
  have hS := hS.alloc (.cells (fieldPtrs (w.heap.size + 1) [0, 1, 2, 3, 4]).toArray 162)
  generalize ((w.alloc (.cells zeroA.toArray 42)).alloc (.cells zeroA.toArray 42)).alloc (.cells (fieldPtrs (w.heap.size + 1) [0, 1, 2, 3, 4]).toArray 162) = W0 at *
  go_loopw [15] (fun i wr => ∃ k : Nat, k ≤ 5 ∧ i = .int .i64 k ∧ RdA g r w k wr ∧ Blk wr (w.heap.size + 1 + 1) 162 (fieldPtrs (w.heap.size + 1) [0, 1, 2, 3, 4])) (fun i _ => 5 - (intOf i).toNat)
  case atStart => exact ⟨0, by omega, rfl, hS, hP⟩
  case round =>
    clear hS hP
    obtain ⟨k, hk, rfl, hS, hP⟩ := hrel
    by_cases hlt : k < 5
    · have hp := fieldPtr_at hP (k := k) (by simpa using hlt)
      have hkk : ([0, 1, 2, 3, 4] : List Nat)[k]'(by simpa using hlt) = k := by
        match k, hlt with
        | 0, _ | 1, _ | 2, _ | 3, _ | 4, _ => rfl
      have hw : attrW[k]? = some false := by
        match k, hlt with
        | 0, _ | 1, _ | 2, _ | 3, _ | 4, _ => rfl
      rw [hkk] at hp
      have HW := Lib.hid hw
      clear hkk hw
      go_wp2_with fail
      refine (rU32_any g (restK r k) _ hS.R.1 (HL.out k)).mono ?_
      rintro e w4 ⟨rfl, hQ⟩
      obtain ⟨v, hc, hf⟩ := hS.cell (by omega) hQ
      have HS := Lib.hid (hS.step (by omega) HW.out hQ)
      have HP := Lib.hid (hS.row hP (by omega) (by omega) hQ (.int .i64 (rOne false (restK r k)).1) (j := k))
      clear hS hP hQ hp
      go_wp2
      go_roundw
      case rel => exact ⟨k + 1, by omega, by go_num, HS.out, HP.out⟩
      case measure => simp [intOf]; omega
    · obtain rfl : k = 5 := by omega
      clear hP
      go_wp2_with fail
      refine (rU64_any g (restK r 5) _ hS.R.1 (HL.out 5)).mono ?_
      rintro e w4 ⟨rfl, hQ⟩
      obtain ⟨v, hc, hf⟩ := hS.cell (by omega) hQ
      have hS5 := hS.step (by omega) (b := true) rfl hQ
      clear hS hQ
      change RdA g r w 6 _ at hS5
      go_wp2_with fail
      change Calls _ _ _ (w4.setCell ⟨w.heap.size + 1, 5, none⟩ (.int .i64 (rOne true (restK r 5)).1)) _
      generalize w4.setCell ⟨w.heap.size + 1, 5, none⟩ (.int .i64 (rOne true (restK r 5)).1) = w5 at *
      clear hc hf
      refine (rU32_any g (restK r 6) _ hS5.R.1 (HL.out 6)).mono ?_
      rintro e w6 ⟨rfl, hQ⟩
      obtain ⟨v2, hc, hf⟩ := hS5.cell (by omega) hQ
      have hS6 := hS5.step (by omega) (b := false) rfl hQ
      clear hS5 hQ
      change RdA g r w 7 _ at hS6
      go_wp2
      change Code.wp _ _ _ _ ((w6.setCell ⟨w.heap.size + 1, 6, none⟩ (.int .i64 (rOne false (restK r 6)).1)).alloc (.cells (fieldPtrs (w.heap.size + 1) [7, 8, 9]).toArray 162))
      have hsz : (w6.setCell ⟨w.heap.size + 1, 6, none⟩ (.int .i64 (rOne false (restK r 6)).1)).heap.size = w6.heap.size := by simp [World.setCell]
      have hP := Blk.new (w6.setCell ⟨w.heap.size + 1, 6, none⟩ (.int .i64 (rOne false (restK r 6)).1)) 162 (fieldPtrs (w.heap.size + 1) [7, 8, 9])
      rw [hsz] at hP
      have hS := hS6.alloc (.cells (fieldPtrs (w.heap.size + 1) [7, 8, 9]).toArray 162)
      have hA6 := hS6.A.lt
      rw [hsz] at hA6
      clear hS6 hc hf hsz
      generalize (w6.setCell ⟨w.heap.size + 1, 6, none⟩ (.int .i64 (rOne false (restK r 6)).1)).alloc (.cells (fieldPtrs (w.heap.size + 1) [7, 8, 9]).toArray 162) = W7 at *
      go_loopw [35] (fun i wr => ∃ k : Nat, k ≤ 3 ∧ i = .int .i64 k ∧ RdA g r w (7 + k) wr ∧ Blk wr w6.heap.size 162 (fieldPtrs (w.heap.size + 1) [7, 8, 9])) (fun i _ => 3 - (intOf i).toNat)
      case atStart => exact ⟨0, by omega, rfl, hS, hP⟩
      case round =>
        clear hS hP
        obtain ⟨k, hk, rfl, hS, hP⟩ := hrel
        by_cases hlt : k < 3
        · have hp := fieldPtr_at hP (k := k) (by simpa using hlt)
          have hkk : ([7, 8, 9] : List Nat)[k]'(by simpa using hlt) = 7 + k := by
            match k, hlt with
            | 0, _ | 1, _ | 2, _ => rfl
          have hw : attrW[7 + k]? = some true := by
            match k, hlt with
            | 0, _ | 1, _ | 2, _ => rfl
          rw [hkk] at hp
          have HW := Lib.hid hw
          clear hkk hw
          go_wp2_with fail
          refine (rU64_any g (restK r (7 + k)) _ hS.R.1 (HL.out (7 + k))).mono ?_
          rintro e w8 ⟨rfl, hQ⟩
          obtain ⟨v, hc, hf⟩ := hS.cell (by omega) hQ
          have HS := Lib.hid (hS.step (by omega) HW.out hQ)
          have HP := Lib.hid (hS.row hP (by omega) (by omega) hQ (.int .i64 (rOne true (restK r (7 + k))).1) (j := 7 + k))
          clear hS hP hQ hp
          go_wp2
          go_roundw
          case rel => exact ⟨k + 1, by omega, by go_num, HS.out, HP.out⟩
          case measure => simp [intOf]; omega
        · obtain rfl : k = 3 := by omega
          have hS10 : RdA g r w 10 wr := hS
          obtain ⟨e1, e2⟩ := attrK_ten r
          have hA := hS10.A
          have hR := hS10.R
          rw [e1] at hA
          rw [e2] at hR
          have hZ := hS10.Z
          have rA : rowOf wr (w.heap.size + 1) 0 10 = some (rAttr r).1.vals.toArray := hA.row 0 10 (by simp [Attr.len])
          have HQ := Lib.hid (Reads.lay (cs := (rAttr r).1.vals) hR hZ rfl (by omega) (Nat.le_refl _))
          clear hS10 hA hR hS hP e1 e2
          go_wp2_with (first | (refine wpList_store_whole (by rfl) 42 _ _ (by rfl) w.heap.size (rAttr r).1.vals _ hZ (by rfl) (by rfl) (by rfl) (by kernel_rfl) (Attr.one _) ?_) | fail)
          refine ret_cells w.heap.size 0 (rAttr r).1.vals Tryd.results129 Tryd.underlying42 rfl (by kernel_rfl) rfl HQ.out.2.range rfl ?_
          exact ⟨rfl, HQ.out.1⟩
end Go.Proofs.YthfhdighniiodaaDoor

/-
  Layer 5, walks: whether attributes, or none, and what was ahead and behind, may be. No condition.
-/
namespace Go.Proofs.YthfhdighniiodaaDoor
open Go.RowKit
attribute [local go_sem ↓] Go.wp_at_zero Go.wp_at_succ
attribute [local go_sem] rowAt_ptr rowOf_drew rowOf_drewN rowOf_alloc_past rowOf_new
attribute [local go_sem ↓] ldAttrR ldOpt ldSet

attribute [local go_sem] Attr.at0 Attr.lat0 Attr.at1 Attr.lat1 Attr.at2 Attr.lat2 Attr.at3 Attr.lat3 Attr.at4 Attr.lat4 Attr.at5 Attr.lat5 Attr.at6 Attr.lat6 Attr.at7 Attr.lat7 Attr.at8 Attr.lat8 Attr.at9 Attr.lat9 Attr.sub0_10 Attr.lsub0_10 Attr.len Opt.at0 Opt.lat0 Opt.at1 Opt.lat1 Opt.sub0_2 Opt.lsub0_2 Opt.len Sett.at0 Sett.lat0 Sett.at1 Sett.lat1 Sett.at2 Sett.lat2 Sett.at3 Sett.lat3 Sett.at4 Sett.lat4 Sett.at5 Sett.lat5 Sett.at6 Sett.lat6 Sett.at7 Sett.lat7 Sett.at8 Sett.lat8 Sett.at9 Sett.lat9 Sett.sub0_10 Sett.lsub0_10 Sett.sub0_2 Sett.lsub0_2 Sett.sub2_2 Sett.lsub2_2 Sett.sub4_2 Sett.lsub4_2 Sett.sub6_2 Sett.lsub6_2 Sett.sub8_2 Sett.lsub8_2 Sett.len Post.at0 Post.lat0 Post.at1 Post.lat1 Post.at2 Post.lat2 Post.at3 Post.lat3 Post.at4 Post.lat4 Post.at5 Post.lat5 Post.at6 Post.lat6 Post.at7 Post.lat7 Post.at8 Post.lat8 Post.at9 Post.lat9 Post.at10 Post.lat10 Post.sub0_11 Post.lsub0_11 Post.sub1_10 Post.lsub1_10 Post.len Wcc.at0 Wcc.lat0 Wcc.at1 Wcc.lat1 Wcc.at2 Wcc.lat2 Wcc.at3 Wcc.lat3 Wcc.at4 Wcc.lat4 Wcc.at5 Wcc.lat5 Wcc.at6 Wcc.lat6 Wcc.at7 Wcc.lat7 Wcc.at8 Wcc.lat8 Wcc.at9 Wcc.lat9 Wcc.at10 Wcc.lat10 Wcc.at11 Wcc.lat11 Wcc.at12 Wcc.lat12 Wcc.sub0_13 Wcc.lsub0_13 Wcc.sub0_2 Wcc.lsub0_2 Wcc.sub2_11 Wcc.lsub2_11 Wcc.sub3_10 Wcc.lsub3_10 Wcc.len

def limits (a : Attr) : List (Int × Int) := [(a.type, 7), (a.mode, 4095), (a.nlink, 4294967295), (a.uid, 4294967295), (a.gid, 4294967295), (a.id, 4294967295), (a.size, 9223372036854775807), (a.gen, 9223372036854775807), (a.change, 9223372036854775807), (a.time, 9223372036854775807)]
theorem limits_ok (a : Attr) (hg : a.good) (h1 : 1 ≤ a.type) : (limits a).all inLim = a.ok := by
  obtain ⟨-, -, -, -, -, g5, -, g7, g8, g9⟩ := hg
  have g5 := (Go.bounds_i64 g5).2
  have g7 := (Go.bounds_i64 g7).2
  have g8 := (Go.bounds_i64 g8).2
  have g9 := (Go.bounds_i64 g9).2
  simp [limits, inLim, okN, Attr.ok]
  grind
theorem free5_any (n : Int) (w : World) : Calls Tryd.prog 123 #[.int .i64 n] w fun e w' => e = .returned (.agg #[.int .i64 n, .int .i64 9223372036854775807]) ∧ Below w.heap.size w w' := by
  go_enter Tryd.func123, Tryd.ntmps123
  go_wp2
  exact ret_cells w.heap.size 0 (limV (n, 9223372036854775807)) Tryd.results123 Tryd.underlying147 rfl (by kernel_rfl) rfl (range_new _ _ _) rfl ⟨rfl, (Below.refl _ _).alloc (Nat.le_refl _) _⟩

set_option maxRecDepth 20000 in
set_option maxHeartbeats 1000000 in
theorem check5_any (a : Attr) (w : World) (hg : a.good) : Calls Tryd.prog 99 #[.agg a.vals.toArray] w fun e w' => e = .returned (.int .i64 (form a.ok)) ∧ Below w.heap.size w w' := by
  have hB0 : Below w.heap.size w (w.alloc (.cells a.vals.toArray 42)) := (Below.refl _ _).alloc (Nat.le_refl _) _
  have hz : w.heap.size < (w.alloc (.cells a.vals.toArray 42)).heap.size := by simp
  by_cases h1 : a.type < 1
  · have HS := Lib.hid (show a.ok = false by simp [Attr.ok]; omega)
    have hd : decide (a.type < 1) = true := by simpa using h1
    go_enter Tryd.func99, Tryd.ntmps99
    go_wp2
    go_quiet (fail)
    go_wp2
    go_ret
    exact ⟨ret_int (by rw [HS.out]; rfl), hB0.trans (bdN (Below.refl _ _) _)⟩
  · have hd : decide (a.type < 1) = false := by simpa using h1
    have HL := Lib.hid (limits_ok a hg (by omega))
    have c0 := (Blk.new w 42 a.vals).cell
    go_enter Tryd.func99, Tryd.ntmps99
    go_wp2
    generalize w.alloc (.cells a.vals.toArray 42) = w1 at *
    go_region_held3 (fun W => Stb w1 W) (first | exact Stb.start | assumption | (exact Stb.alloc (by assumption) _) | (exact Stb.call (by assumption) (by assumption))) (first
      | (go_at_call 123; refine (free5_any _ _).mono ?_; rintro e w2 ⟨rfl, hb⟩)
      | (go_at_call 122; refine (within_any (some ⟨_, 0, none⟩) 10 (limits a) _ (show (10 : Nat) ≤ 1000000 by omega) (by exact At.fresh _ _ _ _ ((limits a).map limV) (by simp [limits, limV]) rfl)).mono ?_; rintro e w3 ⟨rfl, hb⟩))
    have hs := (by assumption : Stb w1 w3)
    have HB := Lib.hid (below_then hB0 hs.below)
    rw [HL.out]
    clear hs
    cases ho : a.ok
    all_goals
      have HO := Lib.hid ho
      clear ho
      go_wp2
      go_ret
      exact ⟨ret_int (by rw [HO.out]; rfl), HB.out⟩
end Go.Proofs.YthfhdighniiodaaDoor
