/-
  Layer 5 in plain words: what attributes, and what is to be set, may be; their bytes; what becomes of them. No condition.
-/
import Derived.Test.YtapcjojlkeaadaaGreatDoorP05
import Derived.Test.YtapcjojlkeaadaaGreatDoorP02
import Derived.Test.YtapcjojlkeaadaaGreatDoorP07
namespace Go.Proofs.YtapcjojlkeaadaaGreatDoor

def okN (n most : Int) : Bool := decide (0 ≤ n) && decide (n ≤ most)
def Opt.ok (o : Opt) (most : Int) : Bool := if o.is then okN o.n most else o.n == 0
def Sett.ok (s : Sett) : Bool := s.mode.ok 4095 && (s.uid.ok 4294967295 && (s.gid.ok 4294967295 && (s.size.ok 9223372036854775807 && s.time.ok 9223372036854775807)))
def form (b : Bool) : Int := if b then 0 else 14
def Opt.bytes (o : Opt) : List UInt8 := optB o.is o.n
def Sett.bytes (s : Sett) : List UInt8 := s.mode.bytes ++ s.uid.bytes ++ s.gid.bytes ++ s.size.bytes ++ s.time.bytes
def Sett.empty (s : Sett) : Bool := !s.mode.is && (!s.uid.is && (!s.gid.is && (!s.size.is && !s.time.is)))
def Opt.over (o : Opt) (n : Int) : Int := if o.is then o.n else n
def Attr.applied (a : Attr) (s : Sett) (now : Int) : Attr :=
  { a with mode := s.mode.over a.mode, uid := s.uid.over a.uid, gid := s.gid.over a.gid, change := if s.empty then a.change else now, time := if s.time.is then s.time.n else if s.size.is then now else a.time }
def big : Int := 9223372036854775807
def Attr.ok (a : Attr) : Bool :=
  okN a.type 7 && decide (1 ≤ a.type) && okN a.mode 4095 && okN a.nlink 4294967295 && okN a.uid 4294967295 && okN a.gid 4294967295 && okN a.id 4294967295 && decide (0 ≤ a.size) && decide (0 ≤ a.gen) && decide (0 ≤ a.change) && decide (0 ≤ a.time)
theorem Opt.ok_pos {o : Opt} {m : Int} (h : o.ok m = true) : o.is = true → 0 ≤ o.n := fun hi => by
  unfold Opt.ok okN at h
  rw [if_pos hi] at h
  simp at h
  exact h.1
theorem Sett.ok_pos {s : Sett} (h : s.ok = true) : (s.mode.is = true → 0 ≤ s.mode.n) ∧ (s.uid.is = true → 0 ≤ s.uid.n) ∧ (s.gid.is = true → 0 ≤ s.gid.n) ∧ (s.size.is = true → 0 ≤ s.size.n) ∧ (s.time.is = true → 0 ≤ s.time.n) := by
  unfold Sett.ok at h
  simp only [Bool.and_eq_true] at h
  exact ⟨Opt.ok_pos h.1, Opt.ok_pos h.2.1, Opt.ok_pos h.2.2.1, Opt.ok_pos h.2.2.2.1, Opt.ok_pos h.2.2.2.2⟩
/-- the options, in order -/
def Sett.opt (s : Sett) : Nat → Opt
  | 0 => s.mode
  | 1 => s.uid
  | 2 => s.gid
  | 3 => s.size
  | _ => s.time
def Sett.upto (s : Sett) : Nat → List UInt8
  | 0 => []
  | k + 1 => s.upto k ++ (s.opt k).bytes
theorem Sett.upto_five (s : Sett) : s.upto 5 = s.bytes := by simp [Sett.upto, Sett.opt, Sett.bytes]
theorem Opt.bytes_len (o : Opt) : o.bytes.length ≤ 12 := by
  unfold Opt.bytes optB truth
  cases o.is <;> simp [num_len]
theorem Sett.upto_len (s : Sett) (k : Nat) : (s.upto k).length ≤ 12 * k := by
  induction k with
  | zero => simp [Sett.upto]
  | succ k ih => have := (s.opt k).bytes_len; simp only [Sett.upto, List.length_append]; omega
theorem Sett.empty_not {s : Sett} {k : Nat} (hk : k < 5) (h : (s.opt k).is = true) : s.empty = false := by
  match k, hk with
  | 0, _ | 1, _ | 2, _ | 3, _ | 4, _ => simp only [Sett.opt] at h; simp [Sett.empty, h]
theorem Sett.empty_end {s : Sett} (h : ∀ j, j < 5 → (s.opt j).is = false) : s.empty = true := by
  have h0 := h 0 (by omega)
  have h1 := h 1 (by omega)
  have h2 := h 2 (by omega)
  have h3 := h 3 (by omega)
  have h4 := h 4 (by omega)
  simp only [Sett.opt] at h0 h1 h2 h3 h4
  simp [Sett.empty, h0, h1, h2, h3, h4]
theorem Sett.opt_pos {s : Sett} (h : s.ok = true) {k : Nat} (hk : k < 5) : (s.opt k).is = true → 0 ≤ (s.opt k).n := by
  obtain ⟨h0, h1, h2, h3, h4⟩ := Sett.ok_pos h
  match k, hk with
  | 0, _ => exact h0
  | 1, _ => exact h1
  | 2, _ => exact h2
  | 3, _ => exact h3
  | 4, _ => exact h4
theorem Sett.opt_good {s : Sett} (h : s.good) {k : Nat} (hk : k < 5) : (s.opt k).good := by
  obtain ⟨h0, h1, h2, h3, h4⟩ := h
  match k, hk with
  | 0, _ => exact h0
  | 1, _ => exact h1
  | 2, _ => exact h2
  | 3, _ => exact h3
  | 4, _ => exact h4
end Go.Proofs.YtapcjojlkeaadaaGreatDoor

/-
  Layer 5, walks: attributes are read. Conditions: a reader at a block of its own; texts are machine texts.
-/
namespace Go.Proofs.YtapcjojlkeaadaaGreatDoor
open Go.RowKit
attribute [local go_sem ↓] Go.wp_at_zero Go.wp_at_succ
attribute [local go_sem] rowAt_ptr rowOf_drew rowOf_drewN rowOf_alloc_past rowOf_new
theorem ldAttrR {ρ : Operand → Value} {w : World} {dst : Option Tmp} {ty : TypeId} {pos : String} {after : Array Edge} {g : Option (Nat × Bool)} {x : Operand} (h : (rowAt w 10 (ρ x)).isSome = true) :
    (execOp ρ ⟨dst, .load 25 x, ty, pos, after, g⟩).run Tryz.prog w = .ok (.value (.agg ((rowAt w 10 (ρ x)).getD #[]))) w := ex_load 25 10 Tryz.underlying25 rfl (by kernel_rfl) h
attribute [local go_sem ↓] ldAttrR

def rOne (wide : Bool) (r : Rs) : Nat × Rs := if wide then rU64 r else rU32 r
def rMany : List Bool → Rs → List Nat × Rs
  | [], r => ([], r)
  | b :: bs, r => ((rOne b r).1 :: (rMany bs (rOne b r).2).1, (rMany bs (rOne b r).2).2)
theorem rMany_snoc (l : List Bool) (b : Bool) (r : Rs) : rMany (l ++ [b]) r = ((rMany l r).1 ++ [(rOne b (rMany l r).2).1], (rOne b (rMany l r).2).2) := by
  induction l generalizing r with
  | nil => rfl
  | cons c l ih => simp [rMany, ih]
theorem rMany_length (l : List Bool) (r : Rs) : (rMany l r).1.length = l.length := by
  induction l generalizing r with
  | nil => rfl
  | cons c l ih => simp [rMany, ih]
theorem rOne_len {b : Bool} {r : Rs} (h : r.s.length ≤ 9223372036854775807) : (rOne b r).2.s.length ≤ r.s.length := by
  cases b
  · exact rU32_len h
  · exact rU64_len h
theorem rMany_len (l : List Bool) (r : Rs) (h : r.s.length ≤ 9223372036854775807) : (rMany l r).2.s.length ≤ r.s.length := by
  induction l generalizing r with
  | nil => exact Nat.le_refl _
  | cons c l ih => exact Nat.le_trans (ih _ (Nat.le_trans (rOne_len h) h)) (rOne_len h)
def natsV (l : List Nat) : List Value := l.map fun n : Nat => Value.int .i64 (n : Int)
def attrW : List Bool := [false, false, false, false, false, true, false, true, true, true]
/-- the attributes' cells when k of them were read -/
def attrK (r : Rs) (k : Nat) : List Value := natsV (rMany (attrW.take k) r).1 ++ List.replicate (10 - k) (.int .i64 0)
def restK (r : Rs) (k : Nat) : Rs := (rMany (attrW.take k) r).2
theorem attrK_len (r : Rs) {k : Nat} (hk : k ≤ 10) : (attrK r k).length = 10 := by
  simp only [attrK, natsV, List.length_append, List.length_map, rMany_length, List.length_take, List.length_replicate, attrW, List.length_cons, List.length_nil]
  omega
theorem attrK_succ (r : Rs) {k : Nat} {b : Bool} (hk : k < 10) (hb : attrW[k]? = some b) : (attrK r k).set k (.int .i64 (rOne b (restK r k)).1) = attrK r (k + 1) ∧ restK r (k + 1) = (rOne b (restK r k)).2 := by
  have ht : attrW.take (k + 1) = attrW.take k ++ [b] := by
    rw [List.take_add_one, hb]; rfl
  have hl : (natsV (rMany (attrW.take k) r).1).length = k := by
    simp only [natsV, List.length_map, rMany_length, List.length_take, attrW, List.length_cons, List.length_nil]; omega
  unfold attrK restK
  rw [ht, rMany_snoc]
  refine ⟨?_, rfl⟩
  rw [List.set_append_right _ _ (by omega), hl, Nat.sub_self, show 10 - k = (10 - (k + 1)) + 1 by omega, List.replicate_succ, List.set_cons_zero]
  simp [natsV]
theorem attrK_cell {w : World} {b : Nat} {T : TypeId} {r : Rs} {k j : Nat} (h : Blk w b T (attrK r k)) (hk : k ≤ 10) (hj : j < 10) : ∃ v, w.cell? ⟨b, j, none⟩ = some v := by
  rw [h.cell]
  exact ⟨_, List.getElem?_eq_getElem (by rw [attrK_len r hk]; exact hj)⟩
def attrOf (l : List Nat) : Attr := ⟨l.getD 0 0, l.getD 1 0, l.getD 2 0, l.getD 3 0, l.getD 4 0, l.getD 5 0, l.getD 6 0, l.getD 7 0, l.getD 8 0, l.getD 9 0⟩
theorem attrOf_vals (l : List Nat) (h : l.length = 10) : (attrOf l).vals = natsV l := by
  match l, h with
  | [a, b, c, d, e, f, g, i, j, k], _ => rfl
def rAttr (r : Rs) : Attr × Rs := (attrOf (rMany attrW r).1, (rMany attrW r).2)
theorem attrK_ten (r : Rs) : attrK r 10 = (rAttr r).1.vals ∧ restK r 10 = (rAttr r).2 := by
  refine ⟨?_, rfl⟩
  unfold attrK rAttr
  rw [attrOf_vals _ (rMany_length _ _), show attrW.take 10 = attrW from rfl]
  simp
theorem rAttr_len {r : Rs} (h : r.s.length ≤ 9223372036854775807) : (rAttr r).2.s.length ≤ r.s.length := rMany_len _ _ h
theorem restK_len {r : Rs} (k : Nat) (h : r.s.length ≤ 9223372036854775807) : (restK r k).s.length ≤ 9223372036854775807 := Nat.le_trans (rMany_len _ _ h) h
def fieldPtrs (b : Nat) (l : List Nat) : List Value := l.map fun k => .pointer (some ⟨b, k, none⟩)
theorem fieldPtr_at {w : World} {h b : Nat} {T : TypeId} {l : List Nat} (hB : Blk w h T (fieldPtrs b l)) {k : Nat} (hk : k < l.length) : w.cell? ⟨h, k, none⟩ = some (.pointer (some ⟨b, l[k], none⟩)) := by
  rw [hB.cell]; simp [fieldPtrs, hk]

def zeroA : List Value := [.int .i64 0, .int .i64 0, .int .i64 0, .int .i64 0, .int .i64 0, .int .i64 0, .int .i64 0, .int .i64 0, .int .i64 0, .int .i64 0]
/-- k numbers were read: the reader, the attributes' box, the result's -/
structure RdA (g : Nat) (r : Rs) (w : World) (k : Nat) (wx : World) : Prop where
  R : Reads g (restK r k) w wx
  A : Blk wx (w.heap.size + 1) 25 (attrK r k)
  Z : Blk wx w.heap.size 25 zeroA
  n : g < w.heap.size
theorem RdA.start (g : Nat) (r : Rs) (w : World) (hR : Rd w g r) : RdA g r w 0 ((w.alloc (.cells zeroA.toArray 25)).alloc (.cells zeroA.toArray 25)) := by
  have b0 := Blk.new w 25 zeroA
  have B0 : Below w.heap.size w (w.alloc (.cells zeroA.toArray 25)) := (Below.refl _ _).alloc (Nat.le_refl _) _
  have e0 : (w.alloc (.cells zeroA.toArray 25)).heap.size = w.heap.size + 1 := by simp
  generalize w.alloc (.cells zeroA.toArray 25) = w0 at *
  have b1 := Blk.new w0 25 zeroA
  rw [e0] at b1
  exact ⟨Reads.behind (B0.alloc B0.size _) (Reads.refl (hR.stays (B0.alloc B0.size _))), b1, b0.alloc _, hR.lt⟩
theorem RdA.alloc {g : Nat} {r : Rs} {w wx : World} {k : Nat} (h : RdA g r w k wx) (o : Obj) : RdA g r w k (wx.alloc o) :=
  ⟨h.R.new ((Below.refl _ _).alloc (Nat.le_refl _) o), h.A.alloc o, h.Z.alloc o, h.n⟩
theorem RdA.step {g : Nat} {r : Rs} {w wx wy : World} {k : Nat} {b : Bool} (h : RdA g r w k wx) (hk : k < 10) (hb : attrW[k]? = some b) (hQ : Reads g (rOne b (restK r k)).2 wx wy) :
    RdA g r w (k + 1) (wy.setCell ⟨w.heap.size + 1, k, none⟩ (.int .i64 (rOne b (restK r k)).1)) := by
  obtain ⟨e1, e2⟩ := attrK_succ r hk hb
  have hn := h.n
  refine ⟨⟨⟨?_, ?_⟩, ?_⟩, ?_, ?_, h.n⟩
  · rw [e2]; exact hQ.1.1.far (p := ⟨w.heap.size + 1, k, none⟩) (by simp; omega) _
  · rw [e2]; exact hQ.1.2
  · exact (h.R.2.then_ hQ.2).setCell_ (.inr (by omega)) _
  · have := (hQ.keeps h.A (by omega)).set_ k (.int .i64 (rOne b (restK r k)).1)
    rw [e1] at this
    exact this
  · exact (hQ.keeps h.Z (by omega)).far (p := ⟨w.heap.size + 1, k, none⟩) (by simp) _
theorem RdA.cell {g : Nat} {r : Rs} {w wx wy : World} {k : Nat} {r' : Rs} (h : RdA g r w k wx) (hk : k < 10) (hQ : Reads g r' wx wy) : ∃ v, wy.cell? ⟨w.heap.size + 1, k, none⟩ = some v ∧ wy.frozen? ⟨w.heap.size + 1, k, none⟩ = false := by
  have hn := h.n
  have hb := hQ.keeps h.A (by omega)
  obtain ⟨v, hv⟩ := attrK_cell hb (by omega) hk
  exact ⟨v, hv, hb.frozen _⟩
/-- the pointers' row stands -/
theorem RdA.row {g : Nat} {r : Rs} {w wx wy : World} {k j h0 : Nat} {T : TypeId} {cs : List Value} {r' : Rs} (_h : RdA g r w k wx) (hB : Blk wx h0 T cs) (hh : h0 ≠ w.heap.size + 1) (hg : h0 ≠ g) (hQ : Reads g r' wx wy) (v : Value) : Blk (wy.setCell ⟨w.heap.size + 1, j, none⟩ v) h0 T cs :=
  (hQ.keeps hB hg).far (p := ⟨w.heap.size + 1, j, none⟩) hh v

set_option maxRecDepth 20000 in
set_option maxHeartbeats 3200000 in
theorem attrRead_any (g : Nat) (r : Rs) (w : World) (hR : Rd w g r) (hl : r.s.length ≤ 9223372036854775807) :
    Calls Tryz.prog 112 #[.pointer (some ⟨g, 0, none⟩)] w (Gave g (rAttr r).2 (.agg (rAttr r).1.vals.toArray) w) := by
  have hS := RdA.start g r w hR
  have e1 : ((w.alloc (.cells zeroA.toArray 25)).alloc (.cells zeroA.toArray 25)).heap.size = w.heap.size + 1 + 1 := by simp
  have hP := Blk.new ((w.alloc (.cells zeroA.toArray 25)).alloc (.cells zeroA.toArray 25)) 157 (fieldPtrs (w.heap.size + 1) [0, 1, 2, 3, 4])
  rw [e1] at hP
  clear e1
  have hg := hR.lt
  have hlr := fun k => restK_len (r := r) k hl
  clear hR
  have HL := Lib.hid hlr
  clear hlr
  go_enter Tryz.func112, Tryz.ntmps112
  go_wp2
  change Code.wp _ _ _ _ (((w.alloc (.cells zeroA.toArray 25)).alloc (.cells zeroA.toArray 25)).alloc (.cells (fieldPtrs (w.heap.size + 1) [0, 1, 2, 3, 4]).toArray 157))
  have hS := hS.alloc (.cells (fieldPtrs (w.heap.size + 1) [0, 1, 2, 3, 4]).toArray 157)
  generalize ((w.alloc (.cells zeroA.toArray 25)).alloc (.cells zeroA.toArray 25)).alloc (.cells (fieldPtrs (w.heap.size + 1) [0, 1, 2, 3, 4]).toArray 157) = W0 at *
  go_loopw [15] (fun i wr => ∃ k : Nat, k ≤ 5 ∧ i = .int .i64 k ∧ RdA g r w k wr ∧ Blk wr (w.heap.size + 1 + 1) 157 (fieldPtrs (w.heap.size + 1) [0, 1, 2, 3, 4])) (fun i _ => 5 - (intOf i).toNat)
  case atStart => exact ⟨0, by omega, rfl, hS, hP⟩
  case round =>
    clear hS hP
    obtain ⟨k, hk, rfl, hS, hP⟩ := hrel
    by_cases hlt : k < 5
    · have hp := fieldPtr_at hP (k := k) (by simpa using hlt)
      have hkk : ([0, 1, 2, 3, 4] : List Nat)[k]'(by simpa using hlt) = k := by
        match k, hlt with
        | 0, _ | 1, _ | 2, _ | 3, _ | 4, _ => rfl
      have hw : attrW[k]? = some false := by
        match k, hlt with
        | 0, _ | 1, _ | 2, _ | 3, _ | 4, _ => rfl
      rw [hkk] at hp
      have HW := Lib.hid hw
      clear hkk hw
      go_wp2_with fail
      refine (rU32_any g (restK r k) _ hS.R.1 (HL.out k)).mono ?_
      rintro e w4 ⟨rfl, hQ⟩
      obtain ⟨v, hc, hf⟩ := hS.cell (by omega) hQ
      have HS := Lib.hid (hS.step (by omega) HW.out hQ)
      have HP := Lib.hid (hS.row hP (by omega) (by omega) hQ (.int .i64 (rOne false (restK r k)).1) (j := k))
      clear hS hP hQ hp
      go_wp2
      go_roundw
      case rel => exact ⟨k + 1, by omega, by go_num, HS.out, HP.out⟩
      case measure => simp [intOf]; omega
    · obtain rfl : k = 5 := by omega
      clear hP
      go_wp2_with fail
      refine (rU64_any g (restK r 5) _ hS.R.1 (HL.out 5)).mono ?_
      rintro e w4 ⟨rfl, hQ⟩
      obtain ⟨v, hc, hf⟩ := hS.cell (by omega) hQ
      have hS5 := hS.step (by omega) (b := true) rfl hQ
      clear hS hQ
      change RdA g r w 6 _ at hS5
      go_wp2_with fail
      change Calls _ _ _ (w4.setCell ⟨w.heap.size + 1, 5, none⟩ (.int .i64 (rOne true (restK r 5)).1)) _
      generalize w4.setCell ⟨w.heap.size + 1, 5, none⟩ (.int .i64 (rOne true (restK r 5)).1) = w5 at *
      clear hc hf
      refine (rU32_any g (restK r 6) _ hS5.R.1 (HL.out 6)).mono ?_
      rintro e w6 ⟨rfl, hQ⟩
      obtain ⟨v2, hc, hf⟩ := hS5.cell (by omega) hQ
      have hS6 := hS5.step (by omega) (b := false) rfl hQ
      clear hS5 hQ
      change RdA g r w 7 _ at hS6
      go_wp2
      change Code.wp _ _ _ _ ((w6.setCell ⟨w.heap.size + 1, 6, none⟩ (.int .i64 (rOne false (restK r 6)).1)).alloc (.cells (fieldPtrs (w.heap.size + 1) [7, 8, 9]).toArray 157))
      have hsz : (w6.setCell ⟨w.heap.size + 1, 6, none⟩ (.int .i64 (rOne false (restK r 6)).1)).heap.size = w6.heap.size := by simp [World.setCell]
      have hP := Blk.new (w6.setCell ⟨w.heap.size + 1, 6, none⟩ (.int .i64 (rOne false (restK r 6)).1)) 157 (fieldPtrs (w.heap.size + 1) [7, 8, 9])
      rw [hsz] at hP
      have hS := hS6.alloc (.cells (fieldPtrs (w.heap.size + 1) [7, 8, 9]).toArray 157)
      have hA6 := hS6.A.lt
      rw [hsz] at hA6
      clear hS6 hc hf hsz
      generalize (w6.setCell ⟨w.heap.size + 1, 6, none⟩ (.int .i64 (rOne false (restK r 6)).1)).alloc (.cells (fieldPtrs (w.heap.size + 1) [7, 8, 9]).toArray 157) = W7 at *
      go_loopw [35] (fun i wr => ∃ k : Nat, k ≤ 3 ∧ i = .int .i64 k ∧ RdA g r w (7 + k) wr ∧ Blk wr w6.heap.size 157 (fieldPtrs (w.heap.size + 1) [7, 8, 9])) (fun i _ => 3 - (intOf i).toNat)
      case atStart => exact ⟨0, by omega, rfl, hS, hP⟩
      case round =>
        clear hS hP
        obtain ⟨k, hk, rfl, hS, hP⟩ := hrel
        by_cases hlt : k < 3
        · have hp := fieldPtr_at hP (k := k) (by simpa using hlt)
          have hkk : ([7, 8, 9] : List Nat)[k]'(by simpa using hlt) = 7 + k := by
            match k, hlt with
            | 0, _ | 1, _ | 2, _ => rfl
          have hw : attrW[7 + k]? = some true := by
            match k, hlt with
            | 0, _ | 1, _ | 2, _ => rfl
          rw [hkk] at hp
          have HW := Lib.hid hw
          clear hkk hw
          go_wp2_with fail
          refine (rU64_any g (restK r (7 + k)) _ hS.R.1 (HL.out (7 + k))).mono ?_
          rintro e w8 ⟨rfl, hQ⟩
          obtain ⟨v, hc, hf⟩ := hS.cell (by omega) hQ
          have HS := Lib.hid (hS.step (by omega) HW.out hQ)
          have HP := Lib.hid (hS.row hP (by omega) (by omega) hQ (.int .i64 (rOne true (restK r (7 + k))).1) (j := 7 + k))
          clear hS hP hQ hp
          go_wp2
          go_roundw
          case rel => exact ⟨k + 1, by omega, by go_num, HS.out, HP.out⟩
          case measure => simp [intOf]; omega
        · obtain rfl : k = 3 := by omega
          have hS10 : RdA g r w 10 wr := hS
          obtain ⟨e1, e2⟩ := attrK_ten r
          have hA := hS10.A
          have hR := hS10.R
          rw [e1] at hA
          rw [e2] at hR
          have hZ := hS10.Z
          have rA : rowOf wr (w.heap.size + 1) 0 10 = some (rAttr r).1.vals.toArray := hA.row 0 10 (by simp [Attr.len])
          have HQ := Lib.hid (Reads.lay (cs := (rAttr r).1.vals) hR hZ rfl (by omega) (Nat.le_refl _))
          clear hS10 hA hR hS hP e1 e2
          go_wp2_with (first | (refine wpList_store_whole (by rfl) 25 _ _ (by rfl) w.heap.size (rAttr r).1.vals _ hZ (by rfl) (by rfl) (by rfl) (by kernel_rfl) (Attr.one _) ?_) | fail)
          refine ret_cells w.heap.size 0 (rAttr r).1.vals Tryz.results112 Tryz.underlying25 rfl (by kernel_rfl) rfl HQ.out.2.range rfl ?_
          exact ⟨rfl, HQ.out.1⟩
end Go.Proofs.YtapcjojlkeaadaaGreatDoor
