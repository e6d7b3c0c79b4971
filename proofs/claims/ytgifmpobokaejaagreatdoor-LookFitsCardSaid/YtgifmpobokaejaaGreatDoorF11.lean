/-
  Layer 1, walks: a reader takes bytes. Conditions: a reader at a block of its own; texts are machine texts.
-/
import Derived.Test.YtgifmpobokaejaaGreatDoorF04
import Derived.Deep.Light
import Derived.Laws.Bits64b
import Derived.Test.YtgifmpobokaejaaGreatDoorF02
import Derived.Test.YtgifmpobokaejaaGreatDoorProg
import Derived.Test.YtgifmpobokaejaaGreatDoorF05
import Derived.Test.YtgifmpobokaejaaGreatDoorF06
import Derived.Test.YtgifmpobokaejaaGreatDoorF08
namespace Go.Proofs.YtgifmpobokaejaaGreatDoor
open Go.RowKit
attribute [local go_sem ↓] Go.wp_at_zero Go.wp_at_succ
attribute [local go_sem] rowAt_ptr rowOf_drew rowOf_drewN rowOf_alloc_past rowOf_new
attribute [local go_sem] bs_take bs_drop

theorem Touch.setCell_ {F : Nat → Prop} {a b : World} (h : Touch F a b) {g o : Nat} (hp : F g ∨ a.heap.size ≤ g) (u : Value) : Touch F a (b.setCell ⟨g, o, none⟩ u) := h.setCell (p := ⟨g, o, none⟩) hp u

theorem Touch.setCells {F : Nat → Prop} {a : World} {g : Nat} (hp : F g ∨ a.heap.size ≤ g) : ∀ (vs : List Value) (o : Nat) (b : World), Touch F a b → Touch F a (b.setCells g o vs)
  | [], _, _, h => h
  | v :: vs, o, b, h => by
    rw [World.setCells]
    exact Touch.setCells hp vs (o + 1) _ (h.setCell_ hp v)
/-- '[]byte(s)' -/
def rowsU8 (l : List UInt8) : List (List Value) := l.map fun c => [u8 c]
theorem conv_bytes {P : Program} (w : World) (src dst e : TypeId) (l : List UInt8) (hs : P.underlying src = some .string) (hd : P.underlying dst = some (.slice e)) (he : P.underlying e = some (.int .u8)) :
    ∃ cap W', (convert src dst (.string (bs l))).run P w = .ok (.slice (some ⟨w.heap.size, 0, none⟩) l.length cap) W' ∧ At W' 1 (some ⟨w.heap.size, 0, none⟩) (rowsU8 l) ∧ Below w.heap.size w W' ∧ w.heap.size < W'.heap.size := by
  refine ⟨_, _, run_bytes_of_string w src dst e (bs l) hs hd he, ?_, ((Below.refl _ _).drew).alloc (Nat.le_refl _) _, by simp⟩
  intro i r hr
  simp only [rowsU8, List.getElem?_map, Option.map_eq_some_iff] at hr
  obtain ⟨c, hc, rfl⟩ := hr
  have hi : i < l.length := (List.getElem?_eq_some_iff.1 hc).1
  refine ⟨w.heap.size, 0, rfl, by simp, fun j u hu => ?_⟩
  obtain rfl : j = 0 := by
    have := (List.getElem?_eq_some_iff.1 hu).1
    simp at this
    exact this
  simp only [List.getElem?_cons_zero, Option.some.injEq] at hu
  subst hu
  have h1 := World.cell?_alloc_mark w.drew (bytesRow (bs l) (grownCap w (bs l).size 0 e)) e ((bytesRow (bs l) (grownCap w (bs l).size 0 e)).size, (bytesRow (bs l) (grownCap w (bs l).size 0 e)).size + 1) i
  have h2 := bytesRow_at (bs l) (grownCap w (bs l).size 0 e) i (by simpa using hi)
  have h3 : (bs l).data[i]'(by simpa using hi) = c := by
    have := (List.getElem?_eq_some_iff.1 hc).2
    simpa using this
  rw [h3] at h2
  simpa [Nat.mul_one, u8] using h1.trans h2
theorem rowsU8_cell {w : World} {b : Nat} {l : List UInt8} (h : At w 1 (some ⟨b, 0, none⟩) (rowsU8 l)) {k : Nat} (hk : k < l.length) : w.cell? ⟨b, k, none⟩ = some (.int .u8 (l[k].toNat : Int)) := by
  obtain ⟨b', off, he, -, hc⟩ := h.getD (k := k) (by simpa [rowsU8] using hk)
  injection he with he
  injection he with h1 h2
  subst h1; subst h2
  have := hc 0 (u8 l[k]) (by simp [rowsU8])
  simpa [u8] using this

theorem or_step (v c : Nat) (hv : v < 72057594037927936) (hc : c < 256) : bits .or .u64 (IntKind.u64.wrap ((v : Int) * 256)) (IntKind.u64.wrap (c : Int)) = ((v * 256 + c : Nat) : Int) := by
  have e1 : IntKind.u64.wrap ((v : Int) * 256) = ((v * 256 : Nat) : Int) := by rw [IntKind.wrap_u64]; omega
  have e2 : IntKind.u64.wrap (c : Int) = (c : Int) := by rw [IntKind.wrap_u64]; omega
  rw [e1, e2, bits_or_u64_nat _ _ (by omega) (by omega)]
  congr 1
  have := Nat.shiftLeft_add_eq_or_of_lt (i := 8) (b := c) (by omega) v
  rw [Nat.shiftLeft_eq, show (2 : Nat) ^ 8 = 256 from rfl] at this
  omega

end Go.Proofs.YtgifmpobokaejaaGreatDoor

/-
  Layer 1, walks: a reader takes numbers, truths and options. Conditions: a reader at a block of its own; texts are machine texts.
-/
namespace Go.Proofs.YtgifmpobokaejaaGreatDoor
open Go.RowKit
attribute [local go_sem ↓] Go.wp_at_zero Go.wp_at_succ
attribute [local go_sem] rowAt_ptr rowOf_drew rowOf_drewN rowOf_alloc_past rowOf_new

theorem rNum_err {k : Nat} {r : Rs} (h : r.e ≠ 0) : rNum k r = (0, r) := by simp [rNum, h]
theorem rNum_short {k : Nat} {s : List UInt8} (h : s.length < k) : rNum k ⟨s, 0⟩ = (0, Rs.fail 10) := by simp [rNum, h]
theorem rNum_ok {k : Nat} {s : List UInt8} (h : k ≤ s.length) : rNum k ⟨s, 0⟩ = (beVal (s.take k), ⟨s.drop k, 0⟩) := by
  have : ¬ s.length < k := by omega
  simp [rNum, this]

theorem rNum_lt {k : Nat} {r : Rs} (_h : r.s.length ≤ 9223372036854775807) : (rNum k r).1 < 256 ^ k ∧ (rNum k r).2.s.length ≤ r.s.length := by
  unfold rNum
  split
  · exact ⟨Nat.pow_pos (by omega), Nat.le_refl _⟩
  · split
    · exact ⟨Nat.pow_pos (by omega), by simp [Rs.fail]⟩
    · have := beVal_lt (r.s.take k)
      rw [List.length_take, Nat.min_eq_left (by omega)] at this
      exact ⟨this, by simp⟩

theorem rU32_len {r : Rs} (h : r.s.length ≤ 9223372036854775807) : (rU32 r).2.s.length ≤ r.s.length := (rNum_lt (k := 4) h).2
theorem rU64_len {r : Rs} (h : r.s.length ≤ 9223372036854775807) : (rU64 r).2.s.length ≤ r.s.length := by
  unfold rU64
  split
  · simp [Rs.fail]
  · exact (rNum_lt (k := 8) h).2
theorem rBool_len {r : Rs} (h : r.s.length ≤ 9223372036854775807) : (rBool r).2.s.length ≤ r.s.length := by
  unfold rBool
  split
  · simp [Rs.fail]
  · exact rU32_len h
theorem rOpt_len {r : Rs} (h : r.s.length ≤ 9223372036854775807) : (rOpt r).2.s.length ≤ r.s.length := by
  have h1 := rBool_len h
  have h2 := rU64_len (r := (rBool r).2) (by omega)
  unfold rOpt
  split
  · split <;> (simp only; omega)
  · exact h1

theorem infoOptR : (Tryz.prog.info? 30).map (fun i => (i.zero, i.size)) = some (some (.agg #[.bool false, .int .i64 0]), 2) := by kernel_rfl
/-- an option that was read -/
def optV (o : Bool × Nat) : List Value := [.bool o.1, .int .i64 o.2]

theorem optV_one (o : Bool × Nat) : ∀ v ∈ optV o, v.oneCell' = true := by
  intro v hv
  simp only [optV, List.mem_cons, List.not_mem_nil, or_false] at hv
  rcases hv with rfl | rfl <;> rfl

end Go.Proofs.YtgifmpobokaejaaGreatDoor


/-
  Layer 5, walks: attributes are read. Conditions: a reader at a block of its own; texts are machine texts.
-/
namespace Go.Proofs.YtgifmpobokaejaaGreatDoor
open Go.RowKit
attribute [local go_sem ↓] Go.wp_at_zero Go.wp_at_succ
attribute [local go_sem] rowAt_ptr rowOf_drew rowOf_drewN rowOf_alloc_past rowOf_new
theorem ldAttrR {ρ : Operand → Value} {w : World} {dst : Option Tmp} {ty : TypeId} {pos : String} {after : Array Edge} {g : Option (Nat × Bool)} {x : Operand} (h : (rowAt w 10 (ρ x)).isSome = true) :
    (execOp ρ ⟨dst, .load 40 x, ty, pos, after, g⟩).run Tryz.prog w = .ok (.value (.agg ((rowAt w 10 (ρ x)).getD #[]))) w := ex_load 40 10 Tryz.underlying40 rfl (by kernel_rfl) h
attribute [local go_sem ↓] ldAttrR

def rOne (wide : Bool) (r : Rs) : Nat × Rs := if wide then rU64 r else rU32 r
def rMany : List Bool → Rs → List Nat × Rs
  | [], r => ([], r)
  | b :: bs, r => ((rOne b r).1 :: (rMany bs (rOne b r).2).1, (rMany bs (rOne b r).2).2)
theorem rMany_snoc (l : List Bool) (b : Bool) (r : Rs) : rMany (l ++ [b]) r = ((rMany l r).1 ++ [(rOne b (rMany l r).2).1], (rOne b (rMany l r).2).2) := by
  induction l generalizing r with
  | nil => rfl
  | cons c l ih => simp [rMany, ih]
theorem rMany_length (l : List Bool) (r : Rs) : (rMany l r).1.length = l.length := by
  induction l generalizing r with
  | nil => rfl
  | cons c l ih => simp [rMany, ih]
theorem rOne_len {b : Bool} {r : Rs} (h : r.s.length ≤ 9223372036854775807) : (rOne b r).2.s.length ≤ r.s.length := by
  cases b
  · exact rU32_len h
  · exact rU64_len h
theorem rMany_len (l : List Bool) (r : Rs) (h : r.s.length ≤ 9223372036854775807) : (rMany l r).2.s.length ≤ r.s.length := by
  induction l generalizing r with
  | nil => exact Nat.le_refl _
  | cons c l ih => exact Nat.le_trans (ih _ (Nat.le_trans (rOne_len h) h)) (rOne_len h)
def natsV (l : List Nat) : List Value := l.map fun n : Nat => Value.int .i64 (n : Int)
def attrW : List Bool := [false, false, false, false, false, true, false, true, true, true]
/-- the attributes' cells when k of them were read -/
def attrK (r : Rs) (k : Nat) : List Value := natsV (rMany (attrW.take k) r).1 ++ List.replicate (10 - k) (.int .i64 0)
def restK (r : Rs) (k : Nat) : Rs := (rMany (attrW.take k) r).2
theorem attrK_len (r : Rs) {k : Nat} (hk : k ≤ 10) : (attrK r k).length = 10 := by
  simp only [attrK, natsV, List.length_append, List.length_map, rMany_length, List.length_take, List.length_replicate, attrW, List.length_cons, List.length_nil]
  omega
theorem attrK_succ (r : Rs) {k : Nat} {b : Bool} (hk : k < 10) (hb : attrW[k]? = some b) : (attrK r k).set k (.int .i64 (rOne b (restK r k)).1) = attrK r (k + 1) ∧ restK r (k + 1) = (rOne b (restK r k)).2 := by
  have ht : attrW.take (k + 1) = attrW.take k ++ [b] := by
    rw [List.take_add_one, hb]; rfl
  have hl : (natsV (rMany (attrW.take k) r).1).length = k := by
    simp only [natsV, List.length_map, rMany_length, List.length_take, attrW, List.length_cons, List.length_nil]; omega
  unfold attrK restK
  rw [ht, rMany_snoc]
  refine ⟨?_, rfl⟩
  rw [List.set_append_right _ _ (by omega), hl, Nat.sub_self, show 10 - k = (10 - (k + 1)) + 1 by omega, List.replicate_succ, List.set_cons_zero]
  simp [natsV]
theorem attrK_cell {w : World} {b : Nat} {T : TypeId} {r : Rs} {k j : Nat} (h : Blk w b T (attrK r k)) (hk : k ≤ 10) (hj : j < 10) : ∃ v, w.cell? ⟨b, j, none⟩ = some v := by
  rw [h.cell]
  exact ⟨_, List.getElem?_eq_getElem (by rw [attrK_len r hk]; exact hj)⟩
def attrOf (l : List Nat) : Attr := ⟨l.getD 0 0, l.getD 1 0, l.getD 2 0, l.getD 3 0, l.getD 4 0, l.getD 5 0, l.getD 6 0, l.getD 7 0, l.getD 8 0, l.getD 9 0⟩
theorem attrOf_vals (l : List Nat) (h : l.length = 10) : (attrOf l).vals = natsV l := by
  match l, h with
  | [a, b, c, d, e, f, g, i, j, k], _ => rfl
def rAttr (r : Rs) : Attr × Rs := (attrOf (rMany attrW r).1, (rMany attrW r).2)
theorem attrK_ten (r : Rs) : attrK r 10 = (rAttr r).1.vals ∧ restK r 10 = (rAttr r).2 := by
  refine ⟨?_, rfl⟩
  unfold attrK rAttr
  rw [attrOf_vals _ (rMany_length _ _), show attrW.take 10 = attrW from rfl]
  simp
theorem rAttr_len {r : Rs} (h : r.s.length ≤ 9223372036854775807) : (rAttr r).2.s.length ≤ r.s.length := rMany_len _ _ h
theorem restK_len {r : Rs} (k : Nat) (h : r.s.length ≤ 9223372036854775807) : (restK r k).s.length ≤ 9223372036854775807 := Nat.le_trans (rMany_len _ _ h) h
def fieldPtrs (b : Nat) (l : List Nat) : List Value := l.map fun k => .pointer (some ⟨b, k, none⟩)
theorem fieldPtr_at {w : World} {h b : Nat} {T : TypeId} {l : List Nat} (hB : Blk w h T (fieldPtrs b l)) {k : Nat} (hk : k < l.length) : w.cell? ⟨h, k, none⟩ = some (.pointer (some ⟨b, l[k], none⟩)) := by
  rw [hB.cell]; simp [fieldPtrs, hk]

def zeroA : List Value := [.int .i64 0, .int .i64 0, .int .i64 0, .int .i64 0, .int .i64 0, .int .i64 0, .int .i64 0, .int .i64 0, .int .i64 0, .int .i64 0]
end Go.Proofs.YtgifmpobokaejaaGreatDoor


/-
  Layer 1, walks: the reference's reader takes numbers. Conditions: a reader at a block of its own; texts are machine texts.
-/
namespace Go.Proofs.YtgifmpobokaejaaGreatDoor
open Go.RowKit
attribute [local go_sem ↓] Go.wp_at_zero Go.wp_at_succ
attribute [local go_sem] rowAt_ptr rowOf_drew rowOf_drewN rowOf_alloc_past rowOf_new
attribute [local go_sem] bs_get

theorem beVal_take_le {l : List UInt8} {i k : Nat} (h : i ≤ k) : beVal (l.take i) ≤ beVal (l.take k) := by
  induction k with
  | zero => obtain rfl : i = 0 := by omega
            exact Nat.le_refl _
  | succ k ih =>
    rcases Nat.lt_or_ge i (k + 1) with hlt | hge
    · refine Nat.le_trans (ih (by omega)) ?_
      rcases Nat.lt_or_ge k l.length with hk | hk
      · rw [List.take_succ_eq_append_getElem hk, beVal_snoc]; omega
      · rw [List.take_of_length_le hk, List.take_of_length_le (by omega)]; exact Nat.le_refl _
    · obtain rfl : i = k + 1 := by omega
      exact Nat.le_refl _
theorem beVal_top {b : UInt8} {l : List UInt8} (h : l.length = 7) : 9223372036854775808 ≤ beVal (b :: l) ↔ 127 < b.toNat := by
  have := beVal_lt l
  rw [h] at this
  simp only [beVal, h]
  omega
theorem drop_get {S : List UInt8} {a k : Nat} (h : a + k < S.length) : (S.drop a)[k]? = some (S[a + k]'h) := by
  rw [List.getElem?_drop]; exact List.getElem?_eq_getElem h

theorem rU32_e {r : Rs} (h : (rU32 r).2.e ≠ 0) : (rU32 r).1 = 0 := by
  unfold rU32 rNum at *
  split at h <;> rename_i h1
  · simp [h1]
  · split at h <;> rename_i h2
    · simp [h1, h2]
    · exact absurd rfl h

end Go.Proofs.YtgifmpobokaejaaGreatDoor


/-
  Layers 1 and 5, walks: the reference's reader takes options, attributes, what was and is. Conditions: a reader at a block of its own.
-/
namespace Go.Proofs.YtgifmpobokaejaaGreatDoor
open Go.RowKit
attribute [local go_sem ↓] Go.wp_at_zero Go.wp_at_succ
attribute [local go_sem] rowAt_ptr rowOf_drew rowOf_drewN rowOf_alloc_past rowOf_new
attribute [local go_sem ↓] ldAttrR

attribute [local go_sem] Attr.at0 Attr.lat0 Attr.at1 Attr.lat1 Attr.at2 Attr.lat2 Attr.at3 Attr.lat3 Attr.at4 Attr.lat4 Attr.at5 Attr.lat5 Attr.at6 Attr.lat6 Attr.at7 Attr.lat7 Attr.at8 Attr.lat8 Attr.at9 Attr.lat9 Attr.sub0_10 Attr.lsub0_10 Attr.len Opt.at0 Opt.lat0 Opt.at1 Opt.lat1 Opt.sub0_2 Opt.lsub0_2 Opt.len Sett.at0 Sett.lat0 Sett.at1 Sett.lat1 Sett.at2 Sett.lat2 Sett.at3 Sett.lat3 Sett.at4 Sett.lat4 Sett.at5 Sett.lat5 Sett.at6 Sett.lat6 Sett.at7 Sett.lat7 Sett.at8 Sett.lat8 Sett.at9 Sett.lat9 Sett.sub0_10 Sett.lsub0_10 Sett.sub0_2 Sett.lsub0_2 Sett.sub2_2 Sett.lsub2_2 Sett.sub4_2 Sett.lsub4_2 Sett.sub6_2 Sett.lsub6_2 Sett.sub8_2 Sett.lsub8_2 Sett.len Post.at0 Post.lat0 Post.at1 Post.lat1 Post.at2 Post.lat2 Post.at3 Post.lat3 Post.at4 Post.lat4 Post.at5 Post.lat5 Post.at6 Post.lat6 Post.at7 Post.lat7 Post.at8 Post.lat8 Post.at9 Post.lat9 Post.at10 Post.lat10 Post.sub0_11 Post.lsub0_11 Post.sub1_10 Post.lsub1_10 Post.len Wcc.at0 Wcc.lat0 Wcc.at1 Wcc.lat1 Wcc.at2 Wcc.lat2 Wcc.at3 Wcc.lat3 Wcc.at4 Wcc.lat4 Wcc.at5 Wcc.lat5 Wcc.at6 Wcc.lat6 Wcc.at7 Wcc.lat7 Wcc.at8 Wcc.lat8 Wcc.at9 Wcc.lat9 Wcc.at10 Wcc.lat10 Wcc.at11 Wcc.lat11 Wcc.at12 Wcc.lat12 Wcc.sub0_13 Wcc.lsub0_13 Wcc.sub0_2 Wcc.lsub0_2 Wcc.sub2_11 Wcc.lsub2_11 Wcc.sub3_10 Wcc.lsub3_10 Wcc.len

end Go.Proofs.YtgifmpobokaejaaGreatDoor


/-
  Layer 8, walks: which letters a procedure's results have (written by wip/tools/genfields8.py). No condition.
-/
namespace Go.Proofs.YtgifmpobokaejaaGreatDoor
open Go.RowKit
attribute [local go_sem ↓] Go.wp_at_zero Go.wp_at_succ
attribute [local go_sem] rowAt_ptr rowOf_drew rowOf_drewN rowOf_alloc_past rowOf_new

def lettersP : List (List UInt8) := [[], [97], [119], [104, 97, 68], [97, 120], [97, 100], [97, 101, 100], [119, 99, 115, 118], [104, 97, 119], [104, 97, 119], [104, 97, 119], [104, 97, 119], [119], [119], [119, 87], [97, 87], [97, 118, 108, 101], [97, 118, 112, 101], [97, 110], [97, 110], [97, 110], [119, 118]]
def lettersQ : List (List UInt8) := [[], [], [119], [68], [97], [97], [97], [119], [119], [119], [119], [119], [119], [119], [119, 87], [97, 87], [97], [97], [97], [97], [97], [119]]
def lettersPQ (fine : Bool) : List (List UInt8) := if fine then lettersP else lettersQ
/-- the letters of a procedure's results -/
def pFields (p : Int) (fine : Bool) : List UInt8 := if p < 0 then [] else (lettersPQ fine).getD p.toNat []
theorem pFields_cases (p : Int) : p < 0 ∨ 22 ≤ p ∨ p = 0 ∨ p = 1 ∨ p = 2 ∨ p = 3 ∨ p = 4 ∨ p = 5 ∨ p = 6 ∨ p = 7 ∨ p = 8 ∨ p = 9 ∨ p = 10 ∨ p = 11 ∨ p = 12 ∨ p = 13 ∨ p = 14 ∨ p = 15 ∨ p = 16 ∨ p = 17 ∨ p = 18 ∨ p = 19 ∨ p = 20 ∨ p = 21 := by omega
theorem pFields_low {p : Int} {fine : Bool} (h : p < 0) : pFields p fine = [] := by simp [pFields, h]
theorem pFields_high {p : Int} {fine : Bool} (h : 22 ≤ p) : pFields p fine = [] := by
  have h1 : ¬ p < 0 := by omega
  have h2 : (lettersPQ fine).length ≤ p.toNat := by
    have : (lettersPQ fine).length = 22 := by cases fine <;> rfl
    omega
  simp [pFields, h1, List.getD, List.getElem?_eq_none h2]

end Go.Proofs.YtgifmpobokaejaaGreatDoor


/-
  Layer 8, walks: which statuses are known (written by wip/tools/genfields8.py). No condition.
-/
namespace Go.Proofs.YtgifmpobokaejaaGreatDoor
open Go.RowKit
attribute [local go_sem ↓] Go.wp_at_zero Go.wp_at_succ
attribute [local go_sem] rowAt_ptr rowOf_drew rowOf_drewN rowOf_alloc_past rowOf_new

def statsP : List Int := [0, 1, 2, 13, 17, 20, 21, 22, 27, 28, 31, 63, 66, 69, 70, 10001, 10002, 10003, 10005, 10007]
/-- is a status known -/
def pKnown (s : Int) : Bool := statsP.contains s
def statsV (l : List Int) : List Value := l.map fun n => .int .i64 n
theorem pKnown_leaf {b : Bool} {s : Int} (h : b = pKnown s) : Ending.returned (.bool b) = .returned (.bool (pKnown s)) := by rw [h]

set_option maxHeartbeats 1600000 in
theorem refKnown8_any (s : Int) (w : World) : Calls Tryz.prog 45 #[.int .i64 s] w fun e w' => e = .returned (.bool (pKnown s)) ∧ Below w.heap.size w w' := by
  have hA := Blk.new w 3 (statsV statsP)
  have hB : Below w.heap.size w (w.alloc (.cells (statsV statsP).toArray 3)) := (Below.refl _ _).alloc (Nat.le_refl _) _
  go_enter Tryz.func45, Tryz.ntmps45
  go_wp2
  change Code.wp _ _ _ _ (w.alloc (.cells (statsV statsP).toArray 3))
  generalize w.alloc (.cells (statsV statsP).toArray 3) = w1 at *
  have hcell : ∀ (k : Nat) (hk : k < statsP.length), w1.cell? ⟨w.heap.size, k, none⟩ = some (.int .i64 statsP[k]) := fun k hk => by
    rw [hA.cell k]
    simp [statsV, hk]
  have hll : statsP.length = 20 := rfl
  have HP := Lib.hid (show pKnown s = statsP.contains s from rfl)
  generalize statsP = L at *
  clear hA
  go_loopw [4] (fun iv wr => ∃ k : Nat, k ≤ 20 ∧ iv = .int .i64 k ∧ (∀ (j : Nat) (hj : j < L.length), j < k → L[j] ≠ s) ∧ wr = w1) (fun iv _ => 20 - (intOf iv).toNat)
  case atStart => exact ⟨0, by omega, rfl, fun _ _ h => absurd h (Nat.not_lt_zero _), rfl⟩
  case round =>
    obtain ⟨k, hk, rfl, hno, rfl⟩ := hrel
    by_cases hlt : k < 20
    · have hkl : k < L.length := by omega
      have hc := hcell k hkl
      by_cases he : L[k] = s
      · have HV := Lib.hid (show pKnown s = true by rw [HP.out, List.contains_iff_mem, ← he]; exact List.getElem_mem hkl)
        have hq : (L[k] == s) = true := by simpa using he
        clear hno hcell he
        generalize L[k] = x at *
        go_wp2
        go_ret
        rw [HV.out]
        exact ⟨rfl, hB⟩
      · have hq : (L[k] == s) = false := beq_false_of_ne he
        have HN := Lib.hid (show ∀ (j : Nat) (hj : j < L.length), j < k + 1 → L[j] ≠ s from fun j hj h => by
          rcases Nat.lt_or_ge j k with h3 | h3
          · exact hno j hj h3
          · obtain rfl : j = k := by omega
            exact he)
        clear hno hcell he
        generalize L[k] = x at *
        go_wp2
        go_roundw
        case rel => exact ⟨k + 1, by omega, by go_num, HN.out, trivial⟩
        case measure => simp [intOf]; omega
    · obtain rfl : k = 20 := by omega
      have HV := Lib.hid (show pKnown s = false by
        rw [HP.out, ← Bool.not_eq_true, List.contains_iff_mem]
        intro hm
        obtain ⟨j, hj, e⟩ := List.getElem_of_mem hm
        exact hno j hj (by omega) e)
      clear hno hcell
      go_wp2
      go_ret
      rw [HV.out]
      exact ⟨rfl, hB⟩
end Go.Proofs.YtgifmpobokaejaaGreatDoor


/-
  Layer 8, walks of the document's own: which letters a procedure's results have. No condition.
-/
namespace Go.Proofs.YtgifmpobokaejaaGreatDoor
open Go.RowKit
attribute [local go_sem ↓] Go.wp_at_zero Go.wp_at_succ
attribute [local go_sem] rowAt_ptr rowOf_drew rowOf_drewN rowOf_alloc_past rowOf_new

def strsV (l : List (List UInt8)) : List Value := l.map fun s => .string (bs s)
theorem strsV_at {w : World} {h : Nat} {T : TypeId} {l : List (List UInt8)} (hB : Blk w h T (strsV l)) {k : Nat} (hk : k < l.length) : w.cell? ⟨h, k, none⟩ = some (.string (bs (l.getD k []))) := by
  rw [hB.cell]; simp [strsV, List.getD, hk]
theorem pFields_nat (k : Nat) (fine : Bool) : pFields (k : Int) fine = (lettersPQ fine).getD k [] := by
  unfold pFields; rw [if_neg (by omega), Int.toNat_natCast]

set_option maxRecDepth 20000 in
set_option maxHeartbeats 800000 in
theorem refFields8_any (p : Int) (fine : Bool) (w : World) : Calls Tryz.prog 46 #[.int .i64 p, .bool fine] w fun e w' => e = .returned (.string (bs (pFields p fine))) ∧ Below w.heap.size w w' := by
  have hP := Blk.new w 9 (strsV lettersP)
  have hB1 : Below w.heap.size w (w.alloc (.cells (strsV lettersP).toArray 9)) := (Below.refl _ _).alloc (Nat.le_refl _) _
  have hs1 : (w.alloc (.cells (strsV lettersP).toArray 9)).heap.size = w.heap.size + 1 := by simp
  obtain ⟨w1, hw1⟩ : ∃ u, u = w.alloc (.cells (strsV lettersP).toArray 9) := ⟨_, rfl⟩
  rw [← hw1] at hP hB1 hs1
  have hP2 := hP.alloc (.cells (strsV lettersQ).toArray 9)
  have hQ2 := Blk.new w1 9 (strsV lettersQ)
  rw [hs1] at hQ2
  have hB2 := hB1.alloc hB1.size (.cells (strsV lettersQ).toArray 9)
  obtain ⟨w2, hw2⟩ : ∃ u, u = w1.alloc (.cells (strsV lettersQ).toArray 9) := ⟨_, rfl⟩
  rw [← hw2] at hP2 hQ2 hB2
  have hcP := fun k hk => strsV_at hP2 (k := k) hk
  have hcQ := fun k hk => strsV_at hQ2 (k := k) hk
  have HW := Lib.hid (And.intro hw1 hw2)
  have HB := Lib.hid hB2
  clear hP hB1 hs1 hw1 hw2 hP2 hQ2 hB2
  go_enter Tryz.func46, Tryz.ntmps46
  go_upto_region 3 with fail
  change Code.wp _ _ _ _ ((w.alloc (.cells (strsV lettersP).toArray 9)).alloc (.cells (strsV lettersQ).toArray 9))
  rw [← HW.out.1, ← HW.out.2]
  clear HW
  by_cases h1 : p < 0
  · have HV := Lib.hid (pFields_low (fine := fine) h1)
    clear hcP hcQ
    go_wp2
    go_ret
    rw [HV.out]
    exact ⟨rfl, HB.out⟩
  · by_cases h2 : 22 ≤ p
    · have HV := Lib.hid (pFields_high (fine := fine) h2)
      clear hcP hcQ
      go_wp2
      go_ret
      rw [HV.out]
      exact ⟨rfl, HB.out⟩
    · obtain ⟨k, rfl⟩ : ∃ k : Nat, p = k := ⟨p.toNat, by omega⟩
      have hk0 : (0 : Int) ≤ (k : Int) := Int.natCast_nonneg _
      have hk1 : (k : Int) < 22 := by omega
      have hcp := hcP k (show k < 22 by omega)
      have hcq := hcQ k (show k < 22 by omega)
      cases fine with
      | true =>
        have HV := Lib.hid (show pFields (k : Int) true = lettersP.getD k [] from pFields_nat k true)
        generalize lettersP.getD k [] = l at *
        clear hcP hcQ hcq
        go_wp2
        go_ret
        rw [HV.out]
        exact ⟨rfl, HB.out⟩
      | false =>
        have HV := Lib.hid (show pFields (k : Int) false = lettersQ.getD k [] from pFields_nat k false)
        generalize lettersQ.getD k [] = l at *
        clear hcP hcQ hcp
        go_wp2
        go_ret
        rw [HV.out]
        exact ⟨rfl, HB.out⟩
end Go.Proofs.YtgifmpobokaejaaGreatDoor


/-
  Layer 7, walks: something is done with each letter, till that is false. Conditions: what is done keeps iterators, and bears that the own one goes on.
-/
namespace Go.Proofs.YtgifmpobokaejaaGreatDoor
open Go.RowKit
attribute [local go_sem ↓] Go.wp_at_zero Go.wp_at_succ
attribute [local go_sem] rowAt_ptr rowOf_drew rowOf_drewN rowOf_alloc_past rowOf_new

theorem lettersC_ascii : ∀ s ∈ lettersC, ∀ c ∈ s, c.toNat < 128 := by decide
theorem cFields_ascii (p : Int) {k : Nat} (hk : k < (cFields p).length) : (cFields p)[k].toNat < 128 := by
  have hm : (cFields p)[k] ∈ cFields p := List.getElem_mem hk
  generalize (cFields p)[k] = c at *
  unfold cFields at hm
  split at hm
  · simp at hm
  · rcases Nat.lt_or_ge p.toNat lettersC.length with h | h
    · have he : lettersC.getD p.toNat [] = lettersC[p.toNat] := by simp [List.getD, List.getElem?_eq_getElem h]
      rw [he] at hm
      exact lettersC_ascii _ (List.getElem_mem h) _ hm
    · simp [List.getD, List.getElem?_eq_none h] at hm
/-- where an iterator is -/
def itrPos (w : World) (b : Nat) : Nat := match w.heap[b]? with
  | some (.stringIter _ p) => p
  | _ => 0
theorem Itr.pos_ {w : World} {b : Nat} {l : List UInt8} {pos : Nat} (h : Itr w b l pos) : itrPos w b = pos := by
  unfold Itr at h
  simp [itrPos, h]
/-- what comes of each letter in turn -/
def EachPost (n : Nat) (ok : Nat → Bool) (S : Nat → World → Prop) (e : Ending) (w' : World) : Prop :=
  ∃ m, S m w' ∧ ((m = n ∧ (∀ j, j < n → ok j = true) ∧ e = .returned (.bool true)) ∨ (∃ j, m = j + 1 ∧ j < n ∧ (∀ i, i < j → ok i = true) ∧ ok j = false ∧ e = .returned (.bool false)))

end Go.Proofs.YtgifmpobokaejaaGreatDoor


/-
  Memory words for regions that draw their order and read by one reader. No condition.
-/
namespace Go.Proofs.YtgifmpobokaejaaGreatDoor
open Go.RowKit
/-- what holds of every world that such a region comes through, that began in w, with the reader at block g -/
abbrev StQ (g : Nat) (w W : World) : Prop := (∀ b o, b < w.heap.size → b ≠ g → W.cell? ⟨b, o, none⟩ = w.cell? ⟨b, o, none⟩) ∧ (∀ b o n, b < w.heap.size → b ≠ g → rowOf W b o n = rowOf w b o n) ∧ Touch (fun k => k = g) w W
theorem StQ.of {g : Nat} {w W : World} (h : Touch (fun k => k = g) w W) : StQ g w W := ⟨fun _ _ hb hn => h.cell hb hn, fun _ _ _ hb hn => h.row hb hn _ _, h⟩
theorem StQ.start {g : Nat} {w : World} : StQ g w w.drew := StQ.of (Touch.refl _ _).drew
theorem StQ.call {g : Nat} {w W W' : World} (h : StQ g w W) (hb : Touch (fun k => k = g) W W') : StQ g w W' := StQ.of (h.2.2.then_ hb)
theorem StQ.alloc {g : Nat} {w W : World} (h : StQ g w W) (o : Obj) : StQ g w (W.alloc o) := StQ.of (h.2.2.alloc o)
end Go.Proofs.YtgifmpobokaejaaGreatDoor


/-
  Layer 1, walks: what strings.Trim leaves of a text whose noughts are cut off; a text, and what fills it up, are taken. Conditions: sizes.
-/
namespace Go.Proofs.YtgifmpobokaejaaGreatDoor
open Go.RowKit
attribute [local go_sem ↓] Go.wp_at_zero Go.wp_at_succ
attribute [local go_sem] rowAt_ptr rowOf_drew rowOf_drewN rowOf_alloc_past rowOf_new
attribute [local go_sem] bs_get

theorem last_at {l : List UInt8} {k : Nat} (hk : k < l.length) : (l.take (k + 1)).getLast? = some l[k] := by
  rw [List.take_succ_eq_append_getElem hk, List.getLast?_append]; simp
theorem drop_zeros {l : List UInt8} {k : Nat} (hk : k < l.length) (h0 : l[k] = 0) (h : ∀ x ∈ l.drop (k + 1), x = 0) : ∀ x ∈ l.drop k, x = 0 := by
  intro x hx
  rw [List.drop_eq_getElem_cons hk] at hx
  rcases List.mem_cons.1 hx with rfl | hx
  · exact h0
  · exact h x hx
def TrimR (l : List UInt8) (w : World) (e : Ending) (w' : World) : Prop := ∃ m z, e = .returned (.string (bs m)) ∧ l = m ++ z ∧ (∀ x ∈ z, x = 0) ∧ (∀ x, m.getLast? = some x → x ≠ 0) ∧ w = w'
def TrimL (l : List UInt8) (w : World) (e : Ending) (w' : World) : Prop := ∃ m z, e = .returned (.string (bs m)) ∧ l = z ++ m ∧ (∀ x ∈ z, x = 0) ∧ (∀ x, m.head? = some x → x ≠ 0) ∧ w = w'
def strLen : Value → Nat
  | .string b => b.size
  | _ => 0
theorem strLen_bs (l : List UInt8) : strLen (.string (bs l)) = l.length := rfl
theorem take_zeros {l : List UInt8} {k : Nat} (hk : k < l.length) (h0 : l[k] = 0) (h : ∀ x ∈ l.take k, x = 0) : ∀ x ∈ l.take (k + 1), x = 0 := by
  intro x hx
  rw [List.take_succ_eq_append_getElem hk] at hx
  rcases List.mem_append.1 hx with hx | hx
  · exact h x hx
  · simp at hx; subst hx; exact h0
def Trimmed (l : List UInt8) (w : World) (e : Ending) (w' : World) : Prop := ∃ m, e = .returned (.string (bs m)) ∧ (m = [] ↔ l.all (· == 0) = true) ∧ Below w.heap.size w w'
theorem trimmed_iff {l m m1 z1 z2 : List UInt8} (h1 : l = m1 ++ z1) (h2 : m1 = z2 ++ m) (hz1 : ∀ x ∈ z1, x = 0) (hz2 : ∀ x ∈ z2, x = 0) (hm : ∀ x, m.head? = some x → x ≠ 0) : m = [] ↔ l.all (· == 0) = true := by
  subst h1 h2
  rw [List.all_eq_true]
  constructor
  · rintro rfl
    intro x hx
    simp only [List.append_nil, List.mem_append] at hx
    rcases hx with hx | hx
    · simpa using hz2 x hx
    · simpa using hz1 x hx
  · intro h
    cases m with
    | nil => rfl
    | cons a m =>
      have := h a (by simp)
      exact absurd (by simpa using this) (hm a rfl)
end Go.Proofs.YtgifmpobokaejaaGreatDoor


/-
  Layer 1, walks: a text of so many bytes, and what fills it up, are taken; texts with their length; what is left. Conditions: sizes.
-/
namespace Go.Proofs.YtgifmpobokaejaaGreatDoor
open Go.RowKit
attribute [local go_sem ↓] Go.wp_at_zero Go.wp_at_succ
attribute [local go_sem] rowAt_ptr rowOf_drew rowOf_drewN rowOf_alloc_past rowOf_new

/-- the first bytes are taken -/
def rTake1 (n : Nat) (r : Rs) : List UInt8 × Rs := if r.e ≠ 0 then ([], r) else if r.s.length < n then ([], Rs.fail 10) else (r.s.take n, ⟨r.s.drop n, 0⟩)
/-- the noughts behind them are taken -/
def rTake2 (p : Nat) (r : Rs) : Rs := if r.e ≠ 0 then r else if r.s.length < p then Rs.fail 10 else if (r.s.take p).all (· == 0) then ⟨r.s.drop p, 0⟩ else Rs.fail 11
theorem rPadded_eq (n : Nat) (r : Rs) : rPadded n r = (if (rTake2 (padn n) (rTake1 n r).2).e ≠ 0 then [] else (rTake1 n r).1, rTake2 (padn n) (rTake1 n r).2) := by
  unfold rPadded rTake1 rTake2
  by_cases h1 : r.e ≠ 0
  · simp [h1]
  · rw [if_neg h1, if_neg h1]
    by_cases h2 : r.s.length < n
    · simp [h2, Rs.fail]
    · rw [if_neg h2, if_neg h2]
      simp only [ne_eq, not_true_eq_false, if_false]
      by_cases h3 : (r.s.drop n).length < padn n
      · rw [if_pos h3, if_pos h3]; simp [Rs.fail]
      · rw [if_neg h3, if_neg h3]
        by_cases h4 : ((r.s.drop n).take (padn n)).all (· == 0) = true
        · rw [if_pos h4, if_pos h4]; simp
        · rw [if_neg h4, if_neg h4]; simp [Rs.fail]

theorem rTake1_len {n : Nat} {r : Rs} (_h : r.s.length ≤ 9223372036854775807) : (rTake1 n r).2.s.length ≤ r.s.length := by
  unfold rTake1; split
  · exact Nat.le_refl _
  · split
    · simp [Rs.fail]
    · simp
theorem rTake2_len {n : Nat} {r : Rs} (_h : r.s.length ≤ 9223372036854775807) : (rTake2 n r).s.length ≤ r.s.length := by
  unfold rTake2; split
  · exact Nat.le_refl _
  · split
    · simp [Rs.fail]
    · split
      · simp
      · simp [Rs.fail]
theorem rPadded_len {n : Nat} {r : Rs} (h : r.s.length ≤ 9223372036854775807) : (rPadded n r).2.s.length ≤ r.s.length := by
  rw [rPadded_eq]; exact Nat.le_trans (rTake2_len (Nat.le_trans (rTake1_len h) h)) (rTake1_len h)

theorem rU32_lt {r : Rs} (h : r.s.length ≤ 9223372036854775807) : (rU32 r).1 < 4294967296 := (rNum_lt (k := 4) h).1

end Go.Proofs.YtgifmpobokaejaaGreatDoor


/-
  Layer 1, walks: the document's reading of texts of so many bytes, and of what is left. Conditions: none but machine numbers.
-/
namespace Go.Proofs.YtgifmpobokaejaaGreatDoor
open Go.RowKit
attribute [local go_sem ↓] Go.wp_at_zero Go.wp_at_succ
attribute [local go_sem] rowAt_ptr rowOf_drew rowOf_drewN rowOf_alloc_past rowOf_new
attribute [local go_sem] bs_get

theorem bs_cut (s : List UInt8) (a n : Nat) : (bs s).extract a (a + n) = bs ((s.drop a).take n) := by
  apply ByteArray.ext
  simp [List.extract]
theorem padn_step {m : Nat} (h : m % 4 ≠ 0) : padn m = padn (m + 1) + 1 := by unfold padn; omega
theorem padn_zero {m : Nat} (h : m % 4 = 0) : padn m = 0 := by unfold padn; omega
theorem rFixed_short {n : Nat} {s : List UInt8} (h : s.length < n + padn n) : rFixed n ⟨s, 0⟩ = ([], Rs.fail 10) := by
  have hn : ¬ ((n : Int) < 0) := by omega
  simp only [rFixed, ne_eq, not_true_eq_false, if_false, hn, rPadded, Int.toNat_natCast]
  by_cases h1 : s.length < n
  · rw [if_pos h1]
  · rw [if_neg h1, if_pos (by rw [List.length_drop]; omega)]
theorem zeros_next {l : List UInt8} {j : Nat} (hj : j < l.length) (h : (l.take j).all (· == 0) = true) (h0 : l[j] = 0) : (l.take (j + 1)).all (· == 0) = true := by
  rw [List.take_succ_eq_append_getElem hj, List.all_append, h]; simp [h0]
theorem zeros_not {l : List UInt8} {j p : Nat} (hj : j < l.length) (hp : j < p) (h0 : l[j] ≠ 0) : ¬ (l.take p).all (· == 0) = true := by
  intro h
  rw [List.all_eq_true] at h
  have : (l.take p)[j]? = some l[j] := by rw [List.getElem?_take, if_pos hp, List.getElem?_eq_getElem hj]
  exact h0 (by simpa using h _ (List.mem_of_getElem? this))
theorem rFixed_pads {n : Nat} {s : List UInt8} (h : n + padn n ≤ s.length) : rFixed n ⟨s, 0⟩ = if ((s.drop n).take (padn n)).all (· == 0) = true then (s.take n, ⟨s.drop (n + padn n), 0⟩) else ([], Rs.fail 11) := by
  have hn : ¬ ((n : Int) < 0) := by omega
  simp only [rFixed, ne_eq, not_true_eq_false, if_false, hn, rPadded, Int.toNat_natCast]
  rw [if_neg (by omega), if_neg (by rw [List.length_drop]; omega), List.drop_drop]

end Go.Proofs.YtgifmpobokaejaaGreatDoor
