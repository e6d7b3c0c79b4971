/-
  Layer 5, walks: attributes are read. Conditions: a reader at a block of its own; texts are machine texts.
-/
import Derived.Test.YtmkhpgpnahligaaXdrReadB
import Derived.Test.YtmkhpgpnahligaaApiAttr
import Derived.Test.YtmkhpgpnahligaaAttrPure
import Derived.Test.YtmkhpgpnahligaaLists
namespace Go.Proofs.Ytmkhpgpnahligaa
open Go.RowKit
attribute [local go_sem ↓] Go.wp_at_zero Go.wp_at_succ
attribute [local go_sem] rowAt_ptr rowOf_drew rowOf_drewN rowOf_alloc_past rowOf_new
theorem ldAttrR {ρ : Operand → Value} {w : World} {dst : Option Tmp} {ty : TypeId} {pos : String} {after : Array Edge} {g : Option (Nat × Bool)} {x : Operand} (h : (rowAt w 10 (ρ x)).isSome = true) :
    (execOp ρ ⟨dst, .load 31 x, ty, pos, after, g⟩).run Try.prog w = .ok (.value (.agg ((rowAt w 10 (ρ x)).getD #[]))) w := ex_load 31 10 Try.underlying31 rfl (by kernel_rfl) h
attribute [local go_sem ↓] ldAttrR

def rOne (wide : Bool) (r : Rs) : Nat × Rs := if wide then rU64 r else rU32 r
def rMany : List Bool → Rs → List Nat × Rs
  | [], r => ([], r)
  | b :: bs, r => ((rOne b r).1 :: (rMany bs (rOne b r).2).1, (rMany bs (rOne b r).2).2)
theorem rMany_snoc (l : List Bool) (b : Bool) (r : Rs) : rMany (l ++ [b]) r = ((rMany l r).1 ++ [(rOne b (rMany l r).2).1], (rOne b (rMany l r).2).2) := by
  induction l generalizing r with
  | nil => rfl
  | cons c l ih => simp [rMany, ih]
theorem rMany_length (l : List Bool) (r : Rs) : (rMany l r).1.length = l.length := by
  induction l generalizing r with
  | nil => rfl
  | cons c l ih => simp [rMany, ih]
theorem rOne_len {b : Bool} {r : Rs} (h : r.s.length ≤ 9223372036854775807) : (rOne b r).2.s.length ≤ r.s.length := by
  cases b
  · exact rU32_len h
  · exact rU64_len h
theorem rMany_len (l : List Bool) (r : Rs) (h : r.s.length ≤ 9223372036854775807) : (rMany l r).2.s.length ≤ r.s.length := by
  induction l generalizing r with
  | nil => exact Nat.le_refl _
  | cons c l ih => exact Nat.le_trans (ih _ (Nat.le_trans (rOne_len h) h)) (rOne_len h)
def natsV (l : List Nat) : List Value := l.map fun n : Nat => Value.int .i64 (n : Int)
def attrW : List Bool := [false, false, false, false, false, true, false, true, true, true]
/-- the attributes' cells when k of them were read -/
def attrK (r : Rs) (k : Nat) : List Value := natsV (rMany (attrW.take k) r).1 ++ List.replicate (10 - k) (.int .i64 0)
def restK (r : Rs) (k : Nat) : Rs := (rMany (attrW.take k) r).2
theorem attrK_len (r : Rs) {k : Nat} (hk : k ≤ 10) : (attrK r k).length = 10 := by
  simp only [attrK, natsV, List.length_append, List.length_map, rMany_length, List.length_take, List.length_replicate, attrW, List.length_cons, List.length_nil]
  omega
theorem attrK_succ (r : Rs) {k : Nat} {b : Bool} (hk : k < 10) (hb : attrW[k]? = some b) : (attrK r k).set k (.int .i64 (rOne b (restK r k)).1) = attrK r (k + 1) ∧ restK r (k + 1) = (rOne b (restK r k)).2 := by
  have ht : attrW.take (k + 1) = attrW.take k ++ [b] := by
    rw [List.take_add_one, hb]; rfl
  have hl : (natsV (rMany (attrW.take k) r).1).length = k := by
    simp only [natsV, List.length_map, rMany_length, List.length_take, attrW, List.length_cons, List.length_nil]; omega
  unfold attrK restK
  rw [ht, rMany_snoc]
  refine ⟨?_, rfl⟩
  rw [List.set_append_right _ _ (by omega), hl, Nat.sub_self, show 10 - k = (10 - (k + 1)) + 1 by omega, List.replicate_succ, List.set_cons_zero]
  simp [natsV]
theorem attrK_cell {w : World} {b : Nat} {T : TypeId} {r : Rs} {k j : Nat} (h : Blk w b T (attrK r k)) (hk : k ≤ 10) (hj : j < 10) : ∃ v, w.cell? ⟨b, j, none⟩ = some v := by
  rw [h.cell]
  exact ⟨_, List.getElem?_eq_getElem (by rw [attrK_len r hk]; exact hj)⟩
def attrOf (l : List Nat) : Attr := ⟨l.getD 0 0, l.getD 1 0, l.getD 2 0, l.getD 3 0, l.getD 4 0, l.getD 5 0, l.getD 6 0, l.getD 7 0, l.getD 8 0, l.getD 9 0⟩
theorem attrOf_vals (l : List Nat) (h : l.length = 10) : (attrOf l).vals = natsV l := by
  match l, h with
  | [a, b, c, d, e, f, g, i, j, k], _ => rfl
def rAttr (r : Rs) : Attr × Rs := (attrOf (rMany attrW r).1, (rMany attrW r).2)
theorem attrK_ten (r : Rs) : attrK r 10 = (rAttr r).1.vals ∧ restK r 10 = (rAttr r).2 := by
  refine ⟨?_, rfl⟩
  unfold attrK rAttr
  rw [attrOf_vals _ (rMany_length _ _), show attrW.take 10 = attrW from rfl]
  simp
theorem rAttr_len {r : Rs} (h : r.s.length ≤ 9223372036854775807) : (rAttr r).2.s.length ≤ r.s.length := rMany_len _ _ h
theorem restK_len {r : Rs} (k : Nat) (h : r.s.length ≤ 9223372036854775807) : (restK r k).s.length ≤ 9223372036854775807 := Nat.le_trans (rMany_len _ _ h) h
def fieldPtrs (b : Nat) (l : List Nat) : List Value := l.map fun k => .pointer (some ⟨b, k, none⟩)
theorem fieldPtr_at {w : World} {h b : Nat} {T : TypeId} {l : List Nat} (hB : Blk w h T (fieldPtrs b l)) {k : Nat} (hk : k < l.length) : w.cell? ⟨h, k, none⟩ = some (.pointer (some ⟨b, l[k], none⟩)) := by
  rw [hB.cell]; simp [fieldPtrs, hk]

def zeroA : List Value := [.int .i64 0, .int .i64 0, .int .i64 0, .int .i64 0, .int .i64 0, .int .i64 0, .int .i64 0, .int .i64 0, .int .i64 0, .int .i64 0]
end Go.Proofs.Ytmkhpgpnahligaa
