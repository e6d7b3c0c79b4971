/-
  Two arrays of sixteen bytes held against each other by '!='. No condition.
-/
import Derived.Test.YtlblenojhfeboaaDoorFhWalkA
import Derived.ChangeKeysEq
namespace Go.Proofs.YtlblenojhfeboaaDoor
open Go.RowKit

theorem leafsU8 : leafs Tryd.prog 8 5 = some [.i .u8] := by kernel_rfl
theorem part_raw {F : List UInt8} {i : Nat} (hi : i < F.length) (w : World) : (part 5 (rawV F).toArray (i * 1)).run Tryd.prog w = .ok (.int .u8 F[i].toNat) w := by
  have e : ((rawV F).drop (i * 1)).take [Leaf.i .u8].length = [.int .u8 F[i].toNat] := by
    rw [Nat.mul_one, ← List.getElem_cons_drop (show i < (rawV F).length by simpa [rawV] using hi)]
    simp [rawV, u8]
  have h := run_partL (P := Tryd.prog) w leafsU8 (rawV F) (i * 1) (by rw [e]; rfl)
  rw [e] at h
  unfold valOf at h
  rw [show isStruct Tryd.prog 5 = false by kernel_rfl, if_neg Bool.false_ne_true] at h
  exact h
set_option maxRecDepth 100000 in
theorem byte_eq (d : Nat) (a b : Int) (w : World) : (Op.equalIn (d + 1) 5 (.int .u8 a) (.int .u8 b)).run Tryd.prog w = .ok (a == b) w := by
  exact run_equalIn_int w d 5 _ _ _ _ Tryd.underlying5
set_option maxRecDepth 100000 in
theorem raw_items (d : Nat) {F G : List UInt8} (hF : F.length = 16) (hG : G.length = 16) (w : World) : ∀ is : List Nat, (∀ i ∈ is, i < 16) →
    (Op.eqItems (d + 1) 5 1 (rawV F).toArray (rawV G).toArray is).run Tryd.prog w = .ok (is.all fun i => decide (F[i]? = G[i]?)) w
  | [], _ => by simp [Op.eqItems]
  | i :: is, h => by
    have hi := h i (by simp)
    have ih := raw_items d hF hG w is (fun j hj => h j (by simp [hj]))
    have h1 := part_raw (F := F) (i := i) (by omega) w
    have h2 := part_raw (F := G) (i := i) (by omega) w
    have e : (((F[i]'(by omega)).toNat : Int) == ((G[i]'(by omega)).toNat : Int)) = decide (F[i]? = G[i]?) := by
      rw [List.getElem?_eq_getElem (by omega), List.getElem?_eq_getElem (by omega)]
      rw [Bool.eq_iff_iff]
      simp only [beq_iff_eq, decide_eq_true_eq, Option.some.injEq]
      constructor
      · intro h; exact UInt8.toNat_inj.1 (by omega)
      · intro h; rw [h]
    simp only [Op.eqItems, Sem.run_bind, h1, h2, Result.andThen_ok, byte_eq, e, List.all_cons]
    cases decide (F[i]? = G[i]?)
    · simp
    · simpa using ih
set_option maxRecDepth 100000 in
theorem neqRaw {F G : List UInt8} (hF : F.length = 16) (hG : G.length = 16) (w : World) : (binOp .neq 55 (.agg (rawV F).toArray) (.agg (rawV G).toArray)).run Tryd.prog w = .ok (.bool (decide (F ≠ G))) w := by
  obtain ⟨i, hi⟩ := info_of_underlying Tryd.underlying5
  have h := raw_items 9998 hF hG w (List.range 16) (fun i hi => List.mem_range.1 hi)
  rw [run_neq_struct]
  have h2 := run_equalIn_array (P := Tryd.prog) w 9999 (rawV F).toArray (rawV G).toArray Tryd.underlying55 hi
  rw [show Tryd.prog.cellsOf 5 = 1 by kernel_rfl] at h2
  rw [h2, h]
  have e : ((List.range 16).all fun i => decide (F[i]? = G[i]?)) = decide (F = G) := by
    rw [Bool.eq_iff_iff]
    simp only [List.all_eq_true, List.mem_range, decide_eq_true_eq]
    constructor
    · intro h
      apply List.ext_getElem?
      intro i
      rcases Nat.lt_or_ge i 16 with hi | hi
      · exact h i hi
      · rw [List.getElem?_eq_none (by omega), List.getElem?_eq_none (by omega)]
    · intro h i _
      rw [h]
  rw [e]
  simp
end Go.Proofs.YtlblenojhfeboaaDoor
