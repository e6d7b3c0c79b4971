/-
  How a handle's parts that came in are read; what is laid: the parts of no handle, the table of tens' powers. No condition.
-/
import Derived.Test.YtlblenojhfeboaaDoorFhWalkG
import Derived.Test.YtlblenojhfeboaaDoorOpen
import Derived.Test.YtlblenojhfeboaaDoorRows
import Derived.Shelf.Vars
import Derived.Stop.LaidErr
import Derived.MakeChecks
import Derived.Lib.LaidTab
namespace Go.Proofs.YtlblenojhfeboaaDoor
open Go.ChangeShapes Go.WideShapes Go.ChangeAt Go.RowKit Go.Deep
section
variable {H : Type} {enc : TypeId × Value → H} {w : World} {base : Nat} {spare : Nat → Bool} {held : Bool} {fuel : Nat} {cs : List Value} {x : DataW H × List MemPlace}
theorem open_Parts (h : DataW.trod enc Tryd.prog w base spare held fuel 24 cs = some x) : ∃ a : Parts, cs = a.vals ∧ a.good := by
  have hl : cs.length = 3 := (len_of Tryd.underlying24 h).trans (by kernel_rfl)
  obtain ⟨z0, h0, g0⟩ := int_field Tryd.underlying24 h 0 0 _ rfl (e := 3) rfl rfl (by kernel_rfl) Tryd.underlying3
  obtain ⟨z1, h1, g1⟩ := int_field Tryd.underlying24 h 1 1 _ rfl (e := 3) rfl rfl (by kernel_rfl) Tryd.underlying3
  obtain ⟨z2, h2, g2⟩ := int_field Tryd.underlying24 h 2 2 _ rfl (e := 3) rfl rfl (by kernel_rfl) Tryd.underlying3
  have hend : cs.drop 3 = [] := List.drop_of_length_le (by omega)
  have e : cs = cs.drop 0 := rfl
  simp only [Nat.reduceAdd] at h0 h1 h2
  refine ⟨⟨z0, z1, z2⟩, e.trans ?_, ⟨g0, g1, g2⟩⟩
  rw [h0, h1, h2, hend]
  rfl

/-- a number field whose reading is known -/
theorem lit_field {t e : TypeId} {fs : Array Field} (ht : Tryd.prog.underlying t = some (.struct fs)) {ds : List (DataW H)} {p : List MemPlace} (h : DataW.trod enc Tryd.prog w base spare held fuel t cs = some (.agg ds, p))
    (i o : Nat) (f : Field) (hi : fs[i]? = some f) (hT : f.type = e) (ho : f.offset = o) (hc : Tryd.prog.cellsOf e = 1) {k : IntKind} (hk : Tryd.prog.underlying e = some (.int k)) (z : Int) (hz : ds[i]? = some (.lit (.int k z))) : cs.drop o = .int k z :: cs.drop (o + 1) := by
  obtain ⟨xs, n, _, hx, _, hlen, hf⟩ := DataW.trod_struct ht h
  have hi' : i < xs.length := by rw [hlen]; exact (Array.getElem?_eq_some_iff.1 hi).1
  have hy := (hf i f hi).trans (List.getElem?_eq_getElem hi')
  subst hT ho
  rw [hc] at hy
  obtain ⟨z', hz', hx', _⟩ := DataW.trod_int hk hy
  have hds : ds = xs.map (·.1) := by
    have := congrArg Prod.fst hx
    simpa using this
  rw [hds, List.getElem?_map, List.getElem?_eq_getElem hi'] at hz
  simp only [Option.map_some, Option.some.injEq] at hz
  rw [hx'] at hz
  simp only [DataW.lit.injEq, Lit.int.injEq, true_and] at hz
  subst hz
  exact drop_take hz'
end
theorem none_of {W : World} {rest : List (String × DataW Unit)} (h : laidMet Tryd.prog (("posthouse/fh.none", Rows.laid_posthouse_fh_none) :: rest) W) : FhNone W := by
  obtain ⟨ps, ⟨g', t', cs, fuel, p, q, hg', ht', hvar, hd, _, _⟩, _⟩ := h
  obtain rfl : g' = 0 := Option.some.inj (hg'.symm.trans (by kernel_rfl))
  obtain rfl : t' = 24 := Option.some.inj (ht'.symm.trans (by kernel_rfl))
  have hl : cs.toList.length = 3 := (len_of Tryd.underlying24 hd).trans (by kernel_rfl)
  have h0 := lit_field Tryd.underlying24 hd 0 0 _ rfl (e := 3) rfl rfl (by kernel_rfl) Tryd.underlying3 0 rfl
  have h1 := lit_field Tryd.underlying24 hd 1 1 _ rfl (e := 3) rfl rfl (by kernel_rfl) Tryd.underlying3 0 rfl
  have h2 := lit_field Tryd.underlying24 hd 2 2 _ rfl (e := 3) rfl rfl (by kernel_rfl) Tryd.underlying3 0 rfl
  have hend : cs.toList.drop 3 = [] := List.drop_of_length_le (by omega)
  simp only [Nat.reduceAdd] at h0 h1 h2
  have e : cs.toList = parts0.vals := by
    have e : cs.toList = cs.toList.drop 0 := rfl
    rw [e, h0, h1, h2, hend]
    rfl
  have hcs : cs = parts0.vals.toArray := by rw [← e]
  have hr : W.rangeAt 0 0 parts0.vals := fun j v hv => by
    rw [Nat.zero_add, World.var?_cell hg' hvar j, hcs]
    simpa using hv
  refine ⟨rowOf_of hr rfl (by omega), ?_⟩
  have := hr 0 _ rfl
  unfold World.cell? at this
  split at this
  · rename_i hb
    exact (Array.getElem?_eq_some_iff.1 hb).1
  all_goals simp at this
theorem tab_of {W : World} {rest : List (String × DataW Unit)} (h : laidMet Tryd.prog (("internal/strconv.uint64pow10", Rows.laid_internal_strconv_uint64pow10) :: rest) W) : FhTab W := by
  have e : (Rows.laid_internal_strconv_uint64pow10 : DataW Unit) = Lib.tabData .u64 Lib.pow10Tab := by
    have e2 : Lib.pow10Tab = [1, 10, 100, 1000, 10000, 100000, 1000000, 10000000, 100000000, 1000000000, 10000000000, 100000000000, 1000000000000, 10000000000000, 100000000000000, 1000000000000000, 10000000000000000, 100000000000000000, 1000000000000000000, 10000000000000000000] := by decide +kernel
    rw [e2]; rfl
  rw [e] at h
  exact Lib.tabBelow_of_tabIs (Lib.tabIs_of_head (g := 2) (by kernel_rfl) (by kernel_rfl) (Tryd.underlying106) Tryd.underlying82 (by kernel_rfl) (by kernel_rfl) h)
/-- a row that lays the two tables of bits, the table of tens' powers and the parts of no handle -/
theorem laid_of {W : World} {a b : String × DataW Unit} {rest : List (String × DataW Unit)} (h : laidMetH Tryd.prog (a :: b :: ("internal/strconv.uint64pow10", Rows.laid_internal_strconv_uint64pow10) :: ("posthouse/fh.none", Rows.laid_posthouse_fh_none) :: rest) W)
    (hp : ((a :: b :: ("internal/strconv.uint64pow10", (Rows.laid_internal_strconv_uint64pow10 : DataW Unit)) :: ("posthouse/fh.none", Rows.laid_posthouse_fh_none) :: rest).all fun x => x.2.handleName?.isNone) = true) : FhNone W ∧ FhTab W := by
  rw [MakeChecks.laidMetH_plain _ _ _ hp] at h
  exact ⟨none_of (laidMet.tail (laidMet.tail (laidMet.tail h))), tab_of (laidMet.tail (laidMet.tail h))⟩
end Go.Proofs.YtlblenojhfeboaaDoor
