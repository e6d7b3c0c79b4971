/-
  Layer 22: what is laid: the table of tens' powers and the library's two errors. No condition.
-/
import Derived.Test.YtgifmpobokaejaaGreatDoorM22
import Derived.Test.YtgifmpobokaejaaGreatDoorM35
import Derived.Test.YtgifmpobokaejaaGreatDoorRows
import Derived.Shelf.Vars
import Derived.Stop.LaidErr
import Derived.MakeChecks
import Derived.Lib.LaidTab
namespace Go.Proofs.YtgifmpobokaejaaGreatDoor
open Go.ChangeShapes Go.WideShapes Go.ChangeAt Go.RowKit Go.Deep

theorem tabB_of22 {W : World} {rest : List (String × DataW Unit)} (h : laidMet Tryz.prog (("internal/strconv.uint64pow10", Rows.laid_internal_strconv_uint64pow10) :: rest) W) : Lib.TabIs Tryz.prog W "internal/strconv.uint64pow10" .u64 Lib.pow10Tab := by
  have e : (Rows.laid_internal_strconv_uint64pow10 : DataW Unit) = Lib.tabData .u64 Lib.pow10Tab := by
    have e2 : Lib.pow10Tab = [1, 10, 100, 1000, 10000, 100000, 1000000, 10000000, 100000000, 1000000000, 10000000000, 100000000000, 1000000000000, 10000000000000, 100000000000000, 1000000000000000, 10000000000000000, 100000000000000000, 1000000000000000000, 10000000000000000000] := by decide +kernel
    rw [e2]; rfl
  rw [e] at h
  exact Lib.tabIs_of_head (g := 3) (by kernel_rfl) (by kernel_rfl) (Tryz.underlying185) Tryz.underlying162 (by kernel_rfl) (by kernel_rfl) h
theorem rowErr22 (u : TypeId) (h : Tryz.prog.typeName? 3 u = some "*errors.errorString") : u = 174 :=
  typeName_ptr_named (nm := "errors.errorString") (by rw [show "*" ++ "errors.errorString" = "*errors.errorString" by decide]; kernel_rfl) (by kernel_rfl) (by decide) u (by rw [show "*" ++ "errors.errorString" = "*errors.errorString" by decide]; exact h)
theorem range_of22 {W : World} {rest : List (String × DataW Unit)} (h : laidMet Tryz.prog (("strconv.ErrRange", Rows.laid_strconv_ErrRange) :: rest) W) : ∃ tp p, W.var? Tryz.prog "strconv.ErrRange" = some #[.iface tp p] := by
  obtain ⟨a, s, hv, -⟩ := laid_sentinel (g := 1) (ti := 111) (te := 176) (ts := 9) h (by kernel_rfl) (by kernel_rfl) Tryz.underlying111 rowErr22 Tryz.underlying174 Tryz.underlying176 rfl rfl Tryz.underlying9 (by kernel_rfl) (by kernel_rfl)
  exact ⟨_, _, hv⟩
theorem syntax_of22 {W : World} {rest : List (String × DataW Unit)} (h : laidMet Tryz.prog (("strconv.ErrSyntax", Rows.laid_strconv_ErrSyntax) :: rest) W) : ∃ tp p, W.var? Tryz.prog "strconv.ErrSyntax" = some #[.iface tp p] := by
  obtain ⟨a, s, hv, -⟩ := laid_sentinel (g := 0) (ti := 111) (te := 176) (ts := 9) h (by kernel_rfl) (by kernel_rfl) Tryz.underlying111 rowErr22 Tryz.underlying174 Tryz.underlying176 rfl rfl Tryz.underlying9 (by kernel_rfl) (by kernel_rfl)
  exact ⟨_, _, hv⟩
/-- what is laid stays -/
theorem tabIs_below22 {W V : World} (h : Lib.TabIs Tryz.prog W "internal/strconv.uint64pow10" .u64 Lib.pow10Tab) (hb : Below W.heap.size W V) : Lib.TabIs Tryz.prog V "internal/strconv.uint64pow10" .u64 Lib.pow10Tab := Lib.tabBelow_of_tabIs h V hb
theorem var_below22 {W V : World} {n : String} {cs : Array Value} (h : W.var? Tryz.prog n = some cs) (hb : Below W.heap.size W V) : V.var? Tryz.prog n = some cs := by
  unfold World.var? at h ⊢
  cases hg : Tryz.prog.globalNamed n with
  | none => simp [hg] at h
  | some g =>
    simp only [hg, Option.bind_some] at h ⊢
    have hlt : g < W.heap.size := by
      rcases Nat.lt_or_ge g W.heap.size with h' | h'
      · exact h'
      · simp [Array.getElem?_eq_none h'] at h
    rw [hb.block g hlt]
    exact h
/-- a row that lays the two tables of bits, the table of tens' powers and the two errors -/
theorem lookLaid_of {W : World} {a b : String × DataW Unit} (h : laidMetH Tryz.prog [a, b, ("internal/strconv.uint64pow10", Rows.laid_internal_strconv_uint64pow10), ("strconv.ErrRange", Rows.laid_strconv_ErrRange), ("strconv.ErrSyntax", Rows.laid_strconv_ErrSyntax)] W)
    (hp : ([a, b, ("internal/strconv.uint64pow10", (Rows.laid_internal_strconv_uint64pow10 : DataW Unit)), ("strconv.ErrRange", Rows.laid_strconv_ErrRange), ("strconv.ErrSyntax", Rows.laid_strconv_ErrSyntax)].all fun x => x.2.handleName?.isNone) = true) : LookLaid W := by
  rw [MakeChecks.laidMetH_plain _ _ _ hp] at h
  have ht := tabB_of22 (laidMet.tail (laidMet.tail h))
  obtain ⟨t1, p1, hr⟩ := range_of22 (laidMet.tail (laidMet.tail (laidMet.tail h)))
  obtain ⟨t2, p2, hs⟩ := syntax_of22 (laidMet.tail (laidMet.tail (laidMet.tail (laidMet.tail h))))
  exact fun V hb => ⟨tabIs_below22 ht hb, ⟨t2, p2, var_below22 hs hb⟩, ⟨t1, p1, var_below22 hr hb⟩⟩
end Go.Proofs.YtgifmpobokaejaaGreatDoor
