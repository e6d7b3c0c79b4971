/-
  Layer 4, walks: a byte, shown. No condition.
-/
import Derived.Test.YtjjlkdmpnpejjaaDoorNamePureB
import Derived.Test.YtjjlkdmpnpejjaaDoorProg
import Derived.Test.YtjjlkdmpnpejjaaDoorBytes
namespace Go.Proofs.YtjjlkdmpnpejjaaDoor
open Go.RowKit
attribute [local go_sem ↓] Go.wp_at_zero Go.wp_at_succ
attribute [local go_sem] rowAt_ptr rowOf_drew rowOf_drewN rowOf_alloc_past rowOf_new
theorem bs_part (s : List UInt8) (a b : Nat) : (bs s).extract a b = bs ((s.drop a).take (b - a)) := by
  apply ByteArray.ext
  simp [List.extract]
theorem dig_cut {n : Nat} (h : n < 16) : (bs digL).extract n (n + 1) = bs [dig n] := by
  rw [bs_part, show n + 1 - n = 1 by omega, ← List.getElem_cons_drop (show n < digL.length from h)]
  have e : dig n = digL[n]'h := by unfold dig; rw [List.getD_eq_getElem?_getD, List.getElem?_eq_getElem (show n < digL.length from h)]; rfl
  rw [e]
  rfl
theorem hex4_any (c : UInt8) (w : World) : Calls Tryd.prog 28 #[.int .u8 c.toNat] w fun e w' => e = .returned (.string (bs (hexL c))) ∧ ∃ n, w' = w.drewN n := by
  have hc : c.toNat < 256 := UInt8.toNat_lt _
  obtain ⟨q, hq⟩ : ∃ q, q = c.toNat / 16 := ⟨_, rfl⟩
  obtain ⟨r, hr⟩ : ∃ r, r = c.toNat % 16 := ⟨_, rfl⟩
  have hq16 : q < 16 := by omega
  have hr16 : r < 16 := by omega
  have e1 : (c.toNat : Int) / 16 = (q : Int) := by omega
  have e2 : ((q : Int) + 1) % 256 = (q : Int) + 1 := by omega
  have e3 : ((r : Int) + 1) % 256 = (r : Int) + 1 := by omega
  have p1 : (0 : Int) ≤ (q : Int) + 1 := by omega
  have p2 : (q : Int) + 1 ≤ 16 := by omega
  have p3 : (0 : Int) ≤ (q : Int) := by omega
  have p4 : (q : Int) ≤ (q : Int) + 1 := by omega
  have p5 : (0 : Int) ≤ (r : Int) + 1 := by omega
  have p6 : (r : Int) + 1 ≤ 16 := by omega
  have p7 : (0 : Int) ≤ (r : Int) := by omega
  have p8 : (r : Int) ≤ (r : Int) + 1 := by omega
  have HQ := Lib.hid (And.intro hq hr)
  clear hq hr hc
  go_enter Tryd.func28, Tryd.ntmps28
  go_wp2
  go_quiet (fail)
  go_wp2
  go_ret
  refine ⟨?_, _, rfl⟩
  show Ending.returned (.string (bs [37] ++ (bs digL).extract q (q + 1) ++ (bs digL).extract (c.toNat % 16) (c.toNat % 16 + 1))) = _
  rw [dig_cut hq16, dig_cut (by have := HQ.out.2; omega), HQ.out.1, bs_append, bs_append]
  rfl
end Go.Proofs.YtjjlkdmpnpejjaaDoor
