/-
  Layer 22, walks: the document's lookup. Conditions: machine texts; numbers of nodes are natural.
-/
import Derived.Test.YtgifmpobokaejaaGreatDoorF36
import Derived.Test.YtgifmpobokaejaaGreatDoorF34
import Derived.Test.YtgifmpobokaejaaGreatDoorF45
namespace Go.Proofs.YtgifmpobokaejaaGreatDoor
open Go.RowKit
attribute [local go_sem ↓] Go.wp_at_zero Go.wp_at_succ
attribute [local go_sem] rowAt_ptr rowOf_drew rowOf_drewN rowOf_alloc_past rowOf_new
attribute [local go_sem ↓] ldAsk22 ldNode22 ldCred6 ldAttrR ldTree22 ldCall exStore22

attribute [local go_sem] blkOf22 isPtr22 rowV22 allV22 oneV22

theorem chain5_blks (w : World) (a b c d e : List Value) (S T U V X : TypeId) : Blk (((((w.alloc (.cells a.toArray S)).alloc (.cells b.toArray T)).alloc (.cells c.toArray U)).alloc (.cells d.toArray V)).alloc (.cells e.toArray X)) w.heap.size S a ∧ Blk (((((w.alloc (.cells a.toArray S)).alloc (.cells b.toArray T)).alloc (.cells c.toArray U)).alloc (.cells d.toArray V)).alloc (.cells e.toArray X)) (w.heap.size + 1) T b ∧
    Blk (((((w.alloc (.cells a.toArray S)).alloc (.cells b.toArray T)).alloc (.cells c.toArray U)).alloc (.cells d.toArray V)).alloc (.cells e.toArray X)) (w.heap.size + 1 + 1) U c ∧ Blk (((((w.alloc (.cells a.toArray S)).alloc (.cells b.toArray T)).alloc (.cells c.toArray U)).alloc (.cells d.toArray V)).alloc (.cells e.toArray X)) (w.heap.size + 1 + 1 + 1) V d ∧
    Blk (((((w.alloc (.cells a.toArray S)).alloc (.cells b.toArray T)).alloc (.cells c.toArray U)).alloc (.cells d.toArray V)).alloc (.cells e.toArray X)) (w.heap.size + 1 + 1 + 1 + 1) X e ∧
    Below w.heap.size w (((((w.alloc (.cells a.toArray S)).alloc (.cells b.toArray T)).alloc (.cells c.toArray U)).alloc (.cells d.toArray V)).alloc (.cells e.toArray X)) ∧ (((((w.alloc (.cells a.toArray S)).alloc (.cells b.toArray T)).alloc (.cells c.toArray U)).alloc (.cells d.toArray V)).alloc (.cells e.toArray X)).heap.size = w.heap.size + 1 + 1 + 1 + 1 + 1 := by
  obtain ⟨h1, h2, h3, h4, h5⟩ := chain3_blks w a b c S T U
  generalize ((w.alloc (.cells a.toArray S)).alloc (.cells b.toArray T)).alloc (.cells c.toArray U) = w1 at *
  obtain ⟨k1, k2, k3, k4⟩ := chain2_blks w1 d e V X
  rw [h5] at k1 k2 k4
  refine ⟨(h1.alloc _).alloc _, (h2.alloc _).alloc _, (h3.alloc _).alloc _, k1, k2, below_then h4 ?_, k4⟩
  exact k3
theorem retReply5 {w W : World} {z : Reply} (bR : Blk W (w.heap.size + 1 + 1 + 1 + 1) 48 replyZ.vals) (hB : Below w.heap.size w W) : Blk (W.setCells (w.heap.size + 1 + 1 + 1 + 1) 0 z.vals) (w.heap.size + 1 + 1 + 1 + 1) 48 z.vals ∧ Below w.heap.size w (W.setCells (w.heap.size + 1 + 1 + 1 + 1) 0 z.vals) :=
  ⟨bR.whole (by rfl), Below.setWhole (b := w.heap.size + 1 + 1 + 1 + 1) hB (by omega) _⟩
theorem digits22_any (gen : Int) (W : World) (h1 : 1 ≤ gen) (h2 : gen ≤ 9223372036854775807) : Calls Tryz.prog 114 #[.int .i64 gen] W fun e w' => e = .returned (.string (bs (genText gen))) ∧ Below W.heap.size W w' := by
  obtain ⟨n, rfl⟩ : ∃ n : Nat, gen = n := ⟨gen.toNat, by omega⟩
  refine (digits3_any n W h2).mono ?_
  rintro e w' ⟨rfl, rfl⟩
  refine ⟨?_, Below.refl _ _⟩
  unfold genText
  rw [if_neg (by omega), Int.toNat_natCast]
end Go.Proofs.YtgifmpobokaejaaGreatDoor
