/-
  Layer 1, walks: a thing of a kind is taken, by the program's reader and by the document's (written by wip/tools/gentake.py). Conditions: sizes.
-/
import Derived.Test.YtfjflkmhhbhceaaGreatDoorK12
import Derived.Test.YtfjflkmhhbhceaaGreatDoorK14
import Derived.Test.YtfjflkmhhbhceaaGreatDoorK13
namespace Go.Proofs.YtfjflkmhhbhceaaGreatDoor
open Go.RowKit
attribute [local go_sem ↓] Go.wp_at_zero Go.wp_at_succ
attribute [local go_sem] rowAt_ptr rowOf_drew rowOf_drewN rowOf_alloc_past rowOf_new
theorem Thing.tlen (x : Thing) : x.vals.length = 4 := rfl
theorem Thing.tlat0 (x : Thing) : x.vals[0]? = some (.int .i64 x.kind) := rfl
theorem Thing.tlat1 (x : Thing) : x.vals[1]? = some (.int .i64 x.n) := rfl
theorem Thing.tlat2 (x : Thing) : x.vals[2]? = some (.bool x.is) := rfl
theorem Thing.tlat3 (x : Thing) : x.vals[3]? = some (.string (bs x.s)) := rfl
theorem Reads.poke {w wx : World} {g b o : Nat} {r : Rs} (h : Reads g r w wx) (hne : b ≠ g) (hB : w.heap.size ≤ b) (v : Value) : Reads g r w (wx.setCell ⟨b, o, none⟩ v) :=
  ⟨h.1.touch ((Touch.refl (fun k => k = b) wx).setCell_ (g := b) (o := o) (.inl rfl) v) (fun e => hne e.symm), h.2.setCell_ (g := b) (o := o) (.inr hB) v⟩
theorem ReadsF.poke {w wx : World} {g b o : Nat} {r : Rs} (h : ReadsF g r w wx) (hne : b ≠ g) (hB : w.heap.size ≤ b) (v : Value) : ReadsF g r w (wx.setCell ⟨b, o, none⟩ v) :=
  ⟨h.1.touch ((Touch.refl (fun k => k = b) wx).setCell_ (g := b) (o := o) (.inl rfl) v) (fun e => hne e.symm), h.2.setCell_ (g := b) (o := o) (.inr hB) v⟩

/-- a thing of a kind is taken -/
def tTake (k n : Int) (r : Rs) : Thing × Rs :=
  if k = 1 then (⟨k, (rU32 r).1, false, []⟩, (rU32 r).2)
  else if k = 2 then (⟨k, (rU64 r).1, false, []⟩, (rU64 r).2)
  else if k = 3 then (⟨k, 0, (rBool r).1, []⟩, (rBool r).2)
  else if k = 4 then (⟨k, 0, false, (rFixed n r).1⟩, (rFixed n r).2)
  else if k = 5 then (⟨k, 0, false, (rOpaque n r).1⟩, (rOpaque n r).2)
  else if k = 6 then (⟨k, (rOpt r).1.2, (rOpt r).1.1, []⟩, (rOpt r).2)
  else (⟨k, 0, false, []⟩, r)
def thing0 : Thing := ⟨0, 0, false, []⟩
theorem optV_lat0 (o : Bool × Nat) : (optV o)[0]? = some (.bool o.1) := rfl
theorem optV_lat1 (o : Bool × Nat) : (optV o)[1]? = some (.int .i64 o.2) := rfl
attribute [local go_sem] optV_lat0 optV_lat1 Thing.tlat0 Thing.tlat1 Thing.tlat2 Thing.tlat3

end Go.Proofs.YtfjflkmhhbhceaaGreatDoor
