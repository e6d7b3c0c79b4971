/-
  Layer 7, walks: which letters a procedure's calls have, and whether it changes something (written by wip/tools/genfields.py). No condition.
-/
import Derived.Test.YtfjflkmhhbhceaaGreatDoorProg
import Derived.Test.YtfjflkmhhbhceaaGreatDoorO03
import Derived.Test.YtfjflkmhhbhceaaGreatDoorO02
import Derived.Deep.Light
set_option maxHeartbeats 40000000
namespace Go.Proofs.YtfjflkmhhbhceaaGreatDoor
open Go.RowKit
attribute [local go_sem ↓] Go.wp_at_zero Go.wp_at_succ
attribute [local go_sem] Ai Ag Af Ab Aj
def F5:List (List UInt8):=[[],[102],[102,115,103],[102,110],[102,104],[102],[102,111,99],[102,111,104,100],[102,110,104,115,118],[102,110,115],[102,110,115,116],[102,110,104,115],[102,110],[102,110],[102,110,70,78],[102,70,78],[102,107,118,99],[102,107,118,99],[102],[102],[102],[102,111,99]]
def Al (p:Int):List UInt8:=if p<0 then [] else F5.getD p.toNat []
theorem Fv (p:Int):p<0\/22<=p\/p=0\/p=1\/p=2\/p=3\/p=4\/p=5\/p=6\/p=7\/p=8\/p=9\/p=10\/p=11\/p=12\/p=13\/p=14\/p=15\/p=16\/p=17\/p=18\/p=19\/p=20\/p=21:=by omega
theorem Jc {p:Int}(h:p<0):Al p=[]:=by simp[Al,h]
theorem Hu {p:Int}(h:22<=p):Al p=[]:=by
 have h1:¬p<0:=by omega
 have h2:F5.length<=p.toNat:=by show 22<=_;omega
 simp[Al,h1,List.getD,List.getElem?_eq_none h2]
theorem Ru (p:Int)(w:World):Calls Tryz.prog 119 #[.int .i64 p] w fun e w'=>e=.returned (.string (bs (Al p)))/\Below w.heap.size w w':=by
 rcases Fv p with hlo|hhi|rfl|rfl|rfl|rfl|rfl|rfl|rfl|rfl|rfl|rfl|rfl|rfl|rfl|rfl|rfl|rfl|rfl|rfl|rfl|rfl|rfl|rfl
 ·rw[Jc hlo]
  go_enter Tryz.func119,Tryz.ntmps119
  go_wp2
  all_goals first
   |(go_ret;exact⟨rfl,Below.refl _ _⟩)
   |(exfalso;omega)
 ·rw[Hu hhi]
  go_enter Tryz.func119,Tryz.ntmps119
  go_wp2
  all_goals first
   |(go_ret;exact⟨rfl,Below.refl _ _⟩)
   |(exfalso;omega)
 all_goals
  go_enter Tryz.func119,Tryz.ntmps119
  go_wp2;go_ret;exact⟨rfl,Below.refl _ _⟩
theorem Jp (p:Int)(w:World):Calls Tryz.prog 53 #[.int .i64 p] w fun e w'=>e=.returned (.string (bs (Al p)))/\Below w.heap.size w w':=by
 rcases Fv p with hlo|hhi|rfl|rfl|rfl|rfl|rfl|rfl|rfl|rfl|rfl|rfl|rfl|rfl|rfl|rfl|rfl|rfl|rfl|rfl|rfl|rfl|rfl|rfl
 ·rw[Jc hlo]
  go_enter Tryz.func53,Tryz.ntmps53
  go_wp2;go_ret;exact⟨rfl,(Below.refl _ _).alloc (Nat.le_refl _) _⟩
 ·rw[Hu hhi]
  have hlo:¬p<0:=by omega
  go_enter Tryz.func53,Tryz.ntmps53
  go_wp2;go_ret;exact⟨rfl,(Below.refl _ _).alloc (Nat.le_refl _) _⟩
 all_goals
  go_enter Tryz.func53,Tryz.ntmps53
  go_wp2;go_ret;exact⟨rfl,(Below.refl _ _).alloc (Nat.le_refl _) _⟩
end Go.Proofs.YtfjflkmhhbhceaaGreatDoor
