/-
  Layer 7, walks: may the field of a letter be (written by wip/tools/genmay.py). Condition: a call at a block of its own.
-/
import Derived.Test.YtfjflkmhhbhceaaGreatDoorO06
import Derived.Test.YtfjflkmhhbhceaaGreatDoorO11
import Derived.Test.YtfjflkmhhbhceaaGreatDoorO02
import Derived.Test.YtfjflkmhhbhceaaGreatDoorO05
import Derived.Test.YtfjflkmhhbhceaaGreatDoorO10
import Derived.Test.YtfjflkmhhbhceaaGreatDoorO09
set_option maxRecDepth 20000
set_option maxHeartbeats 40000000
namespace Go.Proofs.YtfjflkmhhbhceaaGreatDoor
open Go.RowKit
attribute [local go_sem ↓] Go.wp_at_zero Go.wp_at_succ
attribute [local go_sem] Ai Ag Af Ab Aj
attribute [local go_sem] Call.at0 Call.Bo Call.at1 Call.Bk Call.at2 Call.Ca Call.at3 Call.Cg Call.at4 Call.Cx Call.at5 Call.Cw Call.at6 Call.Cv Call.at7 Call.Cu Call.at8 Call.Ct Call.at9 Call.Cs Call.Ee Call.C4 Call.Fm Call.Dm Call.Fl Call.Dl Call.Ia Call.Ep Call.H9 Call.Eo Call.Lx Call.Hg Call.Lw Call.Hf Call.Lv Call.He Call.Lu Call.Hd Call.Lt Call.Hc Call.Ls Call.Ha Call.Lr Call.G9 Call.Lq Call.G8 Call.Lp Call.G7 Call.Gy Call.Fj Call.Gv Call.Fg Call.Jn Call.Gz Call.Gx Call.Fi Call.Gw Call.Fh Call.F9 Call.Et Call.F8 Call.Es Call.F7 Call.Er Call.len Ac.at0 Ac.Bo Ac.at1 Ac.Bk Ac.at2 Ac.Ca Ac.at3 Ac.Cg Ac.at4 Ac.Cx Ac.at5 Ac.Cw Ac.at6 Ac.Cv Ac.at7 Ac.Cu Ac.at8 Ac.Ct Ac.at9 Ac.Cs Ac.Cl Ac.B4 Ac.Ch Ac.Br Ac.Gn Ac.E1 Ac.Gm Ac.E0 Ac.Gl Ac.Ez Ac.Gk Ac.Ey Ac.len Opt.at0 Opt.Bo Opt.at1 Opt.Bk Opt.Ch Opt.Br Opt.len
section
attribute [local go_sem ↓] Io Hz
def C0 (x:Call)(c:Nat):Bool:=
 if c=102 then decide (x.fh.length<=64) else
 if c=70 then decide (x.fh2.length<=64) else
 if c=110 then decide (x.name.length<=255) else
 if c=78 then decide (x.name2.length<=255) else
 if c=116 then decide (x.text.length<=255) else
 if c=100 then decide (x.data.length<=256) else
 if c=111 then decide (0<=x.offset) else
 if c=107 then decide (0<=x.cookie) else
 if c=118 then decide (0<=x.verf) else
 if c=99 then decide (0<=x.count) && decide (x.count<=4294967295) else
 if c=104 then decide (0<=x.how) && decide (x.how<=4294967295) else
 if c=115 then x.set.ok else
 decide (0<=x.guard.n) && (x.guard.is || x.guard.n==0)
theorem Nj (l:List UInt8)(most:Int)(w:World):Calls Tryz.prog 120 #[.string (bs l),.int .i64 most] w fun e w'=>e=.returned (.bool (decide ((l.length:Int)<=most)))/\w=w':=by
 have hsz:=Au l;go_enter Tryz.func120,Tryz.ntmps120
 go_wp2;go_ret;exact⟨rfl,rfl⟩
theorem Wy (n most:Int)(w:World):Calls Tryz.prog 121 #[.int .i64 n,.int .i64 most] w fun e w'=>e=.returned (.bool (decide (0<=n) && decide (n<=most)))/\w=w':=by
 go_enter Tryz.func121,Tryz.ntmps121
 go_wp2
 all_goals (go_ret;go_light;exact⟨A5 (by grind),rfl⟩)
theorem Asy (b:Nat)(x:Call)(w:World)(hB:Blk w b 36 x.vals):Calls Tryz.prog 80 #[.pointer (some ⟨b,0,none⟩),.int .i32 102] w fun e w'=>e=.returned (.bool (C0 x 102))/\Below w.heap.size w w':=by
 have hc:=hB.cell;have HS:=Zh (show C0 x 102=decide ((x.fh.length:Int)<=64) by simp[C0];omega);go_enter Tryz.func80,Tryz.ntmps80
 go_wp2_with fail;refine(Nj _ _ _).mono ?_
 rintro e w1 ⟨rfl,rfl⟩;go_wp2;go_ret;exact⟨A5 HS.out.symm,Below.refl _ _⟩
theorem Ar5 (b:Nat)(x:Call)(w:World)(hB:Blk w b 36 x.vals):Calls Tryz.prog 80 #[.pointer (some ⟨b,0,none⟩),.int .i32 70] w fun e w'=>e=.returned (.bool (C0 x 70))/\Below w.heap.size w w':=by
 have hc:=hB.cell;have HS:=Zh (show C0 x 70=decide ((x.fh2.length:Int)<=64) by simp[C0];omega);go_enter Tryz.func80,Tryz.ntmps80
 go_wp2_with fail;refine(Nj _ _ _).mono ?_
 rintro e w1 ⟨rfl,rfl⟩;go_wp2;go_ret;exact⟨A5 HS.out.symm,Below.refl _ _⟩
theorem Asu (b:Nat)(x:Call)(w:World)(hB:Blk w b 36 x.vals):Calls Tryz.prog 80 #[.pointer (some ⟨b,0,none⟩),.int .i32 110] w fun e w'=>e=.returned (.bool (C0 x 110))/\Below w.heap.size w w':=by
 have hc:=hB.cell;have HS:=Zh (show C0 x 110=decide ((x.name.length:Int)<=255) by simp[C0];omega);go_enter Tryz.func80,Tryz.ntmps80
 go_wp2_with fail;refine(Nj _ _ _).mono ?_
 rintro e w1 ⟨rfl,rfl⟩;go_wp2;go_ret;exact⟨A5 HS.out.symm,Below.refl _ _⟩
theorem Ar4 (b:Nat)(x:Call)(w:World)(hB:Blk w b 36 x.vals):Calls Tryz.prog 80 #[.pointer (some ⟨b,0,none⟩),.int .i32 78] w fun e w'=>e=.returned (.bool (C0 x 78))/\Below w.heap.size w w':=by
 have hc:=hB.cell;have HS:=Zh (show C0 x 78=decide ((x.name2.length:Int)<=255) by simp[C0];omega);go_enter Tryz.func80,Tryz.ntmps80
 go_wp2_with fail;refine(Nj _ _ _).mono ?_
 rintro e w1 ⟨rfl,rfl⟩;go_wp2;go_ret;exact⟨A5 HS.out.symm,Below.refl _ _⟩
theorem Asr (b:Nat)(x:Call)(w:World)(hB:Blk w b 36 x.vals):Calls Tryz.prog 80 #[.pointer (some ⟨b,0,none⟩),.int .i32 116] w fun e w'=>e=.returned (.bool (C0 x 116))/\Below w.heap.size w w':=by
 have hc:=hB.cell;have HS:=Zh (show C0 x 116=decide ((x.text.length:Int)<=255) by simp[C0];omega);go_enter Tryz.func80,Tryz.ntmps80
 go_wp2_with fail;refine(Nj _ _ _).mono ?_
 rintro e w1 ⟨rfl,rfl⟩;go_wp2;go_ret;exact⟨A5 HS.out.symm,Below.refl _ _⟩
theorem Asz (b:Nat)(x:Call)(w:World)(hB:Blk w b 36 x.vals):Calls Tryz.prog 80 #[.pointer (some ⟨b,0,none⟩),.int .i32 100] w fun e w'=>e=.returned (.bool (C0 x 100))/\Below w.heap.size w w':=by
 have hc:=hB.cell;have HS:=Zh (show C0 x 100=decide ((x.data.length:Int)<=256) by simp[C0];omega);go_enter Tryz.func80,Tryz.ntmps80
 go_wp2_with fail;refine(Nj _ _ _).mono ?_
 rintro e w1 ⟨rfl,rfl⟩;go_wp2;go_ret;exact⟨A5 HS.out.symm,Below.refl _ _⟩
theorem Ast (b:Nat)(x:Call)(w:World)(hB:Blk w b 36 x.vals):Calls Tryz.prog 80 #[.pointer (some ⟨b,0,none⟩),.int .i32 111] w fun e w'=>e=.returned (.bool (C0 x 111))/\Below w.heap.size w w':=by
 have hc:=hB.cell;have HS:=Zh (show C0 x 111=decide (0<=x.offset) by simp[C0]);go_enter Tryz.func80,Tryz.ntmps80
 go_wp2;go_ret;exact⟨A5 HS.out.symm,Below.refl _ _⟩
theorem Asv (b:Nat)(x:Call)(w:World)(hB:Blk w b 36 x.vals):Calls Tryz.prog 80 #[.pointer (some ⟨b,0,none⟩),.int .i32 107] w fun e w'=>e=.returned (.bool (C0 x 107))/\Below w.heap.size w w':=by
 have hc:=hB.cell;have HS:=Zh (show C0 x 107=decide (0<=x.cookie) by simp[C0]);go_enter Tryz.func80,Tryz.ntmps80
 go_wp2;go_ret;exact⟨A5 HS.out.symm,Below.refl _ _⟩
theorem Asq (b:Nat)(x:Call)(w:World)(hB:Blk w b 36 x.vals):Calls Tryz.prog 80 #[.pointer (some ⟨b,0,none⟩),.int .i32 118] w fun e w'=>e=.returned (.bool (C0 x 118))/\Below w.heap.size w w':=by
 have hc:=hB.cell;have HS:=Zh (show C0 x 118=decide (0<=x.verf) by simp[C0]);go_enter Tryz.func80,Tryz.ntmps80
 go_wp2;go_ret;exact⟨A5 HS.out.symm,Below.refl _ _⟩
theorem As0 (b:Nat)(x:Call)(w:World)(hB:Blk w b 36 x.vals):Calls Tryz.prog 80 #[.pointer (some ⟨b,0,none⟩),.int .i32 99] w fun e w'=>e=.returned (.bool (C0 x 99))/\Below w.heap.size w w':=by
 have hc:=hB.cell;have HS:=Zh (show C0 x 99=(decide (0<=x.count) && decide (x.count<=4294967295)) by simp[C0]);go_enter Tryz.func80,Tryz.ntmps80
 go_wp2_with fail;refine(Wy _ _ _).mono ?_
 rintro e w1 ⟨rfl,rfl⟩;go_wp2;go_ret;exact⟨A5 HS.out.symm,Below.refl _ _⟩
theorem Asw (b:Nat)(x:Call)(w:World)(hB:Blk w b 36 x.vals):Calls Tryz.prog 80 #[.pointer (some ⟨b,0,none⟩),.int .i32 104] w fun e w'=>e=.returned (.bool (C0 x 104))/\Below w.heap.size w w':=by
 have hc:=hB.cell;have HS:=Zh (show C0 x 104=(decide (0<=x.how) && decide (x.how<=4294967295)) by simp[C0]);go_enter Tryz.func80,Tryz.ntmps80
 go_wp2_with fail;refine(Wy _ _ _).mono ?_
 rintro e w1 ⟨rfl,rfl⟩;go_wp2;go_ret;exact⟨A5 HS.out.symm,Below.refl _ _⟩
end
section
attribute [local go_sem ↓] Io Hz
theorem Ass (b:Nat)(x:Call)(w:World)(hB:Blk w b 36 x.vals):Calls Tryz.prog 80 #[.pointer (some ⟨b,0,none⟩),.int .i32 115] w fun e w'=>e=.returned (.bool (C0 x 115))/\Below w.heap.size w w':=by
 have hr:rowOf w b 9 10=some x.set.vals.toArray:=hB.row 9 10 (by simp[Call.len]);have HS:=Zh (show C0 x 115=x.set.ok by simp[C0]);go_enter Tryz.func80,Tryz.ntmps80
 go_wp2_with fail;refine(Acq _ _).mono ?_
 rintro e w1 ⟨rfl,hb⟩;unfold form;cases hk:x.set.ok
 all_goals
  have HK:=Zh hk;clear hk;go_wp2;go_ret;exact⟨A5 (HK.out.symm.trans HS.out.symm),hb⟩
theorem Asx (b:Nat)(x:Call)(w:World)(hB:Blk w b 36 x.vals):Calls Tryz.prog 80 #[.pointer (some ⟨b,0,none⟩),.int .i32 103] w fun e w'=>e=.returned (.bool (C0 x 103))/\Below w.heap.size w w':=by
 have hc:=hB.cell;have HS:=Zh (show C0 x 103=(decide (0<=x.guard.n) && (x.guard.is || x.guard.n==0)) by simp[C0]);go_enter Tryz.func80,Tryz.ntmps80
 go_wp2
 all_goals (go_ret;go_light;exact⟨A5 (by rw[HS.out];grind),Below.refl _ _⟩)
def Ga (z x:Call)(c:Nat):Call:=
 if c=102 then { z with fh:=x.fh } else
 if c=70 then { z with fh2:=x.fh2 } else
 if c=110 then { z with name:=x.name } else
 if c=78 then { z with name2:=x.name2 } else
 if c=116 then { z with text:=x.text } else
 if c=100 then { z with data:=x.data } else
 if c=111 then { z with offset:=x.offset } else
 if c=107 then { z with cookie:=x.cookie } else
 if c=118 then { z with verf:=x.verf } else
 if c=99 then { z with count:=x.count } else
 if c=104 then { z with how:=x.how } else
 if c=115 then { z with set:=x.set } else
 if c=103 then { z with guard:=x.guard } else z
theorem Aoe (g b:Nat)(z x:Call)(w:World)(hA:Blk w g 36 z.vals)(hB:Blk w b 36 x.vals):Calls Tryz.prog 79 #[.pointer (some ⟨g,0,none⟩),.pointer (some ⟨b,0,none⟩),.int .i32 102] w fun e w'=>e=.returned (.tuple #[])/\Blk w' g 36 (Ga z x 102).vals/\Touch (fun k=>k=g) w w':=by
 have ha:=hA.cell;have hf:=hA.frozen;have hc:=hB.cell;have HA:=Zh (show Blk (w.setCell ⟨g,1,none⟩ (.string (bs x.fh))) g 36 (Ga z x 102).vals from hA.Be 1 (.string (bs x.fh)));have HT:=Zh ((Touch.refl (fun k=>k=g) w).An (g:=g) (o:=1) (.inl rfl) (.string (bs x.fh)));clear hA hB;go_enter Tryz.func79,Tryz.ntmps79
 go_wp2;go_end0
 exact⟨rfl,HA.out,HT.out⟩
theorem Alf (g b:Nat)(z x:Call)(w:World)(hA:Blk w g 36 z.vals)(hB:Blk w b 36 x.vals):Calls Tryz.prog 79 #[.pointer (some ⟨g,0,none⟩),.pointer (some ⟨b,0,none⟩),.int .i32 70] w fun e w'=>e=.returned (.tuple #[])/\Blk w' g 36 (Ga z x 70).vals/\Touch (fun k=>k=g) w w':=by
 have ha:=hA.cell;have hf:=hA.frozen;have hc:=hB.cell;have HA:=Zh (show Blk (w.setCell ⟨g,3,none⟩ (.string (bs x.fh2))) g 36 (Ga z x 70).vals from hA.Be 3 (.string (bs x.fh2)));have HT:=Zh ((Touch.refl (fun k=>k=g) w).An (g:=g) (o:=3) (.inl rfl) (.string (bs x.fh2)));clear hA hB;go_enter Tryz.func79,Tryz.ntmps79
 go_wp2;go_end0
 exact⟨rfl,HA.out,HT.out⟩
theorem Aoa (g b:Nat)(z x:Call)(w:World)(hA:Blk w g 36 z.vals)(hB:Blk w b 36 x.vals):Calls Tryz.prog 79 #[.pointer (some ⟨g,0,none⟩),.pointer (some ⟨b,0,none⟩),.int .i32 110] w fun e w'=>e=.returned (.tuple #[])/\Blk w' g 36 (Ga z x 110).vals/\Touch (fun k=>k=g) w w':=by
 have ha:=hA.cell;have hf:=hA.frozen;have hc:=hB.cell;have HA:=Zh (show Blk (w.setCell ⟨g,2,none⟩ (.string (bs x.name))) g 36 (Ga z x 110).vals from hA.Be 2 (.string (bs x.name)));have HT:=Zh ((Touch.refl (fun k=>k=g) w).An (g:=g) (o:=2) (.inl rfl) (.string (bs x.name)));clear hA hB;go_enter Tryz.func79,Tryz.ntmps79
 go_wp2;go_end0
 exact⟨rfl,HA.out,HT.out⟩
theorem Ale (g b:Nat)(z x:Call)(w:World)(hA:Blk w g 36 z.vals)(hB:Blk w b 36 x.vals):Calls Tryz.prog 79 #[.pointer (some ⟨g,0,none⟩),.pointer (some ⟨b,0,none⟩),.int .i32 78] w fun e w'=>e=.returned (.tuple #[])/\Blk w' g 36 (Ga z x 78).vals/\Touch (fun k=>k=g) w w':=by
 have ha:=hA.cell;have hf:=hA.frozen;have hc:=hB.cell;have HA:=Zh (show Blk (w.setCell ⟨g,4,none⟩ (.string (bs x.name2))) g 36 (Ga z x 78).vals from hA.Be 4 (.string (bs x.name2)));have HT:=Zh ((Touch.refl (fun k=>k=g) w).An (g:=g) (o:=4) (.inl rfl) (.string (bs x.name2)));clear hA hB;go_enter Tryz.func79,Tryz.ntmps79
 go_wp2;go_end0
 exact⟨rfl,HA.out,HT.out⟩
theorem An7 (g b:Nat)(z x:Call)(w:World)(hA:Blk w g 36 z.vals)(hB:Blk w b 36 x.vals):Calls Tryz.prog 79 #[.pointer (some ⟨g,0,none⟩),.pointer (some ⟨b,0,none⟩),.int .i32 116] w fun e w'=>e=.returned (.tuple #[])/\Blk w' g 36 (Ga z x 116).vals/\Touch (fun k=>k=g) w w':=by
 have ha:=hA.cell;have hf:=hA.frozen;have hc:=hB.cell;have HA:=Zh (show Blk (w.setCell ⟨g,23,none⟩ (.string (bs x.text))) g 36 (Ga z x 116).vals from hA.Be 23 (.string (bs x.text)));have HT:=Zh ((Touch.refl (fun k=>k=g) w).An (g:=g) (o:=23) (.inl rfl) (.string (bs x.text)));clear hA hB;go_enter Tryz.func79,Tryz.ntmps79
 go_wp2;go_end0
 exact⟨rfl,HA.out,HT.out⟩
theorem Aof (g b:Nat)(z x:Call)(w:World)(hA:Blk w g 36 z.vals)(hB:Blk w b 36 x.vals):Calls Tryz.prog 79 #[.pointer (some ⟨g,0,none⟩),.pointer (some ⟨b,0,none⟩),.int .i32 100] w fun e w'=>e=.returned (.tuple #[])/\Blk w' g 36 (Ga z x 100).vals/\Touch (fun k=>k=g) w w':=by
 have ha:=hA.cell;have hf:=hA.frozen;have hc:=hB.cell;have HA:=Zh (show Blk (w.setCell ⟨g,8,none⟩ (.string (bs x.data))) g 36 (Ga z x 100).vals from hA.Be 8 (.string (bs x.data)));have HT:=Zh ((Touch.refl (fun k=>k=g) w).An (g:=g) (o:=8) (.inl rfl) (.string (bs x.data)));clear hA hB;go_enter Tryz.func79,Tryz.ntmps79
 go_wp2;go_end0
 exact⟨rfl,HA.out,HT.out⟩
theorem An9 (g b:Nat)(z x:Call)(w:World)(hA:Blk w g 36 z.vals)(hB:Blk w b 36 x.vals):Calls Tryz.prog 79 #[.pointer (some ⟨g,0,none⟩),.pointer (some ⟨b,0,none⟩),.int .i32 111] w fun e w'=>e=.returned (.tuple #[])/\Blk w' g 36 (Ga z x 111).vals/\Touch (fun k=>k=g) w w':=by
 have ha:=hA.cell;have hf:=hA.frozen;have hc:=hB.cell;have HA:=Zh (show Blk (w.setCell ⟨g,5,none⟩ (.int .i64 x.offset)) g 36 (Ga z x 111).vals from hA.Be 5 (.int .i64 x.offset));have HT:=Zh ((Touch.refl (fun k=>k=g) w).An (g:=g) (o:=5) (.inl rfl) (.int .i64 x.offset));clear hA hB;go_enter Tryz.func79,Tryz.ntmps79
 go_wp2;go_end0
 exact⟨rfl,HA.out,HT.out⟩
theorem Aob (g b:Nat)(z x:Call)(w:World)(hA:Blk w g 36 z.vals)(hB:Blk w b 36 x.vals):Calls Tryz.prog 79 #[.pointer (some ⟨g,0,none⟩),.pointer (some ⟨b,0,none⟩),.int .i32 107] w fun e w'=>e=.returned (.tuple #[])/\Blk w' g 36 (Ga z x 107).vals/\Touch (fun k=>k=g) w w':=by
 have ha:=hA.cell;have hf:=hA.frozen;have hc:=hB.cell;have HA:=Zh (show Blk (w.setCell ⟨g,21,none⟩ (.int .i64 x.cookie)) g 36 (Ga z x 107).vals from hA.Be 21 (.int .i64 x.cookie));have HT:=Zh ((Touch.refl (fun k=>k=g) w).An (g:=g) (o:=21) (.inl rfl) (.int .i64 x.cookie));clear hA hB;go_enter Tryz.func79,Tryz.ntmps79
 go_wp2;go_end0
 exact⟨rfl,HA.out,HT.out⟩
theorem An6 (g b:Nat)(z x:Call)(w:World)(hA:Blk w g 36 z.vals)(hB:Blk w b 36 x.vals):Calls Tryz.prog 79 #[.pointer (some ⟨g,0,none⟩),.pointer (some ⟨b,0,none⟩),.int .i32 118] w fun e w'=>e=.returned (.tuple #[])/\Blk w' g 36 (Ga z x 118).vals/\Touch (fun k=>k=g) w w':=by
 have ha:=hA.cell;have hf:=hA.frozen;have hc:=hB.cell;have HA:=Zh (show Blk (w.setCell ⟨g,22,none⟩ (.int .i64 x.verf)) g 36 (Ga z x 118).vals from hA.Be 22 (.int .i64 x.verf));have HT:=Zh ((Touch.refl (fun k=>k=g) w).An (g:=g) (o:=22) (.inl rfl) (.int .i64 x.verf));clear hA hB;go_enter Tryz.func79,Tryz.ntmps79
 go_wp2;go_end0
 exact⟨rfl,HA.out,HT.out⟩
theorem Aog (g b:Nat)(z x:Call)(w:World)(hA:Blk w g 36 z.vals)(hB:Blk w b 36 x.vals):Calls Tryz.prog 79 #[.pointer (some ⟨g,0,none⟩),.pointer (some ⟨b,0,none⟩),.int .i32 99] w fun e w'=>e=.returned (.tuple #[])/\Blk w' g 36 (Ga z x 99).vals/\Touch (fun k=>k=g) w w':=by
 have ha:=hA.cell;have hf:=hA.frozen;have hc:=hB.cell;have HA:=Zh (show Blk (w.setCell ⟨g,6,none⟩ (.int .i64 x.count)) g 36 (Ga z x 99).vals from hA.Be 6 (.int .i64 x.count));have HT:=Zh ((Touch.refl (fun k=>k=g) w).An (g:=g) (o:=6) (.inl rfl) (.int .i64 x.count));clear hA hB;go_enter Tryz.func79,Tryz.ntmps79
 go_wp2;go_end0
 exact⟨rfl,HA.out,HT.out⟩
theorem Aoc (g b:Nat)(z x:Call)(w:World)(hA:Blk w g 36 z.vals)(hB:Blk w b 36 x.vals):Calls Tryz.prog 79 #[.pointer (some ⟨g,0,none⟩),.pointer (some ⟨b,0,none⟩),.int .i32 104] w fun e w'=>e=.returned (.tuple #[])/\Blk w' g 36 (Ga z x 104).vals/\Touch (fun k=>k=g) w w':=by
 have ha:=hA.cell;have hf:=hA.frozen;have hc:=hB.cell;have HA:=Zh (show Blk (w.setCell ⟨g,7,none⟩ (.int .i64 x.how)) g 36 (Ga z x 104).vals from hA.Be 7 (.int .i64 x.how));have HT:=Zh ((Touch.refl (fun k=>k=g) w).An (g:=g) (o:=7) (.inl rfl) (.int .i64 x.how));clear hA hB;go_enter Tryz.func79,Tryz.ntmps79
 go_wp2;go_end0
 exact⟨rfl,HA.out,HT.out⟩
theorem An8 (g b:Nat)(z x:Call)(w:World)(hA:Blk w g 36 z.vals)(hB:Blk w b 36 x.vals):Calls Tryz.prog 79 #[.pointer (some ⟨g,0,none⟩),.pointer (some ⟨b,0,none⟩),.int .i32 115] w fun e w'=>e=.returned (.tuple #[])/\Blk w' g 36 (Ga z x 115).vals/\Touch (fun k=>k=g) w w':=by
 have hr:rowOf w b 9 10=some x.set.vals.toArray:=hB.row 9 10 (by simp[Call.len]);have HA:=Zh (show Blk (w.setCells g 9 x.set.vals) g 36 (Ga z x 115).vals from hA.Ml x.set.vals _ 9);have HT:=Zh (Touch.setCells (F:=fun k=>k=g) (g:=g) (.inl rfl) x.set.vals 9 w (Touch.refl _ w));clear hB;go_enter Tryz.func79,Tryz.ntmps79
 go_wp2_with (first|(refine Ax (by rfl) 34 _ _ (by rfl) g 9 x.set.vals _ hA (by simp[Ac.len,Call.len]) (by rfl) (by rfl) (by kernel_rfl) (Ac.one _) ?_)|fail)
 go_end0
 exact⟨rfl,HA.out,HT.out⟩
theorem Aod (g b:Nat)(z x:Call)(w:World)(hA:Blk w g 36 z.vals)(hB:Blk w b 36 x.vals):Calls Tryz.prog 79 #[.pointer (some ⟨g,0,none⟩),.pointer (some ⟨b,0,none⟩),.int .i32 103] w fun e w'=>e=.returned (.tuple #[])/\Blk w' g 36 (Ga z x 103).vals/\Touch (fun k=>k=g) w w':=by
 have hr:rowOf w b 19 2=some x.guard.vals.toArray:=hB.row 19 2 (by simp[Call.len]);have HA:=Zh (show Blk (w.setCells g 19 x.guard.vals) g 36 (Ga z x 103).vals from hA.Ml x.guard.vals _ 19);have HT:=Zh (Touch.setCells (F:=fun k=>k=g) (g:=g) (.inl rfl) x.guard.vals 19 w (Touch.refl _ w));clear hB;go_enter Tryz.func79,Tryz.ntmps79
 go_wp2_with (first|(refine Ax (by rfl) 32 _ _ (by rfl) g 19 x.guard.vals _ hA (by simp[Opt.len,Call.len]) (by rfl) (by rfl) (by kernel_rfl) (Opt.one _) ?_)|fail)
 go_end0
 exact⟨rfl,HA.out,HT.out⟩
end
section
attribute [local go_sem ↓] Io Hz
def K7 (c:Nat):Prop:=c=102\/c=70\/c=110\/c=78\/c=116\/c=100\/c=111\/c=107\/c=118\/c=99\/c=104\/c=115\/c=103
instance (c:Nat):Decidable (K7 c):=by unfold K7;infer_instance
theorem Acj:∀s∈F5,∀c∈s,K7 c.toNat:=by decide
theorem Hj (p:Int){k:Nat}(hk:k<(Al p).length):K7 (Al p)[k].toNat:=by
 have hm:(Al p)[k]∈Al p:=List.getElem_mem hk;generalize (Al p)[k]=c at *;unfold Al at hm;split at hm
 ·simp at hm
 ·rcases Nat.lt_or_ge p.toNat F5.length with h|h
  ·have he:F5.getD p.toNat []=F5[p.toNat]:=by simp[List.getD,List.getElem?_eq_getElem h]
   rw[he]at hm;exact Acj _ (List.getElem_mem h) _ hm
  ·simp[List.getD,List.getElem?_eq_none h]at hm
theorem Ap8 (b:Nat)(x:Call)(c:Nat)(hl:K7 c)(w:World)(hB:Blk w b 36 x.vals):Calls Tryz.prog 80 #[.pointer (some ⟨b,0,none⟩),.int .i32 c] w fun e w'=>e=.returned (.bool (C0 x c))/\Below w.heap.size w w':=by
 rcases hl with rfl|rfl|rfl|rfl|rfl|rfl|rfl|rfl|rfl|rfl|rfl|rfl|rfl
 ·exact Asy b x w hB
 ·exact Ar5 b x w hB
 ·exact Asu b x w hB
 ·exact Ar4 b x w hB
 ·exact Asr b x w hB
 ·exact Asz b x w hB
 ·exact Ast b x w hB
 ·exact Asv b x w hB
 ·exact Asq b x w hB
 ·exact As0 b x w hB
 ·exact Asw b x w hB
 ·exact Ass b x w hB
 ·exact Asx b x w hB
theorem Ah2 (g b:Nat)(z x:Call)(c:Nat)(hl:K7 c)(w:World)(hA:Blk w g 36 z.vals)(hB:Blk w b 36 x.vals):Calls Tryz.prog 79 #[.pointer (some ⟨g,0,none⟩),.pointer (some ⟨b,0,none⟩),.int .i32 c] w fun e w'=>e=.returned (.tuple #[])/\Blk w' g 36 (Ga z x c).vals/\Touch (fun k=>k=g) w w':=by
 rcases hl with rfl|rfl|rfl|rfl|rfl|rfl|rfl|rfl|rfl|rfl|rfl|rfl|rfl
 ·exact Aoe g b z x w hA hB
 ·exact Alf g b z x w hA hB
 ·exact Aoa g b z x w hA hB
 ·exact Ale g b z x w hA hB
 ·exact An7 g b z x w hA hB
 ·exact Aof g b z x w hA hB
 ·exact An9 g b z x w hA hB
 ·exact Aob g b z x w hA hB
 ·exact An6 g b z x w hA hB
 ·exact Aog g b z x w hA hB
 ·exact Aoc g b z x w hA hB
 ·exact An8 g b z x w hA hB
 ·exact Aod g b z x w hA hB
theorem Blk.Qe {w:World}{g b pos:Nat}{T:TypeId}{cs:List Value}{l:List UInt8}(h:Blk w g T cs)(hI:Itr w b l pos):g≠b:=by
 intro e;subst e;unfold Blk at h;unfold Itr at hI;rw[h]at hI;cases hI
def Pg (x:Call)(l:List UInt8)(z:Call)(k:Nat):Call:=(l.take k).foldl (fun z c=>Ga z x c.toNat) z
theorem Ae3 (x:Call)(l:List UInt8)(z:Call)(k:Nat)(hk:k<l.length):Pg x l z (k+1)=Ga (Pg x l z k) x l[k].toNat:=by
 unfold Pg;rw[List.take_add_one,List.getElem?_eq_getElem hk,List.foldl_append];rfl
structure Ac1 (w0:World) (g b:Nat) (x:Call) (l:List UInt8) (z:Call) (k:Nat) (W:World):Prop where
 A:Blk W g 36 (Pg x l z k).vals
 X:Blk W b 36 x.vals
 B:Below w0.heap.size w0 W
theorem Aic (w0:World)(g b:Nat)(hg:w0.heap.size<=g)(_hb:w0.heap.size<=b)(hne:g≠b)(x z:Call)(l:List UInt8)(k:Nat)(hk:k<l.length)(hl:K7 l[k].toNat)(W:World)(hS:Ac1 w0 g b x l z k W) :
  Calls Tryz.prog 78 #[.int .i32 l[k].toNat,.pointer (some ⟨g,0,none⟩),.pointer (some ⟨b,0,none⟩)] W fun e W'=>e=.returned (.bool (C0 x l[k].toNat))/\Ac1 w0 g b x l z (k+1) W'/\∀b l pos,Itr W b l pos->Itr W' b l pos:=by
 have HT:=Zh (Ae3 x l z k hk);generalize l[k].toNat=c at *;go_enter Tryz.func78,Tryz.ntmps78
 go_wp2_with fail;refine(Ah2 g b _ x c hl _ hS.A hS.X).mono ?_
 rintro e w1 ⟨rfl,hA,hT⟩;have hX:Blk w1 b 36 x.vals:=hS.X.Ak hT (fun e=>hne e.symm);have HS:=Zh hS;have hnew:=hS.A;clear hS;go_wp2_with fail;refine(Ap8 b x c hl _ hX).mono ?_
 rintro e w2 ⟨rfl,hb2⟩;have HH:Ac1 w0 g b x l z (k+1) w2:=⟨by rw[HT.out];exact hA.stays hb2,hX.stays hb2,by
  have h1:Below w0.heap.size w0 w1:=HS.out.B.trans (hT.below (fun _ _ e=>by subst e;exact hg) HS.out.B.size);exact Ad h1 hb2⟩
 have HI:∀b l pos,Itr W b l pos->Itr w2 b l pos:=fun b l pos h=>(h.Ak hT (fun e=>hnew.Qe h e.symm)).stays hb2
 go_wp2;go_ret;exact⟨rfl,HH,HI⟩
end
section
theorem Rn {ρ:Operand->Value}{w:World}{dst:Option Tmp}{ty:TypeId}{pos:String}{after:Array Edge}{g:Option (Nat × Bool)}{x:Operand}(h:(rowAt w 24 (ρ x)).isSome=true) :
  (execOp ρ ⟨dst,.load 36 x,ty,pos,after,g⟩).run Tryz.prog w=.ok (.value (.agg ((rowAt w 24 (ρ x)).getD #[]))) w:=D8 36 24 Tryz.underlying36 rfl (by kernel_rfl) h
attribute [local go_sem ↓] Io Hz Rn
def Aw:Call:=⟨0,[],[],[],[],0,0,0,[],⟨⟨false,0⟩,⟨false,0⟩,⟨false,0⟩,⟨false,0⟩,⟨false,0⟩⟩,⟨false,0⟩,0,0,[]⟩
theorem Aej:(Tryz.prog.info? 36).map (fun i=>(i.zero,i.size))=some (some (.agg Aw.vals.toArray),24):=by kernel_rfl
def Ar7:List Oi:=[.i .i64,.s,.s,.s,.s,.i .i64,.i .i64,.i .i64,.s,.b,.i .i64,.b,.i .i64,.b,.i .i64,.b,.i .i64,.b,.i .i64,.b,.i .i64,.i .i64,.i .i64,.s]
theorem Aba:Im Tryz.prog 8 36=some Ar7:=by kernel_rfl
theorem Call.inj {x y:Call}(h:x.vals=y.vals):x=y:=by
 obtain⟨_,_,_,_,_,_,_,_,_,⟨⟨_,_⟩,⟨_,_⟩,⟨_,_⟩,⟨_,_⟩,⟨_,_⟩⟩,⟨_,_⟩,_,_,_⟩:=x;obtain⟨_,_,_,_,_,_,_,_,_,⟨⟨_,_⟩,⟨_,_⟩,⟨_,_⟩,⟨_,_⟩,⟨_,_⟩⟩,⟨_,_⟩,_,_,_⟩:=y;simp only[Call.vals,Ac.vals,Opt.vals,List.cons_append,List.nil_append,List.cons.injEq,Value.int.injEq,Value.bool.injEq,Value.string.injEq,true_and,and_true]at h;obtain⟨h0,h1,h2,h3,h4,h5,h6,h7,h8,h9,h10,h11,h12,h13,h14,h15,h16,h17,h18,h19,h20,h21,h22,h23⟩:=h;have h1:=U8 h1;have h2:=U8 h2;have h3:=U8 h3;have h4:=U8 h4;have h8:=U8 h8;have h23:=U8 h23
 subst_vars
 rfl
theorem Am6 (x y:Call)(h:x=y)(w:World):(binOp .neq 36 (.agg x.vals.toArray) (.agg y.vals.toArray)).run Tryz.prog w=.ok (.bool false) w:=Yu Aba (by kernel_rfl) w _ _ (by rfl) (by rw[h])
theorem Am7 (x y:Call)(h:x≠y)(w:World):(binOp .neq 36 (.agg x.vals.toArray) (.agg y.vals.toArray)).run Tryz.prog w=.ok (.bool true) w:=U1 Aba (by kernel_rfl) w _ _ (by rfl) (by rfl) (fun e=>h (Call.inj e))
theorem Ap6 (x y:Call)(w:World):(binOp .neq 36 (.agg x.vals.toArray) (.agg y.vals.toArray)).run Tryz.prog w=.ok (.bool (decide (x≠y))) w:=by
 by_cases h:x=y
 ·rw[Am6 x y h,decide_eq_false (by simpa using h)]
 ·rw[Am7 x y h,decide_eq_true h]
attribute [local go_sem ↓] Ap6
def Ij (p:Int):Bool:=decide (0<=p) && decide (p<=21)
theorem Aam (p:Int)(w:World):Calls Tryz.prog 76 #[.int .i64 p] w fun e w'=>e=.returned (.bool (Ij p))/\w=w':=by
 go_enter Tryz.func76,Tryz.ntmps76
 go_wp2
 all_goals (go_ret;go_light;exact⟨A5 (by unfold Ij;grind),rfl⟩)
def E2 (x:Call)(l:List UInt8):Bool:=l.all fun c=>C0 x c.toNat
def Ev (x:Call):Int:=
 if Ij x.proc=false then 22
 else if E2 x (Al x.proc)=true/\Pg x (Al x.proc) { Aw with proc:=x.proc } (Al x.proc).length=x then 0 else 14
theorem Tt (x:Call)(w:World):Calls Tryz.prog 36 #[.agg x.vals.toArray] w fun e w'=>e=.returned (.int .i64 (Ev x))/\Below w.heap.size w w':=by
 have hb:=Blk.new w 36 x.vals;have hB:Below w.heap.size w (w.alloc (.cells x.vals.toArray 36)):=(Below.refl _ _).alloc (Nat.le_refl _) _;have hc:=hb.cell;have hcf:∀args W,(callFunc 78 args).run Tryz.prog W=.ok (.enter 78 args) W:=fun args W=>by kernel_rfl
 cases ht:Ij x.proc with
 |false=>
  have HS:=Zh (show Ev x=22 by simp[Ev,ht]);go_enter Tryz.func36,Tryz.ntmps36
  go_wp2_with fail;refine(Aam _ _).mono ?_
  rintro e w1 ⟨rfl,rfl⟩;rw[ht];go_wp2;go_ret;rw[HS.out];exact⟨rfl,hB⟩
 |true=>
  have HS:=Zh (show Ev x=if E2 x (Al x.proc)=true/\Pg x (Al x.proc) { Aw with proc:=x.proc } (Al x.proc).length=x then 0 else 14 by simp[Ev,ht]);go_enter Tryz.func36,Tryz.ntmps36
  go_wp2_with fail;refine(Aam _ _).mono ?_
  rintro e w1 ⟨rfl,rfl⟩;rw[ht];have hsz:(w.alloc (.cells x.vals.toArray 36)).heap.size=w.heap.size+1:=by simp
  generalize w.alloc (.cells x.vals.toArray 36)=w1 at *;obtain⟨z,hz⟩:∃z:Call,z={ Aw with proc:=x.proc }:=⟨_,rfl⟩;have hA:=Blk.new w1 36 z.vals;have hX:=hb.alloc (.cells z.vals.toArray 36);have hB2:=hB.alloc hB.size (.cells z.vals.toArray 36);obtain⟨w2,hw2⟩:∃u,u=w1.alloc (.cells z.vals.toArray 36):=⟨_,rfl⟩;rw[<-hw2]at hA hX hB2;have hc2:=hX.cell;have HW:=Zh hw2;have HZ:=Zh hz;rw[<-hz]at HS;rw[hsz]at hA;clear hw2 hz hb hB
  go_wp2_with (first|(refine Dh (by rfl) (by rfl) 36 (by rfl) _ _ (by rfl) z.vals Aej (by rfl) (by rfl) (Call.one _) (by rfl) (by rw[HZ.out];rfl) ?_;rw[<-HW.out])|fail)
  refine(Aew x.proc 78 [.pointer (some ⟨w.heap.size+1,0,none⟩),.pointer (some ⟨w.heap.size,0,none⟩)] w2 (fun k=>C0 x ((Al x.proc).getD k 0).toNat) (Ac1 w (w.heap.size+1) w.heap.size x (Al x.proc) z) hcf ?_ ?_ ?_).mono ?_
  ·exact fun W h=>⟨hA.stays h,hX.stays h,Ad hB2 h⟩
  ·exact fun k W b l pos pos' hb h hI=>⟨h.A.Ql (h.A.Qe hI) _ _,h.X.Ql (h.X.Qe hI) _ _,Below.setIter h.B (by have:=hB2.size;omega) _ _⟩
  ·intro k hk W hS
   have hg:(Al x.proc).getD k 0=(Al x.proc)[k]:=by simp[List.getD,List.getElem?_eq_getElem hk]
   simp only[hg];exact Aic w _ _ (by omega) (Nat.le_refl _) (by omega) x z _ k hk (Hj _ hk) W hS
  ·rintro e w5 ⟨m,hS,hcase⟩
   clear hA hX hB2 hc2 hc hcf;have hl:∀k (hk:k<(Al x.proc).length),(Al x.proc).getD k 0=(Al x.proc)[k]:=fun k hk=>by simp[List.getD,List.getElem?_eq_getElem hk]
   generalize Al x.proc=l at *;have rX:rowOf w5 w.heap.size 0 24=some x.vals.toArray:=hS.X.row 0 24 (by simp[Call.len]);have rA:rowOf w5 (w.heap.size+1) 0 24=some (Pg x l z m).vals.toArray:=hS.A.row 0 24 (by simp[Call.len]);have HB:=Zh hS.B;rcases hcase with ⟨rfl,hall,rfl⟩|⟨j,rfl,hj,hok,hbad,rfl⟩
   ·have hma:E2 x l=true:=by
     rw[E2,List.all_eq_true];intro c hc;obtain⟨k,hk,rfl⟩:=List.getElem_of_mem hc;have:=hall k hk;simp only[hl k hk]at this;exact this
    rw[hma]at HS;generalize Pg x l z l.length=y at *;clear hall hl hS;by_cases he:y=x
    ·have hn:decide (y≠x)=false:=decide_eq_false (by simpa using he)
     have HV:=Zh (HS.out.trans (if_pos ⟨rfl,he⟩));clear HZ;go_wp2;go_ret;rw[HV.out];exact⟨rfl,HB.out⟩
    ·have hn:decide (y≠x)=true:=decide_eq_true he
     have HV:=Zh (HS.out.trans (if_neg (fun h=>he h.2)));clear HZ;go_wp2;go_ret;rw[HV.out];exact⟨rfl,HB.out⟩
   ·have HV:=Zh (HS.out.trans (if_neg (fun h=>by
     have h1:=h.1;rw[E2,List.all_eq_true]at h1;have:=h1 l[j] (List.getElem_mem hj);simp only[hl j hj]at hbad;rw[hbad]at this;cases this)))
    clear hS hl hok hbad rX rA;go_wp2;go_ret;rw[HV.out];exact⟨rfl,HB.out⟩
end
section
attribute [local go_sem ↓] Io Hz Rn
def Ci (x:Call)(c:Nat):List UInt8:=
 if c=102 then opq x.fh else
 if c=70 then opq x.fh2 else
 if c=110 then opq x.name else
 if c=78 then opq x.name2 else
 if c=116 then opq x.text else
 if c=100 then opq x.data else
 if c=111 then num x.offset.toNat 8 else
 if c=107 then num x.cookie.toNat 8 else
 if c=118 then num x.verf.toNat 8 else
 if c=99 then num x.count.toNat 4 else
 if c=104 then num x.how.toNat 4 else
 if c=115 then x.set.bytes else Sg x.guard.is x.guard.n
theorem Aq6 (g b:Nat)(sv:Value)(l:List UInt8)(x:Call)(w:World)(hW:Wr w g sv l)(hB:Blk w b 36 x.vals)(hm:C0 x 102=true)(hl:l.length<=900000000000) :
  Calls Tryz.prog 126 #[ptr g,.pointer (some ⟨b,0,none⟩),.int .i32 102] w (Jm g sv (l++Ci x 102) (.tuple #[]) w):=by
 have hc:=hB.cell;have hm2:x.fh.length<=64:=by simpa[C0] using hm
 have HS:=Zh (show Ci x 102=opq x.fh by simp[Ci]);go_enter Tryz.func126,Tryz.ntmps126
 go_wp2_with fail;refine(J7 g sv l x.fh _ hW (by omega) (by omega)).mono ?_
 rintro e w1 ⟨rfl,hM⟩;rw[<-HS.out]at hM;have HM:=Zh hM;clear hM;go_wp2;go_end0
 exact⟨rfl,HM.out⟩
theorem Aoj (g b:Nat)(sv:Value)(l:List UInt8)(x:Call)(w:World)(hW:Wr w g sv l)(hB:Blk w b 36 x.vals)(hm:C0 x 70=true)(hl:l.length<=900000000000) :
  Calls Tryz.prog 126 #[ptr g,.pointer (some ⟨b,0,none⟩),.int .i32 70] w (Jm g sv (l++Ci x 70) (.tuple #[]) w):=by
 have hc:=hB.cell;have hm2:x.fh2.length<=64:=by simpa[C0] using hm
 have HS:=Zh (show Ci x 70=opq x.fh2 by simp[Ci]);go_enter Tryz.func126,Tryz.ntmps126
 go_wp2_with fail;refine(J7 g sv l x.fh2 _ hW (by omega) (by omega)).mono ?_
 rintro e w1 ⟨rfl,hM⟩;rw[<-HS.out]at hM;have HM:=Zh hM;clear hM;go_wp2;go_end0
 exact⟨rfl,HM.out⟩
theorem Aq2 (g b:Nat)(sv:Value)(l:List UInt8)(x:Call)(w:World)(hW:Wr w g sv l)(hB:Blk w b 36 x.vals)(hm:C0 x 110=true)(hl:l.length<=900000000000) :
  Calls Tryz.prog 126 #[ptr g,.pointer (some ⟨b,0,none⟩),.int .i32 110] w (Jm g sv (l++Ci x 110) (.tuple #[]) w):=by
 have hc:=hB.cell;have hm2:x.name.length<=255:=by simpa[C0] using hm
 have HS:=Zh (show Ci x 110=opq x.name by simp[Ci]);go_enter Tryz.func126,Tryz.ntmps126
 go_wp2_with fail;refine(J7 g sv l x.name _ hW (by omega) (by omega)).mono ?_
 rintro e w1 ⟨rfl,hM⟩;rw[<-HS.out]at hM;have HM:=Zh hM;clear hM;go_wp2;go_end0
 exact⟨rfl,HM.out⟩
theorem Aoi (g b:Nat)(sv:Value)(l:List UInt8)(x:Call)(w:World)(hW:Wr w g sv l)(hB:Blk w b 36 x.vals)(hm:C0 x 78=true)(hl:l.length<=900000000000) :
  Calls Tryz.prog 126 #[ptr g,.pointer (some ⟨b,0,none⟩),.int .i32 78] w (Jm g sv (l++Ci x 78) (.tuple #[]) w):=by
 have hc:=hB.cell;have hm2:x.name2.length<=255:=by simpa[C0] using hm
 have HS:=Zh (show Ci x 78=opq x.name2 by simp[Ci]);go_enter Tryz.func126,Tryz.ntmps126
 go_wp2_with fail;refine(J7 g sv l x.name2 _ hW (by omega) (by omega)).mono ?_
 rintro e w1 ⟨rfl,hM⟩;rw[<-HS.out]at hM;have HM:=Zh hM;clear hM;go_wp2;go_end0
 exact⟨rfl,HM.out⟩
theorem Aqz (g b:Nat)(sv:Value)(l:List UInt8)(x:Call)(w:World)(hW:Wr w g sv l)(hB:Blk w b 36 x.vals)(hm:C0 x 116=true)(hl:l.length<=900000000000) :
  Calls Tryz.prog 126 #[ptr g,.pointer (some ⟨b,0,none⟩),.int .i32 116] w (Jm g sv (l++Ci x 116) (.tuple #[]) w):=by
 have hc:=hB.cell;have hm2:x.text.length<=255:=by simpa[C0] using hm
 have HS:=Zh (show Ci x 116=opq x.text by simp[Ci]);go_enter Tryz.func126,Tryz.ntmps126
 go_wp2_with fail;refine(J7 g sv l x.text _ hW (by omega) (by omega)).mono ?_
 rintro e w1 ⟨rfl,hM⟩;rw[<-HS.out]at hM;have HM:=Zh hM;clear hM;go_wp2;go_end0
 exact⟨rfl,HM.out⟩
theorem Aq7 (g b:Nat)(sv:Value)(l:List UInt8)(x:Call)(w:World)(hW:Wr w g sv l)(hB:Blk w b 36 x.vals)(hm:C0 x 100=true)(hl:l.length<=900000000000) :
  Calls Tryz.prog 126 #[ptr g,.pointer (some ⟨b,0,none⟩),.int .i32 100] w (Jm g sv (l++Ci x 100) (.tuple #[]) w):=by
 have hc:=hB.cell;have hm2:x.data.length<=256:=by simpa[C0] using hm
 have HS:=Zh (show Ci x 100=opq x.data by simp[Ci]);go_enter Tryz.func126,Tryz.ntmps126
 go_wp2_with fail;refine(J7 g sv l x.data _ hW (by omega) (by omega)).mono ?_
 rintro e w1 ⟨rfl,hM⟩;rw[<-HS.out]at hM;have HM:=Zh hM;clear hM;go_wp2;go_end0
 exact⟨rfl,HM.out⟩
theorem Aq1 (g b:Nat)(sv:Value)(l:List UInt8)(x:Call)(w:World)(hW:Wr w g sv l)(hB:Blk w b 36 x.vals)(hm:C0 x 111=true)(hi:x.offset<=9223372036854775807)(hl:l.length<=900000000000) :
  Calls Tryz.prog 126 #[ptr g,.pointer (some ⟨b,0,none⟩),.int .i32 111] w (Jm g sv (l++Ci x 111) (.tuple #[]) w):=by
 have hc:=hB.cell;have hm2:0<=x.offset:=by simpa[C0] using hm
 obtain⟨n,hn⟩:=Int.eq_ofNat_of_zero_le (show 0<=x.offset by omega);have HN:=Zh hn;have HS:=Zh (show Ci x 111=num n 8 by simp[Ci,hn]);have hb:(n:Int)<=9223372036854775807:=by omega
 clear hn hm hm2 hi;go_enter Tryz.func126,Tryz.ntmps126
 go_wp2_with fail;rw[HN.out];refine(Pm g sv l n _ hW (by omega) (by omega)).mono ?_
 rintro e w1 ⟨rfl,hM⟩;rw[<-HS.out]at hM;have HM:=Zh hM;clear hM;go_wp2;go_end0
 exact⟨rfl,HM.out⟩
theorem Aq3 (g b:Nat)(sv:Value)(l:List UInt8)(x:Call)(w:World)(hW:Wr w g sv l)(hB:Blk w b 36 x.vals)(hm:C0 x 107=true)(hi:x.cookie<=9223372036854775807)(hl:l.length<=900000000000) :
  Calls Tryz.prog 126 #[ptr g,.pointer (some ⟨b,0,none⟩),.int .i32 107] w (Jm g sv (l++Ci x 107) (.tuple #[]) w):=by
 have hc:=hB.cell;have hm2:0<=x.cookie:=by simpa[C0] using hm
 obtain⟨n,hn⟩:=Int.eq_ofNat_of_zero_le (show 0<=x.cookie by omega);have HN:=Zh hn;have HS:=Zh (show Ci x 107=num n 8 by simp[Ci,hn]);have hb:(n:Int)<=9223372036854775807:=by omega
 clear hn hm hm2 hi;go_enter Tryz.func126,Tryz.ntmps126
 go_wp2_with fail;rw[HN.out];refine(Pm g sv l n _ hW (by omega) (by omega)).mono ?_
 rintro e w1 ⟨rfl,hM⟩;rw[<-HS.out]at hM;have HM:=Zh hM;clear hM;go_wp2;go_end0
 exact⟨rfl,HM.out⟩
theorem Aqy (g b:Nat)(sv:Value)(l:List UInt8)(x:Call)(w:World)(hW:Wr w g sv l)(hB:Blk w b 36 x.vals)(hm:C0 x 118=true)(hi:x.verf<=9223372036854775807)(hl:l.length<=900000000000) :
  Calls Tryz.prog 126 #[ptr g,.pointer (some ⟨b,0,none⟩),.int .i32 118] w (Jm g sv (l++Ci x 118) (.tuple #[]) w):=by
 have hc:=hB.cell;have hm2:0<=x.verf:=by simpa[C0] using hm
 obtain⟨n,hn⟩:=Int.eq_ofNat_of_zero_le (show 0<=x.verf by omega);have HN:=Zh hn;have HS:=Zh (show Ci x 118=num n 8 by simp[Ci,hn]);have hb:(n:Int)<=9223372036854775807:=by omega
 clear hn hm hm2 hi;go_enter Tryz.func126,Tryz.ntmps126
 go_wp2_with fail;rw[HN.out];refine(Pm g sv l n _ hW (by omega) (by omega)).mono ?_
 rintro e w1 ⟨rfl,hM⟩;rw[<-HS.out]at hM;have HM:=Zh hM;clear hM;go_wp2;go_end0
 exact⟨rfl,HM.out⟩
theorem Aq8 (g b:Nat)(sv:Value)(l:List UInt8)(x:Call)(w:World)(hW:Wr w g sv l)(hB:Blk w b 36 x.vals)(hm:C0 x 99=true)(hl:l.length<=900000000000) :
  Calls Tryz.prog 126 #[ptr g,.pointer (some ⟨b,0,none⟩),.int .i32 99] w (Jm g sv (l++Ci x 99) (.tuple #[]) w):=by
 have hc:=hB.cell;have hm2:0<=x.count/\x.count<=4294967295:=by simpa[C0] using hm
 obtain⟨n,hn⟩:=Int.eq_ofNat_of_zero_le (show 0<=x.count by omega);have HN:=Zh hn;have HS:=Zh (show Ci x 99=num n 4 by simp[Ci,hn]);have hb:(n:Int)<=4294967295:=by omega
 clear hn hm hm2;go_enter Tryz.func126,Tryz.ntmps126
 go_wp2_with fail;rw[HN.out];refine(Is g sv l n _ hW (by omega) (by omega)).mono ?_
 rintro e w1 ⟨rfl,hM⟩;rw[<-HS.out]at hM;have HM:=Zh hM;clear hM;go_wp2;go_end0
 exact⟨rfl,HM.out⟩
theorem Aq4 (g b:Nat)(sv:Value)(l:List UInt8)(x:Call)(w:World)(hW:Wr w g sv l)(hB:Blk w b 36 x.vals)(hm:C0 x 104=true)(hl:l.length<=900000000000) :
  Calls Tryz.prog 126 #[ptr g,.pointer (some ⟨b,0,none⟩),.int .i32 104] w (Jm g sv (l++Ci x 104) (.tuple #[]) w):=by
 have hc:=hB.cell;have hm2:0<=x.how/\x.how<=4294967295:=by simpa[C0] using hm
 obtain⟨n,hn⟩:=Int.eq_ofNat_of_zero_le (show 0<=x.how by omega);have HN:=Zh hn;have HS:=Zh (show Ci x 104=num n 4 by simp[Ci,hn]);have hb:(n:Int)<=4294967295:=by omega
 clear hn hm hm2;go_enter Tryz.func126,Tryz.ntmps126
 go_wp2_with fail;rw[HN.out];refine(Is g sv l n _ hW (by omega) (by omega)).mono ?_
 rintro e w1 ⟨rfl,hM⟩;rw[<-HS.out]at hM;have HM:=Zh hM;clear hM;go_wp2;go_end0
 exact⟨rfl,HM.out⟩
end
section
attribute [local go_sem ↓] Io Hz Rn
theorem Aq0 (g b:Nat)(sv:Value)(l:List UInt8)(x:Call)(w:World)(hW:Wr w g sv l)(hB:Blk w b 36 x.vals)(hm:C0 x 115=true)(hg:x.set.C9)(hl:l.length<=900000000000) :
  Calls Tryz.prog 126 #[ptr g,.pointer (some ⟨b,0,none⟩),.int .i32 115] w (Jm g sv (l++Ci x 115) (.tuple #[]) w):=by
 have hr:rowOf w b 9 10=some x.set.vals.toArray:=hB.row 9 10 (by simp[Call.len]);have hm2:x.set.ok=true:=by simpa[C0] using hm
 have HS:=Zh (show Ci x 115=x.set.bytes by simp[Ci]);go_enter Tryz.func126,Tryz.ntmps126
 go_wp2_with fail;refine(Ag1 g sv l x.set _ hW hm2 hg hl).mono ?_
 rintro e w1 ⟨rfl,hM⟩;rw[<-HS.out]at hM;have HM:=Zh hM;clear hM;go_wp2;go_end0
 exact⟨rfl,HM.out⟩
theorem Aq5 (g b:Nat)(sv:Value)(l:List UInt8)(x:Call)(w:World)(hW:Wr w g sv l)(hB:Blk w b 36 x.vals)(hm:C0 x 103=true)(hg:x.guard.n<=9223372036854775807)(hl:l.length<=900000000000) :
  Calls Tryz.prog 126 #[ptr g,.pointer (some ⟨b,0,none⟩),.int .i32 103] w (Jm g sv (l++Ci x 103) (.tuple #[]) w):=by
 have hr:rowOf w b 19 2=some x.guard.vals.toArray:=hB.row 19 2 (by simp[Call.len]);have hm2:0<=x.guard.n:=by simp[C0]at hm;exact hm.1
 have HS:=Zh (show Ci x 103=Sg x.guard.is x.guard.n by simp[Ci]);go_enter Tryz.func126,Tryz.ntmps126
 go_wp2_with fail;refine(Ac7 g sv l x.guard.is x.guard.n _ hW (fun _=>hm2) hg (by omega)).mono ?_
 rintro e w1 ⟨rfl,hM⟩;rw[<-HS.out]at hM;have HM:=Zh hM;clear hM;go_wp2;go_end0
 exact⟨rfl,HM.out⟩
theorem Ali (g b:Nat)(sv:Value)(l:List UInt8)(x:Call)(c:Nat)(w:World)(hc:K7 c)(hW:Wr w g sv l)(hB:Blk w b 36 x.vals)(hm:C0 x c=true)(hgo:x.offset<=9223372036854775807)(hgk:x.cookie<=9223372036854775807)(hgv:x.verf<=9223372036854775807)(hgs:x.set.C9)(hgg:x.guard.n<=9223372036854775807)(hl:l.length<=900000000000) :
  Calls Tryz.prog 126 #[ptr g,.pointer (some ⟨b,0,none⟩),.int .i32 c] w (Jm g sv (l++Ci x c) (.tuple #[]) w):=by
 rcases hc with rfl|rfl|rfl|rfl|rfl|rfl|rfl|rfl|rfl|rfl|rfl|rfl|rfl
 ·exact Aq6 g b sv l x w hW hB hm hl
 ·exact Aoj g b sv l x w hW hB hm hl
 ·exact Aq2 g b sv l x w hW hB hm hl
 ·exact Aoi g b sv l x w hW hB hm hl
 ·exact Aqz g b sv l x w hW hB hm hl
 ·exact Aq7 g b sv l x w hW hB hm hl
 ·exact Aq1 g b sv l x w hW hB hm hgo hl
 ·exact Aq3 g b sv l x w hW hB hm hgk hl
 ·exact Aqy g b sv l x w hW hB hm hgv hl
 ·exact Aq8 g b sv l x w hW hB hm hl
 ·exact Aq4 g b sv l x w hW hB hm hl
 ·exact Aq0 g b sv l x w hW hB hm hgs hl
 ·exact Aq5 g b sv l x w hW hB hm hgg hl
end
section
attribute [local go_sem ↓] Io Hz Rn
theorem Ago {w:World}{base:Nat}{e:TypeId}{size n b pos:Nat}{v:Value}{xs:List Value}{l:List UInt8}(h:w.ownsRow base e size v n xs)(hI:Itr w b l pos):v.ownBlock≠some b:=by
 intro hb;rcases h.2 with ⟨rfl,_⟩|⟨g,cap,cur,rfl,_,hg,_⟩
 ·simp[Value.ownBlock]at hb
 ·simp[Value.ownBlock]at hb
  subst hb;unfold Itr at hI;rw[hg]at hI;cases hI
theorem Wr.Wt {w:World}{g b pos:Nat}{sv:Value}{m l:List UInt8}(h:Wr w g sv m)(hI:Itr w b l pos):¬Xm g sv b:=by
 intro hf;rcases hf with rfl|hf
 ·exact h.1.Qe hI rfl
 ·exact Ago h.2 hI hf
def M0 (x:Call)(l:List UInt8)(k:Nat):List UInt8:=(l.take k).flatMap fun c=>Ci x c.toNat
theorem Tv (x:Call)(l:List UInt8)(k:Nat)(hk:k<l.length):M0 x l (k+1)=M0 x l k++Ci x l[k].toNat:=by
 unfold M0;rw[List.take_add_one,List.getElem?_eq_getElem hk,List.flatMap_append];simp
structure Ac2 (w0:World) (g h b:Nat) (x:Call) (l:List UInt8) (k:Nat) (W:World):Prop where
 wr:∃sv,Wr W g sv (M0 x l k)/\∀i,sv.ownBlock=some i->w0.heap.size<=i
 H:Blk W h 193 [ptr g]
 X:Blk W b 36 x.vals
 B:Below w0.heap.size w0 W
theorem Amm (w0:World)(g h b:Nat)(hg0:w0.heap.size<=g)(x:Call)(l:List UInt8)(k:Nat)(hk:k<l.length)(hl:K7 l[k].toNat)(hm:C0 x l[k].toNat=true)(hgo:x.offset<=9223372036854775807)(hgk:x.cookie<=9223372036854775807)(hgv:x.verf<=9223372036854775807)(hgs:x.set.C9)(hgg:x.guard.n<=9223372036854775807)(hlen:(M0 x l k).length<=900000000000)(W:World)(hS:Ac2 w0 g h b x l k W) :
  Calls Tryz.prog 125 #[.int .i32 l[k].toNat,.pointer (some ⟨h,0,none⟩),.pointer (some ⟨b,0,none⟩)] W fun e W'=>e=.returned (.bool true)/\Ac2 w0 g h b x l (k+1) W'/\∀b l pos,Itr W b l pos->Itr W' b l pos:=by
 have HT:=Zh (Tv x l k hk);generalize l[k].toNat=c at *;obtain⟨⟨sv,hW,hrow⟩,hH,hX,hB⟩:=hS;have hc:=hH.cell;go_enter Tryz.func125,Tryz.ntmps125
 go_wp2_with fail;refine(Ali g b sv _ x c _ hl hW hX hm hgo hgk hgv hgs hgg hlen).mono ?_
 rintro e w1 ⟨rfl,sv1,hW1,hr1,hT1⟩;rw[<-HT.out]at hW1;have HH:Ac2 w0 g h b x l (k+1) w1:=⟨⟨sv1,hW1,fun i hi=>by
   rcases hr1 i hi with h|h
   ·exact hrow i h
   ·exact Nat.le_trans hB.size h⟩,hW.keeps hH (by decide) (by decide) hT1,hW.keeps hX (by decide) (by decide) hT1,
  hB.trans (hT1.below (fun i _ hf=>by
   rcases hf with rfl|hf
   ·exact hg0
   ·exact hrow i hf) hB.size)⟩
 have HI:∀b l pos,Itr W b l pos->Itr w1 b l pos:=fun b l pos h=>h.Ak hT1 (hW.Wt h)
 clear hW1 hr1 hT1 hH hX hB hW hrow;go_wp2;go_ret;exact⟨rfl,HH,HI⟩
end
section
attribute [local go_sem ↓] Io Hz Rn
theorem Xa {x:Call}(h:Ev x=0):E2 x (Al x.proc)=true:=by
 unfold Ev at h;split at h
 ·cases h
 ·split at h
  ·next h2=>exact h2.1
  ·cases h
def Aaa (x:Call):List UInt8 × Int:=if Ev x=0 then (M0 x (Al x.proc) (Al x.proc).length,0) else ([],Ev x)
theorem Ma (p:Int):(Al p).length<=5:=by
 unfold Al;split
 ·simp
 ·rcases Nat.lt_or_ge p.toNat F5.length with h|h
  ·have he:F5.getD p.toNat []=F5[p.toNat]:=by simp[List.getD,List.getElem?_eq_getElem h]
   rw[he];have:∀s∈F5,s.length<=5:=by decide
   exact this _ (List.getElem_mem h)
  ·simp[List.getD,List.getElem?_eq_none h]
theorem R7 (l:List UInt8):(opq l).length<=l.length+8:=by
 have:=Qa l.length;simp only[opq,List.length_append,Ce,Qk];omega
theorem Ad5 (b:Bool)(n:Int):(Sg b n).length<=12:=by
 cases b<;>simp[Sg,Jo,Ce]
theorem Kx (o:Opt):o.bytes.length<=12:=Ad5 o.is o.n
theorem Zj (x:Call)(c:Nat)(hm:C0 x c=true)(hl:K7 c):(Ci x c).length<=600:=by
 have hs:x.set.bytes.length<=60:=by
  have h1:=Kx x.set.mode;have h2:=Kx x.set.uid;have h3:=Kx x.set.gid;have h4:=Kx x.set.size;have h5:=Kx x.set.time;simp only[Ac.bytes,List.length_append];omega
 have ho:=Ad5 x.guard.is x.guard.n;have o1:=R7 x.fh;have o2:=R7 x.fh2;have o3:=R7 x.name;have o4:=R7 x.name2;have o5:=R7 x.text;have o6:=R7 x.data;rcases hl with rfl|rfl|rfl|rfl|rfl|rfl|rfl|rfl|rfl|rfl|rfl|rfl|rfl
 all_goals
  simp[C0]at hm
  simp[Ci,Ce]
  try omega
theorem Sd (x:Call)(l:List UInt8)(hm:E2 x l=true)(hl:∀k (hk:k<l.length),K7 l[k].toNat)(k:Nat)(hk:k<=l.length):(M0 x l k).length<=600*k:=by
 induction k with
 |zero=>simp[M0]
 |succ k ih=>
  have h1:=ih (by omega);have hlt:k<l.length:=by omega
  rw[E2,List.all_eq_true]at hm;have h2:=Zj x l[k].toNat (hm _ (List.getElem_mem hlt)) (hl k hlt);rw[Tv x l k hlt,List.length_append];omega
end
attribute [local go_sem] Attr.at0 Attr.Bo Attr.at1 Attr.Bk Attr.at2 Attr.Ca Attr.at3 Attr.Cg Attr.at4 Attr.Cx Attr.at5 Attr.Cw Attr.at6 Attr.Cv Attr.at7 Attr.Cu Attr.at8 Attr.Ct Attr.at9 Attr.Cs Attr.Cl Attr.B4 Attr.len Opt.at0 Opt.Bo Opt.at1 Opt.Bk Opt.Ch Opt.Br Opt.len Ac.at0 Ac.Bo Ac.at1 Ac.Bk Ac.at2 Ac.Ca Ac.at3 Ac.Cg Ac.at4 Ac.Cx Ac.at5 Ac.Cw Ac.at6 Ac.Cv Ac.at7 Ac.Cu Ac.at8 Ac.Ct Ac.at9 Ac.Cs Ac.Cl Ac.B4 Ac.Ch Ac.Br Ac.Gn Ac.E1 Ac.Gm Ac.E0 Ac.Gl Ac.Ez Ac.Gk Ac.Ey Ac.len Ah.at0 Ah.Bo Ah.at1 Ah.Bk Ah.at2 Ah.Ca Ah.at3 Ah.Cg Ah.at4 Ah.Cx Ah.at5 Ah.Cw Ah.at6 Ah.Cv Ah.at7 Ah.Cu Ah.at8 Ah.Ct Ah.at9 Ah.Cs Ah.Ee Ah.C4 Ah.Kp Ah.Iy Ah.Kn Ah.Iw Ah.len Wcc.at0 Wcc.Bo Wcc.at1 Wcc.Bk Wcc.at2 Wcc.Ca Wcc.at3 Wcc.Cg Wcc.at4 Wcc.Cx Wcc.at5 Wcc.Cw Wcc.at6 Wcc.Cv Wcc.at7 Wcc.Cu Wcc.at8 Wcc.Ct Wcc.at9 Wcc.Cs Wcc.Ee Wcc.C4 Wcc.Fm Wcc.Dm Wcc.Fl Wcc.Dl Wcc.Ko Wcc.Ix Wcc.Ch Wcc.Br Wcc.Fa Wcc.Ec Wcc.E9 Wcc.Eb Wcc.len Dj
section
attribute [local go_sem ↓] L5 Hz Io Fq Lb
theorem Ajv (o:Opt)(p:Ah):setAt (Wcc.vals ⟨o,Bb⟩) 2 p.vals=Wcc.vals ⟨o,p⟩:=rfl
theorem Ahh (g:Nat)(r:Rs)(w:World)(hR:Rd w g r)(hl:r.s.length<=9223372036854775807) :
  Calls Tryz.prog 176 #[.pointer (some ⟨g,0,none⟩)] w (Um g (Ei r).2 (Qu (Cf Wcc.ok Df (Ei r)).1.vals (Cf Wcc.ok Df (Ei r)).2) w):=by
 have hb:=Blk.new w 47 Df.vals;have hB:Below w.heap.size w (w.alloc (.cells Df.vals.toArray 47)):=(Below.refl _ _).alloc (Nat.le_refl _) _;have hR1:=hR.stays hB;have hne:w.heap.size≠g:=Nat.ne_of_gt hR.lt;have hgl:=hR.lt;have hl2:=Rc hl;have hg:=Ut hl;clear hR;go_enter Tryz.func176,Tryz.ntmps176
 go_wp2_with fail;change Calls _ _ _ (w.alloc (.cells Df.vals.toArray 47)) _;generalize w.alloc (.cells Df.vals.toArray 47)=w0 at *;refine(Amg g r _ hR1 hl).mono ?_
 rintro e w1 ⟨he,hQ⟩;obtain⟨x,hx⟩:∃x,x=Fp r:=⟨_,rfl⟩;rw[<-hx]at he hQ hl2;have HX:=Zh hx;clear hx;subst he;obtain⟨⟨o1,o2⟩,rr⟩:=x;simp only at hQ hl2
 have hb1:=(hQ.keeps hb hne).alloc (.cells (Wcc.vals ⟨D1 (o1,o2),Bb⟩).toArray 47);have hp1:=Blk.new w1 47 (Wcc.vals ⟨D1 (o1,o2),Bb⟩);have hQ1:=(Reads.behind hB hQ).new ((Below.refl _ _).alloc (Nat.le_refl _) (.cells (Wcc.vals ⟨D1 (o1,o2),Bb⟩).toArray 47));have hne1:w1.heap.size≠g:=by have:=hQ.1.lt;omega
 have hlt2:w.heap.size<w1.heap.size:=(hQ.keeps hb hne).lt;have hne2:w.heap.size≠w1.heap.size:=by omega
 have hR2:=hQ1.1;clear hQ hb;go_wp2_with fail;change Calls _ _ _ (w1.alloc (.cells (Wcc.vals ⟨D1 (o1,o2),Bb⟩).toArray 47)) _;generalize w1.alloc (.cells (Wcc.vals ⟨D1 (o1,o2),Bb⟩).toArray 47)=w2 at *;refine(Ym g rr _ hR2 (by omega)).mono ?_
 rintro e w3 ⟨he,hQ3⟩;obtain⟨p,hp⟩:∃p,p=Bh rr:=⟨_,rfl⟩;rw[<-hp]at he hQ3;have HP:=Zh hp;clear hp;subst he;obtain⟨pv,rs⟩:=p;simp only at hQ3
 have hb3:=hQ3.keeps hb1 hne;have hp3:=hQ3.keeps hp1 hne1;have hQ4:=hQ1.trans hQ3;have hp4:=hp3.Ml pv.vals _ 2;rw[Ajv]at hp4;have hb4:=Blk.Fk (g:=w.heap.size) hne2 pv.vals 2 _ hb3;have hQ5:Reads g rs w (w3.setCells w1.heap.size 2 pv.vals):=⟨hQ4.1.Ak (Touch.setCells (F:=fun k=>k=w1.heap.size) (.inl rfl) _ 2 w3 (Touch.refl _ _)) (fun hh=>hne1 hh.symm),Touch.setCells (.inr (by omega)) _ 2 w3 hQ4.2⟩;have rp:rowOf (w3.setCells w1.heap.size 2 pv.vals) w1.heap.size 0 13=some (Wcc.vals ⟨D1 (o1,o2),pv⟩).toArray:=hp4.row 0 13 (by simp[Wcc.len]);obtain⟨w4,hw4⟩:∃w4,w4=w3.setCells w1.heap.size 2 pv.vals:=⟨_,rfl⟩;rw[<-hw4]at rp hb4 hQ5;have HW4:=Zh hw4;clear hQ1 hQ3 hQ4 hp4 hb1 hb3 hp1 hR2 hw4
 go_wp2_with (first|(refine Ax (by rfl) 45 _ _ (by rfl) w1.heap.size 2 pv.vals _ hp3 (by simp[Ah.len,Wcc.len]) (by rfl) (by rfl) (by kernel_rfl) (Ah.one _) ?_;rw[<-HW4.out])|fail)
 have hw:Ei r=(⟨D1 (o1,o2),pv⟩,rs):=by unfold Ei;rw[<-HX.out];simp only;rw[<-HP.out]
 rw[hw]at hg;refine(Ahg g rs ⟨D1 (o1,o2),pv⟩ _ hQ5.1 hg).mono ?_
 rintro e w5 ⟨he,hb⟩;have hb5:=hb4.stays hb;have hQ6:=hQ5.new hb;obtain⟨y,hy⟩:∃y,y=Cf Wcc.ok Df (⟨D1 (o1,o2),pv⟩,rs):=⟨_,rfl⟩;rw[<-hy]at he;have HY:=Zh hy;have HWW:=Zh hw;clear hy hw hb hb4 hQ5 rp;subst he;unfold Qu;obtain⟨y1,y2⟩:=y;have HQ:=Zh (Reads.lay (cs:=y1.vals) hQ6 hb5 rfl hne (Nat.le_refl _));clear hQ6
 go_wp2_with (first|(refine Ae (by rfl) 47 _ _ (by rfl) w.heap.size y1.vals _ hb5 (by rfl) (by rfl) (by rfl) (by kernel_rfl) (Wcc.one _) ?_)|fail)
 refine Ap w.heap.size 0 y1.vals (.int .i64 y2) Tryz.results176 Tryz.underlying47 rfl (by kernel_rfl) rfl rfl HQ.out.2.range rfl ?_
 rw[HWW.out,<-HY.out];exact⟨rfl,HQ.out.1⟩
def E3 (s:Ac)(o:Opt):Nat->Ac
 |0=>{ s with mode:=o }
 |1=>{ s with uid:=o }
 |2=>{ s with gid:=o }
 |3=>{ s with size:=o }
 |_=>{ s with time:=o }
def Aaq:Nat->Rs->Ac × Rs
 |0,r=>(Eg,r)
 |k+1,r=>(E3 (Aaq k r).1 (D1 (Fp (Aaq k r).2).1) k,(Fp (Aaq k r).2).2)
def Ow (r:Rs):Ac × Rs:=Aaq 5 r
theorem Ajs (r:Rs)(k:Nat)(h:r.s.length<=9223372036854775807):(Aaq k r).2.s.length<=9223372036854775807:=by
 induction k with
 |zero=>exact h
 |succ k ih=>exact Nat.le_trans (Rc ih) ih
end
theorem Aav {k:Nat}{r:Rs}(h0:r.e=0)(h:(F3 k r).2.e=0):r.s=num (F3 k r).1 k++(F3 k r).2.s/\(F3 k r).1<256 ^ k:=by
 unfold F3 at *;rw[if_neg (by simpa using h0)]at *;by_cases hs:r.s.length<k
 ·rw[if_pos hs]at h;simp[Rs.fail]at h
 ·rw[if_neg hs]at *
  have hl:(r.s.take k).length=k:=by rw[List.length_take];omega
  have h1:=Ako (r.s.take k);rw[hl]at h1;have h2:=Py (r.s.take k);rw[hl]at h2;exact⟨by simp only;rw[h1,List.take_append_drop],h2⟩
theorem Jg {r:Rs}(h0:r.e=0)(h:(Am r).2.e=0):r.s=num (Am r).1 4++(Am r).2.s/\(Am r).1<4294967296:=Aav h0 h
theorem Nf {r:Rs}(h0:r.e=0)(h:(Bn r).2.e=0):r.s=num (Bn r).1 8++(Bn r).2.s/\(Bn r).1<9223372036854775808:=by
 unfold Bn at *;by_cases hv:9223372036854775808<=(F3 8 r).1
 ·rw[if_pos hv]at h;simp[Rs.fail]at h
 ·rw[if_neg hv]at *
  exact⟨(Aav h0 h).1,by omega⟩
theorem P5 {r:Rs}(h0:r.e=0)(h:(Bw r).2.e=0):r.s=Jo (Bw r).1++(Bw r).2.s:=by
 unfold Bw at *;by_cases hv:1<(Am r).1
 ·rw[if_pos hv]at h;simp[Rs.fail]at h
 ·rw[if_neg hv]at *
  have h1:=(Jg h0 h).1;simp only
  rw[h1];congr 1
  unfold Jo;have:(Am r).1=0\/(Am r).1=1:=by omega
  rcases this with h2|h2<;>rw[h2]<;>rfl
theorem Alu {l:List UInt8}{n:Nat}(hl:l.length=n)(h:l.all (·==0)=true):l=List.replicate n 0:=by
 rw[List.all_eq_true]at h;exact List.eq_replicate_iff.2 ⟨hl,fun x hx=>by simpa using h x hx⟩
theorem Ab8 {n:Nat}{r:Rs}(h0:r.e=0)(h:(En n r).2.e=0):r.s=filled (En n r).1++(En n r).2.s/\(En n r).1.length=n:=by
 unfold En at *;rw[if_neg (by simpa using h0)]at *;by_cases h1:r.s.length<n
 ·rw[if_pos h1]at h;simp[Rs.fail]at h
 ·rw[if_neg h1]at *
  by_cases h2:(r.s.drop n).length<D7 n
  ·rw[if_pos h2]at h;simp[Rs.fail]at h
  ·rw[if_neg h2]at *
   by_cases h3:((r.s.drop n).take (D7 n)).all (·==0)=true
   ·rw[if_pos h3]at *
    have hl:(r.s.take n).length=n:=by rw[List.length_take];omega
    refine⟨?_,hl⟩
    have hz:=Alu (n:=D7 n) (by rw[List.length_take];omega) h3;simp only[filled,hl,<-hz];rw[List.append_assoc,List.take_append_drop,List.take_append_drop]
   ·rw[if_neg h3]at h;simp[Rs.fail]at h
theorem M7 {most:Int}{r:Rs}(h0:r.e=0)(h:(Ao most r).2.e=0):r.s=opq (Ao most r).1++(Ao most r).2.s/\((Ao most r).1.length:Int)<=most:=by
 unfold Ao at *;by_cases h1:(Am r).2.e≠0
 ·rw[if_pos h1]at h;exact absurd h h1
 ·rw[if_neg h1]at *
  by_cases h2:most<((Am r).1:Int)
  ·rw[if_pos h2]at h;simp[Rs.fail]at h
  ·rw[if_neg h2]at *
   have h1':(Am r).2.e=0:=by simpa using h1
   obtain⟨e1,_⟩:=Jg h0 h1';obtain⟨e2,e3⟩:=Ab8 h1' h;refine⟨?_,by omega⟩
   rw[opq,e3,List.append_assoc,<-e2];exact e1
theorem Aj7 {r:Rs}(h0:r.e=0)(h:(Fp r).2.e=0):r.s=Sg (Fp r).1.1 (Fp r).1.2++(Fp r).2.s/\(Fp r).1.2<9223372036854775808:=by
 unfold Fp at *;by_cases hb:(Bw r).1=true
 ·rw[if_pos hb]at *
  by_cases he:(Bn (Bw r).2).2.e≠0
  ·rw[if_pos he]at h;exact absurd h he
  ·rw[if_neg he]at *
   have he':(Bn (Bw r).2).2.e=0:=by simpa using he
   have hbe:(Bw r).2.e=0:=Classical.byContradiction fun hc=>by
    have:(Bn (Bw r).2)=(0,(Bw r).2):=by simp[Bn,F3,hc]
    rw[this]at he';exact hc he'
   have e1:=P5 h0 hbe;obtain⟨e2,e3⟩:=Nf hbe he';refine⟨?_,e3⟩
   simp only[Sg,if_true,Int.toNat_natCast];rw[List.append_assoc,<-e2,<-hb];exact e1
 ·rw[if_neg hb]at *
  have hbe:(Bw r).2.e=0:=h;have e1:=P5 h0 hbe;have hb':(Bw r).1=false:=by simpa using hb
  rw[hb']at e1;refine⟨?_,by simp⟩
  simpa[Sg] using e1
end Go.Proofs.YtfjflkmhhbhceaaGreatDoor
