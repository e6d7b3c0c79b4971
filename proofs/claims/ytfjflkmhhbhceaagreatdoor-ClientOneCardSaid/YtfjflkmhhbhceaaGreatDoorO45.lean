/-
  Layer 8, walks: the document's entries, any: what is known where they may be. Condition: machine lengths.
-/
import Derived.Test.YtfjflkmhhbhceaaGreatDoorO20
import Derived.Deep.CutRange
set_option maxRecDepth 20000
set_option maxHeartbeats 40000000
namespace Go.Proofs.YtfjflkmhhbhceaaGreatDoor
open Go.RowKit
attribute [local go_sem ↓] Go.wp_at_zero Go.wp_at_succ
attribute [local go_sem] Ai Ag Af Ab Aj
section
attribute [local go_sem ↓] Fq Jx Iv
def BIf (P:Prop)(v:Value):Prop:=∃b,v=.bool b/\(b=false->P)
theorem BIf.t (P:Prop):BIf P (.bool true):=⟨true,rfl,fun h=>by cases h⟩
theorem BIf.f {P:Prop}(b:Bool)(h:P):BIf P (.bool b):=⟨b,rfl,fun _=>h⟩
structure Af7 (x:Entry):Prop where
 gen:0<=x.gen
 cookie:0<=x.cookie
 name:x.name.length<=255
 fh:x.fh.length<=64
 ok:x.attr.ok=true
def Af6 (l:List Entry)(w:World)(e:Ending)(w':World):Prop:=(∃r,e=.returned (.bool r)/\(r=true->l.length<=64/\∀x∈l,Af7 x))/\Below w.heap.size w w'
theorem Af6.no {l:List Entry}{w w':World}(hb:Below w.heap.size w w'):Af6 l w (.returned (.bool false)) w':=⟨⟨false,rfl,fun h=>by cases h⟩,hb⟩
theorem Ahr (A:Option Addr)(c:Nat)(l:List Entry)(pl wh:Bool)(w:World)(hl:l.length<=9223372036854775807)(hA:At w 15 A (l.map Entry.vals)) :
  Calls Tryz.prog 67 #[.slice A l.length c,.bool pl,.bool wh] w (Af6 l w):=by
 have HA:=Zh hA;clear hA;go_enter Tryz.func67,Tryz.ntmps67
 go_upto_region 1 with fail
 go_cut [24] from 9 to 23 (fun v wx=>BIf (l.length<=64) v/\wx=w)
 case first=>
  by_cases h64:64<l.length
  ·have h64i:(64:Int)<(l.length:Int):=by omega
   have h64b:decide ((64:Int)<(l.length:Int))=true:=decide_eq_true h64i;go_wp2;go_meet
   case rel=>exact⟨BIf.t _,rfl⟩
  ·have h64i:¬(64:Int)<(l.length:Int):=by omega
   have h64b:decide ((64:Int)<(l.length:Int))=false:=decide_eq_false h64i;have H64:=Zh (show l.length<=64 by omega);clear h64 hl;cases pl
   case true=>
    go_wp2;go_meet
    case rel=>exact⟨BIf.f _ H64.out,rfl⟩
   case false=>
    cases wh
    all_goals
     go_wp2;go_meet
     case rel=>exact⟨BIf.f _ H64.out,rfl⟩
 case rest=>
 obtain⟨⟨b,rfl,hb0⟩,hw⟩:=hcut;have hw2:=hw.symm;clear hw;subst hw2;cases b
 case true=>
  go_wp2;go_ret;exact Af6.no (Below.refl _ _)
 case false=>
 have h64:=hb0 rfl;clear hb0;go_wp2
 go_loopw [7] (fun i wr=>∃k:Nat,k<=l.length/\i=.int .i64 k/\(∀x∈l.take k,Af7 x)/\Below w.heap.size w wr) (fun i _=>l.length - (intOf i).toNat)
 case atStart=>exact⟨0,Nat.zero_le _,rfl,(by simp),Below.refl _ _⟩
 case round=>
  obtain⟨k,hk,rfl,hok,hb⟩:=hrel;have hk0:(0:Int)<=(k:Int):=Int.natCast_nonneg _;by_cases hlt:k<l.length
  ·have hk1:(k:Int)<(l.length:Int):=by omega
   have hiw:IntKind.i64.wrap ((k:Int)+1)=((k+1:Nat):Int):=by rw[IntWalk.i64_in _ (by omega)];omega
   obtain⟨b1,o1,rfl,hb1,rl,-⟩:=Hw Entry.len (by decide) (HA.out.below hb) hlt;have bE:=Blk.new wr 126 l[k].vals;have hbE:Below wr.heap.size wr (wr.alloc (.cells l[k].vals.toArray 126)):=(Below.refl _ _).alloc (Nat.le_refl _) _;have HBw:=Zh hb;have HNX:=Zh (fun (h:Af7 l[k])=>(show ∀x∈l.take (k+1),Af7 x by
    intro q hq;rw[Pn _ _ hlt]at hq;rcases List.mem_append.1 hq with hq|hq
    ·exact hok q hq
    ·simp only[List.mem_singleton]at hq
     subst hq;exact h))
   generalize l[k]=x at *;have hn:=Au x.name;have hf:=Au x.fh;clear hb hok
   go_upto_region 7 with (first|(refine Dh (by rfl) (by rfl) 126 (by rfl) _ _ (by rfl) x.vals Ahe (by rfl) (by rfl) (Entry.one _) (by rfl) (by rfl) ?_)|fail)
   generalize wr.alloc (.cells x.vals.toArray 126)=w5 at *;have c0:w5.cell? ⟨wr.heap.size,0,none⟩=some (.int .i64 x.gen):=bE.cell 0;have c1:w5.cell? ⟨wr.heap.size,1,none⟩=some (.string (bs x.name)):=bE.cell 1;have c2:w5.cell? ⟨wr.heap.size,2,none⟩=some (.int .i64 x.cookie):=bE.cell 2;have r3:rowOf w5 wr.heap.size 3 11=some x.attr.vals.toArray:=bE.row 3 11 (by rw[Entry.len];omega);have c14:w5.cell? ⟨wr.heap.size,14,none⟩=some (.string (bs x.fh)):=bE.cell 14;have hlE:=bE.lt;have HB5:=Zh (HBw.out.trans (hbE.mono HBw.out.size));have HEs:=Zh bE;have KP:=Zh (fun W=>Ku x.attr W);clear rl hbE bE;go_frame
   go_cut [75] from 35 to 74 (fun v wx=>BIf (Af7 x) v/\Below w5.heap.size w5 wx)
   case first=>
    by_cases i0:x.gen<0
    ·have i0b:decide (x.gen<0)=true:=decide_eq_true i0
     go_wp2;go_meet
     case rel=>exact⟨BIf.t _,Below.refl _ _⟩
    have i0b:decide (x.gen<0)=false:=decide_eq_false i0;by_cases i1:x.cookie<0
    ·have i1b:decide (x.cookie<0)=true:=decide_eq_true i1
     go_wp2;go_meet
     case rel=>exact⟨BIf.t _,Below.refl _ _⟩
    have i1b:decide (x.cookie<0)=false:=decide_eq_false i1;by_cases i2:(255:Int)<(x.name.length:Int)
    ·have i2b:decide ((255:Int)<(x.name.length:Int))=true:=decide_eq_true i2
     go_wp2;go_meet
     case rel=>exact⟨BIf.t _,Below.refl _ _⟩
    have i2b:decide ((255:Int)<(x.name.length:Int))=false:=decide_eq_false i2;by_cases i3:(64:Int)<(x.fh.length:Int)
    ·have i3b:decide ((64:Int)<(x.fh.length:Int))=true:=decide_eq_true i3
     go_wp2;go_meet
     case rel=>exact⟨BIf.t _,Below.refl _ _⟩
    have i3b:decide ((64:Int)<(x.fh.length:Int))=false:=decide_eq_false i3;cases g5:x.attr.ok
    case false=>
     rw[g5]at KP
     go_wp2_with (first
      |(go_at_call 63;refine(KP.out _).mono ?_;rintro e w6 ⟨rfl,hb6⟩)
      |fail)
     go_meet
     case rel=>exact⟨BIf.t _,hb6⟩
    case true=>
    rw[g5]at KP;have HEP:=Zh (show Af7 x from ⟨by omega,by omega,by omega,by omega,g5⟩);clear g5;cases wh
    case true=>
     go_wp2_with (first
      |(go_at_call 63;refine(KP.out _).mono ?_;rintro e w6 ⟨rfl,hb6⟩)
      |fail)
     go_meet
     case rel=>exact⟨BIf.f _ HEP.out,hb6⟩
    case false=>
    go_wp2_with fail;refine(KP.out _).mono ?_
    rintro e w6 ⟨rfl,hb6⟩;replace r3:=(Fu hb6 hlE 3 11).trans r3;replace c14:=(hb6.cell (p:=⟨wr.heap.size,14,none⟩) hlE).trans c14;have H6:=Zh hb6;clear hb6 c0 c1 c2;by_cases hfe:x.fh=[]
    ·rw[hfe]at c14
     generalize hne:decide (x.attr≠Db)=ne at *;go_wp2;go_meet
     case rel=>exact⟨BIf.f _ HEP.out,H6.out⟩
    ·have hfe2:x.fh.isEmpty=false:=by simpa using hfe
     go_wp2;go_meet
     case rel=>exact⟨BIf.f _ HEP.out,H6.out⟩
   case rest=>
   obtain⟨⟨b,rfl,hbe⟩,hb6⟩:=hcut;have HB6:=Zh (HB5.out.trans (hb6.mono HB5.out.size));clear hb6 c0 c1 c2 r3 c14 KP HEs;cases b
   case true=>
    go_wp2;go_ret;exact Af6.no HB6.out
   case false=>
    have HEP:=Zh (hbe rfl);clear hbe;go_wp2;go_roundw
    case rel=>exact⟨k+1,by omega,by first|rfl|go_num,HNX.out HEP.out,HB6.out⟩
    case measure=>simp[intOf];omega
  ·obtain rfl:k=l.length:=by omega
   have hlm:¬(l.length:Int)<(l.length:Int):=by omega
   have HBw:=Zh hb;have HOK:=Zh hok;go_wp2;go_ret;exact⟨⟨true,rfl,fun _=>⟨h64,by have:=HOK.out;rwa [List.take_of_length_le (Nat.le_refl _)]at this⟩⟩,HBw.out⟩
end
end Go.Proofs.YtfjflkmhhbhceaaGreatDoor
