/-
  Layer 9, walks: how the program takes a call. Condition: at most 2048 bytes.
-/
import Derived.Test.YtfjflkmhhbhceaaGreatDoorO13
import Derived.Test.YtfjflkmhhbhceaaGreatDoorO03
import Derived.Deep.RegionHeld2
import Derived.Defers
import Derived.Recover
set_option maxRecDepth 20000
set_option maxHeartbeats 40000000
namespace Go.Proofs.YtfjflkmhhbhceaaGreatDoor
open Go.RowKit
attribute [local go_sem ↓] Go.wp_at_zero Go.wp_at_succ
attribute [local go_sem] Ai Ag Af Ab Aj
attribute [local go_sem] Message.at0 Message.Bo Message.at1 Message.Bk Message.at2 Message.Ca Message.at3 Message.Cg Message.at4 Message.Cx Message.at5 Message.Cw Message.at6 Message.Cv Message.at7 Message.Cu Message.at8 Message.Ct Message.at9 Message.Cs Message.Cl Message.B4 Message.Np Message.Ky Message.len A8.at0 A8.Bo A8.at1 A8.Bk A8.at2 A8.Ca A8.at3 A8.Cg A8.O8 A8.L4 A8.len
section
attribute [local go_sem ↓] G6 N8
def Hv (r:Option Message)(g:Nat)(w:World)(e:Ending)(w':World):Prop:=
  (match r with|some m=>e=.returned (.agg m.vals.toArray)|none=>e=.panicked Sr)/\Touch (fun k=>k=g) w w'
theorem Hv.no {r:Option Message}{g:Nat}{w w':World}(h:r=none)(ht:Touch (fun k=>k=g) w w'):Hv r g w (.panicked Sr) w':=by subst h;exact⟨rfl,ht⟩
theorem Hv.yes {r:Option Message}{m:Message}{g:Nat}{w w':World}(h:r=some m)(ht:Touch (fun k=>k=g) w w'):Hv r g w (.returned (.agg m.vals.toArray)) w':=by subst h;exact⟨rfl,ht⟩
def Atc (g:Nat)(s:List UInt8)(k:Nat)(w:World)(e:Ending)(w':World):Prop:=
  (4*k+4<=s.length/\e=.returned (.int .i64 (wd (s.drop (4*k))))/\Rd w' g ⟨s.drop (4*(k+1)),0⟩/\Touch (fun k=>k=g) w w')\/(s.length<4*k+4/\e=.panicked Sr/\Touch (fun k=>k=g) w w')
theorem T8 (g:Nat)(s:List UInt8)(k:Nat)(w:World)(hR:Rd w g ⟨s.drop (4*k),0⟩)(hl:s.length<=2048) :
    Calls Tryz.prog 95 #[.agg #[.pointer (some ⟨g,0,none⟩)]] w (Atc g s k w):=by
  have hd:(s.drop (4*k)).length=s.length - 4*k:=by simp
  by_cases h:4*k+4<=s.length
  · refine(Am3 g _ w hR (by omega) (by omega)).mono ?_
    rintro e w' ⟨rfl,hQ,hT⟩;rw[List.drop_drop]at hQ;exact .inl ⟨h,rfl,hQ,hT⟩
  · refine(Ap4 g _ w hR (by omega) (by omega)).mono ?_
    rintro e w' ⟨rfl,hT⟩;exact .inr ⟨by omega,rfl,hT⟩
theorem Xy (w:World)(a b c:List Value)(A B C:TypeId) :
    let w0:=((w.alloc (.cells a.toArray A)).alloc (.cells b.toArray B)).alloc (.cells c.toArray C)
    Blk w0 w.heap.size A a/\Blk w0 (w.heap.size+1) B b/\Blk w0 (w.heap.size+1+1) C c/\Below w.heap.size w w0:=by
  obtain⟨h1,h2,h3,h4,_⟩:=O4 w a b c A B C;exact⟨h1,h2,h3,h4⟩
theorem StR.Ao9 {g:Nat}{w W:World}(h:StR g w W){b o:Nat}{v:Value}(hb:w.heap.size<=b):StR g w (W.setCell ⟨b,o,none⟩ v):=StR.of (h.2.2.An (.inr hb) v)
theorem Rd.far {w:World}{g:Nat}{r:Rs}(h:Rd w g r){b o:Nat}(hn:¬b=g)(v:Value):Rd (w.setCell ⟨b,o,none⟩ v) g r:=⟨h.1.far (p:=⟨b,o,none⟩) (fun e=>hn e.symm) v,h.2⟩
theorem Rd.drew {w:World}{g:Nat}{r:Rs}(h:Rd w g r):Rd w.drew g r:=h
theorem StR.re {g:Nat}{w W:World}{o:Obj}(h:StR g w (W.alloc o))(hl:w.heap.size<=W.heap.size)(o':Obj):StR g w (W.alloc o'):=
  StR.of ⟨h.2.2.os,h.2.2.tape,h.2.2.output,by have:=h.2.2.size;simpa using this,fun k hk hn=>by
    rw[Below.heap_alloc _ _ _ (by omega),<-h.2.2.block k hk hn,Below.heap_alloc _ _ _ (by omega)]⟩
theorem Akx {Φ:Nat->World->Prop}{G:Prop}(P:Nat->World->Prop)(h1:(∀b W,Φ b W->P b W)->G)(h2:∀b W,Φ b W->P b W):G:=h1 h2
theorem Ou (w:World)(b o n o':Nat){b':Nat}(hn:¬b=b')(v:Value):rowOf (w.setCell ⟨b',o',none⟩ v) b o n=rowOf w b o n:=by
  simp only[rowOf,Below.heap_setCell w ⟨b',o',none⟩ v b hn]
theorem Aie (g:Nat)(x:Int)(s:List UInt8)(w:World)(hR:Rd w g ⟨s,0⟩)(hl:s.length<=2048) :
    Calls Tryz.prog 96 #[.agg #[.pointer (some ⟨g,0,none⟩)],.int .i64 x] w (Hv (Dq x s.length (fun k=>wd (s.drop (4*k))) (s.drop 48)) g w):=by
  obtain⟨f,hf⟩:∃f:Nat->Nat,f=fun k=>wd (s.drop (4*k)):=⟨_,rfl⟩
  have hf':∀k,wd (s.drop (4*k))=f k:=fun k=>by rw[hf]
  rw[<-hf];have K:∀(k:Nat) (W:World),Rd W g ⟨s.drop (4*k),0⟩->Calls Tryz.prog 95 #[.agg #[.pointer (some ⟨g,0,none⟩)]] W fun e w'=>
      (4*k+4<=s.length/\e=.returned (.int .i64 (f k))/\Rd w' g ⟨s.drop (4*(k+1)),0⟩/\Touch (fun k=>k=g) W w')\/(s.length<4*k+4/\e=.panicked Sr/\Touch (fun k=>k=g) W w'):=fun k W h=>by
    rw[<-hf' k];exact T8 g s k W h hl
  have K:=Zh K;clear hf hf';go_enter Tryz.func96,Tryz.ntmps96
  go_wp2_with fail;obtain⟨w0,hw0⟩:∃W,W=((w.alloc (.cells #[.pointer (some ⟨g,0,none⟩)] 170)).alloc (.cells #[.int .i64 0,.bool false,.bool false,.int .i64 0,.int .i64 0,.int .i64 0,.int .i64 0,.int .i64 0,.int .i64 0,.string ⟨#[]⟩] 81)).alloc (.cells #[.int .i64 x,.bool false,.bool false,.int .i64 0,.int .i64 0,.int .i64 0,.int .i64 0,.int .i64 0,.int .i64 0,.string ⟨#[]⟩] 81):=⟨_,rfl⟩;rw[<-hw0];obtain⟨b1,b2,b3,hB0⟩:Blk w0 w.heap.size 170 [.pointer (some ⟨g,0,none⟩)]/\Blk w0 (w.heap.size+1) 81 (Message.vals ⟨0,false,false,0,Av,0,[]⟩)/\Blk w0 (w.heap.size+1+1) 81 (Message.vals ⟨x,false,false,0,Av,0,[]⟩)/\Below w.heap.size w w0:=by
    rw[hw0];exact Xy w [.pointer (some ⟨g,0,none⟩)] (Message.vals ⟨0,false,false,0,Av,0,[]⟩) (Message.vals ⟨x,false,false,0,Av,0,[]⟩) 170 81 81
  have hR0:=hR.stays hB0;have hT0:=Touch.Aq hB0 (fun k=>k=g);have hlt:=hR.lt;have n1:w.heap.size≠g:=by omega
  have n2:w.heap.size+1≠g:=by omega
  have n3:w.heap.size+1+1≠g:=by omega
  clear hw0 hB0 hR;refine(K.out 0 _ hR0).mono ?_
  rintro e w1 (⟨q0,rfl,hR1,hT1⟩|⟨q0,rfl,hT1⟩)
  case inr=>exact And.intro rfl (Hv.no (by grind [Dq]) (hT0.Ay hT1))
  have hT1':=hT0.Ay hT1;have b1:=b1.Ak hT1 n1;have b2:=b2.Ak hT1 n2;have b3:=b3.Ak hT1 n3;clear hT0 hT1 hR0;have c1:=b1.cell 0;simp only[List.getElem?_cons_zero]at c1;go_wp2_with fail;refine(Mr _ _).mono ?_
  rintro e w2 ⟨he,rfl⟩;split at he
  case isFalse h0=>
    subst he;exact And.intro rfl (Hv.no (by grind [Dq]) hT1')
  subst he;go_wp2_with fail;refine(K.out 1 _ hR1).mono ?_
  rintro e w2 (⟨q1,rfl,hR2,hT2⟩|⟨q1,rfl,hT2⟩)
  case inr=>exact And.intro rfl (Hv.no (by grind [Dq]) (hT1'.Ay hT2))
  have hT2':=hT1'.Ay hT2;have b1:=b1.Ak hT2 n1;have b2:=b2.Ak hT2 n2;have b3:=b3.Ak hT2 n3;clear hT1' hT2 hR1 c1;have c1:=b1.cell 0;simp only[List.getElem?_cons_zero]at c1;by_cases h1:f 1=100003
  case neg=>
    have h1':¬(f 1:Int)=100003:=by omega
    have c3:w2.cell? ⟨w.heap.size+1+1,8,none⟩=some (.int .i64 0):=b3.cell 8;have z3:=b3.frozen 8;have b4:Blk (w2.setCell ⟨w.heap.size+1+1,8,none⟩ (.int .i64 1)) _ _ (Message.vals ⟨x,false,false,0,Av,1,[]⟩):=b3.Be 8 (.int .i64 1);have b2:=b2.far (p:=⟨w.heap.size+1+1,8,none⟩) (by simp) (.int .i64 1);have hT4:=hT2'.setCell (p:=⟨w.heap.size+1+1,8,none⟩) (.inr (by simp only;omega)) (.int .i64 1);have r4:=b4.row 0 10 (by simp[Message.len]);rw[show ((Message.vals ⟨x,false,false,0,Av,1,[]⟩).drop 0).take 10=Message.vals ⟨x,false,false,0,Av,1,[]⟩ from rfl]at r4
    go_wp2_with (first|(refine Ae (by rfl) 81 _ _ (by rfl) (w.heap.size+1) (Message.vals ⟨x,false,false,0,Av,1,[]⟩) _ b2 (by rfl) (by rfl) (by rfl) (by kernel_rfl) (Message.one _) ?_)|fail)
    refine Cz (w.heap.size+1) 0 (Message.vals ⟨x,false,false,0,Av,1,[]⟩) Tryz.results96 Tryz.underlying81 rfl (by kernel_rfl) rfl (b2.whole (by rfl)).range rfl ?_
    exact Hv.yes (by grind [Dq]) (Touch.setCells (.inr (by omega)) _ _ _ hT4)
  have h1':(f 1:Int)=100003:=by omega
  skip
  go_wp2_with fail;refine(K.out 2 _ hR2).mono ?_
  rintro e w3 (⟨q2,rfl,hR3,hT3⟩|⟨q2,rfl,hT3⟩)
  case inr=>exact And.intro rfl (Hv.no (by grind [Dq]) (hT2'.Ay hT3))
  have hT3':=hT2'.Ay hT3;have b1:=b1.Ak hT3 n1;have b2:=b2.Ak hT3 n2;have b3:=b3.Ak hT3 n3;clear hT2' hT3 hR2 c1;have c1:=b1.cell 0;simp only[List.getElem?_cons_zero]at c1;by_cases h2:f 2=3
  case neg=>
    have h2':¬(f 2:Int)=3:=by omega
    have c3:w3.cell? ⟨w.heap.size+1+1,8,none⟩=some (.int .i64 0):=b3.cell 8;have z3:=b3.frozen 8;have b4:Blk (w3.setCell ⟨w.heap.size+1+1,8,none⟩ (.int .i64 2)) _ _ (Message.vals ⟨x,false,false,0,Av,2,[]⟩):=b3.Be 8 (.int .i64 2);have b2:=b2.far (p:=⟨w.heap.size+1+1,8,none⟩) (by simp) (.int .i64 2);have hT4:=hT3'.setCell (p:=⟨w.heap.size+1+1,8,none⟩) (.inr (by simp only;omega)) (.int .i64 2);have r4:=b4.row 0 10 (by simp[Message.len]);rw[show ((Message.vals ⟨x,false,false,0,Av,2,[]⟩).drop 0).take 10=Message.vals ⟨x,false,false,0,Av,2,[]⟩ from rfl]at r4
    go_wp2_with (first|(refine Ae (by rfl) 81 _ _ (by rfl) (w.heap.size+1) (Message.vals ⟨x,false,false,0,Av,2,[]⟩) _ b2 (by rfl) (by rfl) (by rfl) (by kernel_rfl) (Message.one _) ?_)|fail)
    refine Cz (w.heap.size+1) 0 (Message.vals ⟨x,false,false,0,Av,2,[]⟩) Tryz.results96 Tryz.underlying81 rfl (by kernel_rfl) rfl (b2.whole (by rfl)).range rfl ?_
    exact Hv.yes (by grind [Dq]) (Touch.setCells (.inr (by omega)) _ _ _ hT4)
  have h2':(f 2:Int)=3:=by omega
  go_wp2_with fail;refine(K.out 3 _ hR3).mono ?_
  rintro e w4 (⟨q3,rfl,hR4,hT4⟩|⟨q3,rfl,hT4⟩)
  case inr=>exact And.intro rfl (Hv.no (by grind [Dq]) (hT3'.Ay hT4))
  have hT4':=hT3'.Ay hT4;have b1:=b1.Ak hT4 n1;have b2:=b2.Ak hT4 n2;have b3:=b3.Ak hT4 n3;have l1:=b1.lt;clear hT3' hT4 hR3 c1;have c1:=b1.cell 0;simp only[List.getElem?_cons_zero]at c1;go_wp2_with fail;have hR4:Rd w4.drew g ⟨s.drop (4*(3+1)),0⟩:=hR4;go_region_held2 (fun W=>StR g w4 W) (first|exact StR.start|assumption|(refine StR.call ?_ hT5;first|exact StR.start|assumption)|(refine StR.call ?_ hT6;assumption)) (first
    | (go_at_call 95;refine(K.out 5 _ hR5).mono ?_;rintro e w6 (⟨q5,rfl,hR6,hT6⟩|⟨q5,rfl,hT6⟩);rotate_left;refine And.intro rfl (Hv.no ?_ ((hT4'.drew.Ay hT5).Ay hT6));grind [Dq])
    | (go_at_call 95;refine(K.out 4 _ hR4).mono ?_;rintro e w5 (⟨q4,rfl,hR5,hT5⟩|⟨q4,rfl,hT5⟩);rotate_left;refine And.intro rfl (Hv.no ?_ (hT4'.drew.Ay hT5));grind [Dq]))
  have hT6':=(hT4'.drew.Ay hT5).Ay hT6;have b1:=(b1.drew.Ak hT5 n1).Ak hT6 n1;have b2:=(b2.drew.Ak hT5 n2).Ak hT6 n2;have b3:=(b3.drew.Ak hT5 n3).Ak hT6 n3;have l1:=b1.lt;have hR6:Rd w6.drew g ⟨s.drop (4*(5+1)),0⟩:=hR6;clear hT4' hT5 hT6 hR4 hR5 c1;clear ‹StR g w4 w6›;have c1:=b1.cell 0;simp only[List.getElem?_cons_zero]at c1;go_wp2_with fail;have m6:¬w6.heap.size=g:=by have:=hR6.lt;simp only[World.drew]at this;omega
  have l6:w6.heap.size<=w6.heap.size:=Nat.le_refl _;have HB:=Zh (And.intro b1 (And.intro b2 b3));clear b1 b2 b3;apply Akx (Φ:=fun b W=>Blk W b 63 [.int .i64 (f 6),.int .i64 (f 7),.int .i64 (f 8),.int .i64 (f 9)]/\Rd W g ⟨s.drop (4*(9+1)),0⟩/\StR g w6 W/\40<=s.length)
  case h1=>
   intro hkey;have hkey:=Zh hkey;go_region_held2 (fun W=>StR g w6 W) (with_reducible first|assumption|exact StR.start|(refine StR.call ?_ hT10;assumption)|(refine StR.call ?_ hT9;assumption)|(refine StR.call ?_ hT8;assumption)|(refine StR.call ?_ hT7;first|assumption|exact StR.start)|(refine StR.Ao9 (StR.Ao9 (StR.Ao9 (StR.Ao9 ?_ ?_) ?_) ?_) ?_<;>first|assumption|omega)|(refine StR.alloc ?_ _;first|assumption|exact StR.start)|(apply StR.re;assumption;omega)|exact StR.of ((Touch.refl _ _).alloc _).drew) (first
    | (go_at_call 95;refine(K.out 9 _ ?_).mono ?_;rotate_left;rintro e w10 (⟨q9,rfl,hR10,hT10⟩|⟨q9,rfl,hT10⟩);rotate_left;refine And.intro rfl (Hv.no ?_ ((hT6'.Ay (‹StR g w6 _›).2.2).Ay hT10));grind [Dq];(first|exact hR9|exact hR9.stays ((Below.refl _ _).alloc (Nat.le_refl _) _));have L10:w6.heap.size<=w10.heap.size:=Nat.le_trans (‹StR g w6 _›).2.2.size hT10.size;have m10:¬w10.heap.size=g:=(by have:=hR10.lt;omega);(first|(have B:=B.Ak hT10 N)|(have B:=(Blk.new w9 63 [.int .i64 0,.int .i64 0,.int .i64 0,.int .i64 0]).Ak hT10 m9;have N:=m9;have M:=L9)|skip);(first|(have c0:w10.cell? ⟨_,0,none⟩=some (.int .i64 0):=B.cell 0;have z0:=B.frozen 0;have c1:w10.cell? ⟨_,1,none⟩=some (.int .i64 0):=B.cell 1;have z1:=B.frozen 1;have c2:w10.cell? ⟨_,2,none⟩=some (.int .i64 0):=B.cell 2;have z2:=B.frozen 2;have c3:w10.cell? ⟨_,3,none⟩=some (.int .i64 0):=B.cell 3;have z3:=B.frozen 3)|skip))
    | (go_at_call 95;refine(K.out 8 _ ?_).mono ?_;rotate_left;rintro e w9 (⟨q8,rfl,hR9,hT9⟩|⟨q8,rfl,hT9⟩);rotate_left;refine And.intro rfl (Hv.no ?_ ((hT6'.Ay (‹StR g w6 _›).2.2).Ay hT9));grind [Dq];(first|exact hR8|exact hR8.stays ((Below.refl _ _).alloc (Nat.le_refl _) _));have L9:w6.heap.size<=w9.heap.size:=Nat.le_trans (‹StR g w6 _›).2.2.size hT9.size;have m9:¬w9.heap.size=g:=(by have:=hR9.lt;omega);(first|(have B:=B.Ak hT9 N)|(have B:=(Blk.new w8 63 [.int .i64 0,.int .i64 0,.int .i64 0,.int .i64 0]).Ak hT9 m8;have N:=m8;have M:=L8)|skip))
    | (go_at_call 95;refine(K.out 7 _ ?_).mono ?_;rotate_left;rintro e w8 (⟨q7,rfl,hR8,hT8⟩|⟨q7,rfl,hT8⟩);rotate_left;refine And.intro rfl (Hv.no ?_ ((hT6'.Ay (‹StR g w6 _›).2.2).Ay hT8));grind [Dq];(first|exact hR7|exact hR7.stays ((Below.refl _ _).alloc (Nat.le_refl _) _));have L8:w6.heap.size<=w8.heap.size:=Nat.le_trans (‹StR g w6 _›).2.2.size hT8.size;have m8:¬w8.heap.size=g:=(by have:=hR8.lt;omega);(first|(have B:=B.Ak hT8 N)|(have B:=(Blk.new w7 63 [.int .i64 0,.int .i64 0,.int .i64 0,.int .i64 0]).Ak hT8 m7;have N:=m7;have M:=L7)|skip))
    | (go_at_call 95;refine(K.out 6 _ ?_).mono ?_;rotate_left;rintro e w7 (⟨q6,rfl,hR7,hT7⟩|⟨q6,rfl,hT7⟩);rotate_left;refine And.intro rfl (Hv.no ?_ ((hT6'.Ay (‹StR g w6 _›).2.2).Ay hT7));grind [Dq];(first|exact hR6|exact hR6.stays ((Below.refl _ _).alloc (Nat.le_refl _) _));have L7:w6.heap.size<=w7.heap.size:=Nat.le_trans (‹StR g w6 _›).2.2.size hT7.size;have m7:¬w7.heap.size=g:=(by have:=hR7.lt;omega);(first|(have B:=(show Blk (w6.alloc (.cells (List.toArray [.int .i64 0,.int .i64 0,.int .i64 0,.int .i64 0]) 63)).drew _ _ _ from Blk.new w6 63 [.int .i64 0,.int .i64 0,.int .i64 0,.int .i64 0]).Ak hT7 m6;have N:=m6;have M:=l6)|skip)))
   all_goals
   first
   | (obtain⟨W,hW⟩:∃W,W=w10.alloc (.cells #[.int .i64 (f 6),.int .i64 (f 7),.int .i64 (f 8),.int .i64 (f 9)] 63):=⟨_,rfl⟩
      rw[<-hW];have hse:StR g w6 W:=by rw[hW];assumption
      have hbk:Blk W w10.heap.size 63 [.int .i64 (f 6),.int .i64 (f 7),.int .i64 (f 8),.int .i64 (f 9)]:=by rw[hW];exact Blk.new _ _ _
      have hRW:Rd W g ⟨s.drop (4*(9+1)),0⟩:=by rw[hW];exact hR10.stays ((Below.refl _ _).alloc (Nat.le_refl _) _)
      obtain⟨b,hb⟩:∃b,b=w10.heap.size:=⟨_,rfl⟩;rw[<-hb]at hbk ⊢;exact hkey.out b W ⟨hbk,hRW,hse,by omega⟩)
   | (obtain⟨W,hW⟩:∃W,W=(((w10.setCell ⟨w9.heap.size,0,none⟩ (.int .i64 (f 6))).setCell ⟨w9.heap.size,1,none⟩ (.int .i64 (f 7))).setCell ⟨w9.heap.size,2,none⟩ (.int .i64 (f 8))).setCell ⟨w9.heap.size,3,none⟩ (.int .i64 (f 9)):=⟨_,rfl⟩
      rw[<-hW];have hse:StR g w6 W:=by rw[hW];assumption
      have hbk:Blk W w9.heap.size 63 [.int .i64 (f 6),.int .i64 (f 7),.int .i64 (f 8),.int .i64 (f 9)]:=by rw[hW];exact(((B.Be 0 _).Be 1 _).Be 2 _).Be 3 _
      have hRW:Rd W g ⟨s.drop (4*(9+1)),0⟩:=by rw[hW];exact(((hR10.far N _).far N _).far N _).far N _
      obtain⟨b,hb⟩:∃b,b=w9.heap.size:=⟨_,rfl⟩;rw[<-hb]at hbk ⊢;exact hkey.out b W ⟨hbk,hRW,hse,by omega⟩)
   | (obtain⟨W,hW⟩:∃W,W=(((w10.setCell ⟨w8.heap.size,0,none⟩ (.int .i64 (f 6))).setCell ⟨w8.heap.size,1,none⟩ (.int .i64 (f 7))).setCell ⟨w8.heap.size,2,none⟩ (.int .i64 (f 8))).setCell ⟨w8.heap.size,3,none⟩ (.int .i64 (f 9)):=⟨_,rfl⟩
      rw[<-hW];have hse:StR g w6 W:=by rw[hW];assumption
      have hbk:Blk W w8.heap.size 63 [.int .i64 (f 6),.int .i64 (f 7),.int .i64 (f 8),.int .i64 (f 9)]:=by rw[hW];exact(((B.Be 0 _).Be 1 _).Be 2 _).Be 3 _
      have hRW:Rd W g ⟨s.drop (4*(9+1)),0⟩:=by rw[hW];exact(((hR10.far N _).far N _).far N _).far N _
      obtain⟨b,hb⟩:∃b,b=w8.heap.size:=⟨_,rfl⟩;rw[<-hb]at hbk ⊢;exact hkey.out b W ⟨hbk,hRW,hse,by omega⟩)
   | (obtain⟨W,hW⟩:∃W,W=(((w10.setCell ⟨w7.heap.size,0,none⟩ (.int .i64 (f 6))).setCell ⟨w7.heap.size,1,none⟩ (.int .i64 (f 7))).setCell ⟨w7.heap.size,2,none⟩ (.int .i64 (f 8))).setCell ⟨w7.heap.size,3,none⟩ (.int .i64 (f 9)):=⟨_,rfl⟩
      rw[<-hW];have hse:StR g w6 W:=by rw[hW];assumption
      have hbk:Blk W w7.heap.size 63 [.int .i64 (f 6),.int .i64 (f 7),.int .i64 (f 8),.int .i64 (f 9)]:=by rw[hW];exact(((B.Be 0 _).Be 1 _).Be 2 _).Be 3 _
      have hRW:Rd W g ⟨s.drop (4*(9+1)),0⟩:=by rw[hW];exact(((hR10.far N _).far N _).far N _).far N _
      obtain⟨b,hb⟩:∃b,b=w7.heap.size:=⟨_,rfl⟩;rw[<-hb]at hbk ⊢;exact hkey.out b W ⟨hbk,hRW,hse,by omega⟩)
   | (obtain⟨W,hW⟩:∃W,W=(((w10.setCell ⟨w6.heap.size,0,none⟩ (.int .i64 (f 6))).setCell ⟨w6.heap.size,1,none⟩ (.int .i64 (f 7))).setCell ⟨w6.heap.size,2,none⟩ (.int .i64 (f 8))).setCell ⟨w6.heap.size,3,none⟩ (.int .i64 (f 9)):=⟨_,rfl⟩
      rw[<-hW];have hse:StR g w6 W:=by rw[hW];assumption
      have hbk:Blk W w6.heap.size 63 [.int .i64 (f 6),.int .i64 (f 7),.int .i64 (f 8),.int .i64 (f 9)]:=by rw[hW];exact(((B.Be 0 _).Be 1 _).Be 2 _).Be 3 _
      have hRW:Rd W g ⟨s.drop (4*(9+1)),0⟩:=by rw[hW];exact(((hR10.far N _).far N _).far N _).far N _
      obtain⟨b,hb⟩:∃b,b=w6.heap.size:=⟨_,rfl⟩;rw[<-hb]at hbk ⊢;exact hkey.out b W ⟨hbk,hRW,hse,by omega⟩)
  rintro b W ⟨hbk,hRW,hse,q9⟩;obtain⟨b1,b2,b3⟩:=HB.out;have hT:=hT6'.Ay hse.2.2;have b1:=b1.Ak hse.2.2 n1;have b2:=b2.Ak hse.2.2 n2;have b3:=b3.Ak hse.2.2 n3;have nb:=hbk.ne_ hRW.1 (by decide);have l1:=b1.lt;clear hse hT6' HB c1 hR6;have c1:=b1.cell 0;simp only[List.getElem?_cons_zero]at c1;have hRW:Rd W.drew g ⟨s.drop (4*(9+1)),0⟩:=hRW;have HB:=Zh (And.intro b1 (And.intro b2 (And.intro b3 hbk)));clear b1 b2 b3 hbk;go_wp2_with fail;go_region_held2 (fun V=>StR g W V) (with_reducible first|assumption|exact StR.start|(refine StR.call ?_ hT12;assumption)|(refine StR.call ?_ hT11;first|assumption|exact StR.start)) (first
    | (go_at_call 95;refine(K.out 11 _ hR11).mono ?_;rintro e w12 (⟨q11,rfl,hR12,hT12⟩|⟨q11,rfl,hT12⟩);rotate_left;refine And.intro rfl (Hv.no ?_ ((hT.drew.Ay hT11).Ay hT12));grind [Dq])
    | (go_at_call 95;refine(K.out 10 _ hRW).mono ?_;rintro e w11 (⟨q10,rfl,hR11,hT11⟩|⟨q10,rfl,hT11⟩);rotate_left;refine And.intro rfl (Hv.no ?_ (hT.drew.Ay hT11));grind [Dq]))
  obtain⟨b1,b2,b3,b5⟩:=HB.out;have hT12':=(hT.drew.Ay hT11).Ay hT12;have b1:=(b1.drew.Ak hT11 n1).Ak hT12 n1;have b2:=(b2.drew.Ak hT11 n2).Ak hT12 n2;have b3:=(b3.drew.Ak hT11 n3).Ak hT12 n3;have b5:=(b5.drew.Ak hT11 nb).Ak hT12 nb;clear ‹StR g W w12›;clear hT hT11 hT12 hRW hR11 HB c1;have c1:=b1.cell 0;simp only[List.getElem?_cons_zero]at c1;cases hth:O7 (f 3)
  case false=>
    have c3:w12.cell? ⟨w.heap.size+1+1,8,none⟩=some (.int .i64 0):=b3.cell 8;have z3:=b3.frozen 8;have b4:Blk (w12.setCell ⟨w.heap.size+1+1,8,none⟩ (.int .i64 3)) _ _ (Message.vals ⟨x,false,false,0,Av,3,[]⟩):=b3.Be 8 (.int .i64 3);have b2:=b2.far (p:=⟨w.heap.size+1+1,8,none⟩) (by simp) (.int .i64 3);have hT4:=hT12'.setCell (p:=⟨w.heap.size+1+1,8,none⟩) (.inr (by simp only;omega)) (.int .i64 3);go_wp2_with fail;refine(J0 _ _).mono ?_
    rintro e w13 ⟨rfl,rfl⟩;rw[hth];have r4:=b4.row 0 10 (by simp[Message.len]);rw[show ((Message.vals ⟨x,false,false,0,Av,3,[]⟩).drop 0).take 10=Message.vals ⟨x,false,false,0,Av,3,[]⟩ from rfl]at r4
    go_wp2_with (first|(refine Ae (by rfl) 81 _ _ (by rfl) (w.heap.size+1) (Message.vals ⟨x,false,false,0,Av,3,[]⟩) _ b2 (by rfl) (by rfl) (by rfl) (by kernel_rfl) (Message.one _) ?_)|fail)
    refine Cz (w.heap.size+1) 0 (Message.vals ⟨x,false,false,0,Av,3,[]⟩) Tryz.results96 Tryz.underlying81 rfl (by kernel_rfl) rfl (b2.whole (by rfl)).range rfl ?_
    exact Hv.yes (by grind [Dq]) (Touch.setCells (.inr (by omega)) _ _ _ hT4)
  by_cases g4:f 4=1
  case neg=>
    have g4':¬(f 4:Int)=1:=by omega
    have c3:w12.cell? ⟨w.heap.size+1+1,8,none⟩=some (.int .i64 0):=b3.cell 8;have z3:=b3.frozen 8;have b4:Blk (w12.setCell ⟨w.heap.size+1+1,8,none⟩ (.int .i64 4)) _ _ (Message.vals ⟨x,false,false,0,Av,4,[]⟩):=b3.Be 8 (.int .i64 4);have b2:=b2.far (p:=⟨w.heap.size+1+1,8,none⟩) (by simp) (.int .i64 4);have hT4:=hT12'.setCell (p:=⟨w.heap.size+1+1,8,none⟩) (.inr (by simp only;omega)) (.int .i64 4);go_wp2_with fail;refine(J0 _ _).mono ?_
    rintro e w13 ⟨rfl,rfl⟩;rw[hth];have r4:=b4.row 0 10 (by simp[Message.len]);rw[show ((Message.vals ⟨x,false,false,0,Av,4,[]⟩).drop 0).take 10=Message.vals ⟨x,false,false,0,Av,4,[]⟩ from rfl]at r4
    go_wp2_with (first|(refine Ae (by rfl) 81 _ _ (by rfl) (w.heap.size+1) (Message.vals ⟨x,false,false,0,Av,4,[]⟩) _ b2 (by rfl) (by rfl) (by rfl) (by kernel_rfl) (Message.one _) ?_)|fail)
    refine Cz (w.heap.size+1) 0 (Message.vals ⟨x,false,false,0,Av,4,[]⟩) Tryz.results96 Tryz.underlying81 rfl (by kernel_rfl) rfl (b2.whole (by rfl)).range rfl ?_
    exact Hv.yes (by grind [Dq]) (Touch.setCells (.inr (by omega)) _ _ _ hT4)
  have g4':(f 4:Int)=1:=by omega
  by_cases g5:f 5=16
  case neg=>
    have g5':¬(f 5:Int)=16:=by omega
    have c3:w12.cell? ⟨w.heap.size+1+1,8,none⟩=some (.int .i64 0):=b3.cell 8;have z3:=b3.frozen 8;have b4:Blk (w12.setCell ⟨w.heap.size+1+1,8,none⟩ (.int .i64 4)) _ _ (Message.vals ⟨x,false,false,0,Av,4,[]⟩):=b3.Be 8 (.int .i64 4);have b2:=b2.far (p:=⟨w.heap.size+1+1,8,none⟩) (by simp) (.int .i64 4);have hT4:=hT12'.setCell (p:=⟨w.heap.size+1+1,8,none⟩) (.inr (by simp only;omega)) (.int .i64 4);go_wp2_with fail;refine(J0 _ _).mono ?_
    rintro e w13 ⟨rfl,rfl⟩;rw[hth];have r4:=b4.row 0 10 (by simp[Message.len]);rw[show ((Message.vals ⟨x,false,false,0,Av,4,[]⟩).drop 0).take 10=Message.vals ⟨x,false,false,0,Av,4,[]⟩ from rfl]at r4
    go_wp2_with (first|(refine Ae (by rfl) 81 _ _ (by rfl) (w.heap.size+1) (Message.vals ⟨x,false,false,0,Av,4,[]⟩) _ b2 (by rfl) (by rfl) (by rfl) (by kernel_rfl) (Message.one _) ?_)|fail)
    refine Cz (w.heap.size+1) 0 (Message.vals ⟨x,false,false,0,Av,4,[]⟩) Tryz.results96 Tryz.underlying81 rfl (by kernel_rfl) rfl (b2.whole (by rfl)).range rfl ?_
    exact Hv.yes (by grind [Dq]) (Touch.setCells (.inr (by omega)) _ _ _ hT4)
  have g5':(f 5:Int)=16:=by omega
  by_cases g10:f 10=0
  case neg=>
    have g10':¬(f 10:Int)=0:=by omega
    have c3:w12.cell? ⟨w.heap.size+1+1,8,none⟩=some (.int .i64 0):=b3.cell 8;have z3:=b3.frozen 8;have b4:Blk (w12.setCell ⟨w.heap.size+1+1,8,none⟩ (.int .i64 4)) _ _ (Message.vals ⟨x,false,false,0,Av,4,[]⟩):=b3.Be 8 (.int .i64 4);have b2:=b2.far (p:=⟨w.heap.size+1+1,8,none⟩) (by simp) (.int .i64 4);have hT4:=hT12'.setCell (p:=⟨w.heap.size+1+1,8,none⟩) (.inr (by simp only;omega)) (.int .i64 4);go_wp2_with fail;refine(J0 _ _).mono ?_
    rintro e w13 ⟨rfl,rfl⟩;rw[hth];have r4:=b4.row 0 10 (by simp[Message.len]);rw[show ((Message.vals ⟨x,false,false,0,Av,4,[]⟩).drop 0).take 10=Message.vals ⟨x,false,false,0,Av,4,[]⟩ from rfl]at r4
    go_wp2_with (first|(refine Ae (by rfl) 81 _ _ (by rfl) (w.heap.size+1) (Message.vals ⟨x,false,false,0,Av,4,[]⟩) _ b2 (by rfl) (by rfl) (by rfl) (by kernel_rfl) (Message.one _) ?_)|fail)
    refine Cz (w.heap.size+1) 0 (Message.vals ⟨x,false,false,0,Av,4,[]⟩) Tryz.results96 Tryz.underlying81 rfl (by kernel_rfl) rfl (b2.whole (by rfl)).range rfl ?_
    exact Hv.yes (by grind [Dq]) (Touch.setCells (.inr (by omega)) _ _ _ hT4)
  have g10':(f 10:Int)=0:=by omega
  by_cases g11:f 11=0
  case neg=>
    have g11':¬(f 11:Int)=0:=by omega
    have c3:w12.cell? ⟨w.heap.size+1+1,8,none⟩=some (.int .i64 0):=b3.cell 8;have z3:=b3.frozen 8;have b4:Blk (w12.setCell ⟨w.heap.size+1+1,8,none⟩ (.int .i64 4)) _ _ (Message.vals ⟨x,false,false,0,Av,4,[]⟩):=b3.Be 8 (.int .i64 4);have b2:=b2.far (p:=⟨w.heap.size+1+1,8,none⟩) (by simp) (.int .i64 4);have hT4:=hT12'.setCell (p:=⟨w.heap.size+1+1,8,none⟩) (.inr (by simp only;omega)) (.int .i64 4);go_wp2_with fail;refine(J0 _ _).mono ?_
    rintro e w13 ⟨rfl,rfl⟩;rw[hth];have r4:=b4.row 0 10 (by simp[Message.len]);rw[show ((Message.vals ⟨x,false,false,0,Av,4,[]⟩).drop 0).take 10=Message.vals ⟨x,false,false,0,Av,4,[]⟩ from rfl]at r4
    go_wp2_with (first|(refine Ae (by rfl) 81 _ _ (by rfl) (w.heap.size+1) (Message.vals ⟨x,false,false,0,Av,4,[]⟩) _ b2 (by rfl) (by rfl) (by rfl) (by kernel_rfl) (Message.one _) ?_)|fail)
    refine Cz (w.heap.size+1) 0 (Message.vals ⟨x,false,false,0,Av,4,[]⟩) Tryz.results96 Tryz.underlying81 rfl (by kernel_rfl) rfl (b2.whole (by rfl)).range rfl ?_
    exact Hv.yes (by grind [Dq]) (Touch.setCells (.inr (by omega)) _ _ _ hT4)
  have g11':(f 11:Int)=0:=by omega
  have r5:rowOf w12 b 0 4=some #[.int .i64 (f 6),.int .i64 (f 7),.int .i64 (f 8),.int .i64 (f 9)]:=b5.row 0 4 (by simp);go_wp2_with fail;refine(J0 _ _).mono ?_
  rintro e w13 ⟨rfl,rfl⟩;rw[hth];go_wp2_with fail;refine(Yp ⟨f 6,f 7,f 8,f 9⟩ _).mono ?_
  rintro e w14 ⟨rfl,hbO⟩;have hT14:=hT12'.Ay (Touch.Aq hbO _);have hR14:=hR12.stays hbO;have b1:=b1.stays hbO;have b2:=b2.stays hbO;have b3:=b3.stays hbO;have b5:=b5.stays hbO;clear hbO hT12' hR12 c1 r5;have c1:=b1.cell 0;simp only[List.getElem?_cons_zero]at c1;cases hok:A8.ok ⟨f 6,f 7,f 8,f 9⟩
  case false=>
    have c3:w14.cell? ⟨w.heap.size+1+1,8,none⟩=some (.int .i64 0):=b3.cell 8;have z3:=b3.frozen 8;have b4:Blk (w14.setCell ⟨w.heap.size+1+1,8,none⟩ (.int .i64 4)) _ _ (Message.vals ⟨x,false,false,0,Av,4,[]⟩):=b3.Be 8 (.int .i64 4);have b2:=b2.far (p:=⟨w.heap.size+1+1,8,none⟩) (by simp) (.int .i64 4);have hT4:=hT14.setCell (p:=⟨w.heap.size+1+1,8,none⟩) (.inr (by simp only;omega)) (.int .i64 4);have r4:=b4.row 0 10 (by simp[Message.len]);rw[show ((Message.vals ⟨x,false,false,0,Av,4,[]⟩).drop 0).take 10=Message.vals ⟨x,false,false,0,Av,4,[]⟩ from rfl]at r4
    go_wp2_with (first|(refine Ae (by rfl) 81 _ _ (by rfl) (w.heap.size+1) (Message.vals ⟨x,false,false,0,Av,4,[]⟩) _ b2 (by rfl) (by rfl) (by rfl) (by kernel_rfl) (Message.one _) ?_)|fail)
    refine Cz (w.heap.size+1) 0 (Message.vals ⟨x,false,false,0,Av,4,[]⟩) Tryz.results96 Tryz.underlying81 rfl (by kernel_rfl) rfl (b2.whole (by rfl)).range rfl ?_
    exact Hv.yes (by grind [Dq]) (Touch.setCells (.inr (by omega)) _ _ _ hT4)
  have hd:(s.drop (4*(11+1))).length=s.length - 48:=by simp
  have hL:J9 ⟨s.drop (4*(11+1)),0⟩=s.length - 48:=by simp[J9]
  go_wp2_with fail;refine(Uu g _ _ hR14).mono ?_
  rintro e w15 ⟨rfl,rfl⟩;rw[hL];by_cases hm:s.length % 4=0
  case neg=>
    have hm1:¬((s.length - 48:Nat):Int) % 4=0:=by omega
    have hm2:¬((s.length - 48:Nat):Int).tmod 4=0:=by rw[Int.tmod_eq_emod_of_nonneg (by omega)];exact hm1
    have c3:w14.cell? ⟨w.heap.size+1+1,8,none⟩=some (.int .i64 0):=b3.cell 8;have z3:=b3.frozen 8;have b4:Blk (w14.setCell ⟨w.heap.size+1+1,8,none⟩ (.int .i64 4)) _ _ (Message.vals ⟨x,false,false,0,Av,4,[]⟩):=b3.Be 8 (.int .i64 4);have b2:=b2.far (p:=⟨w.heap.size+1+1,8,none⟩) (by simp) (.int .i64 4);have hT4:=hT14.setCell (p:=⟨w.heap.size+1+1,8,none⟩) (.inr (by simp only;omega)) (.int .i64 4);generalize s.length - 48=L at *;have r4:=b4.row 0 10 (by simp[Message.len]);rw[show ((Message.vals ⟨x,false,false,0,Av,4,[]⟩).drop 0).take 10=Message.vals ⟨x,false,false,0,Av,4,[]⟩ from rfl]at r4
    go_wp2_with (first|(refine Ae (by rfl) 81 _ _ (by rfl) (w.heap.size+1) (Message.vals ⟨x,false,false,0,Av,4,[]⟩) _ b2 (by rfl) (by rfl) (by rfl) (by kernel_rfl) (Message.one _) ?_)|fail)
    refine Cz (w.heap.size+1) 0 (Message.vals ⟨x,false,false,0,Av,4,[]⟩) Tryz.results96 Tryz.underlying81 rfl (by kernel_rfl) rfl (b2.whole (by rfl)).range rfl ?_
    exact Hv.yes (by grind [Dq]) (Touch.setCells (.inr (by omega)) _ _ _ hT4)
  have hm1:((s.length - 48:Nat):Int) % 4=0:=by omega
  have hm2:((s.length - 48:Nat):Int).tmod 4=0:=by rw[Int.tmod_eq_emod_of_nonneg (by omega)];exact hm1
  have hLb:s.length - 48<=2048:=by omega
  generalize s.length - 48=L at *;have r5:rowOf w14 b 0 4=some #[.int .i64 (f 6),.int .i64 (f 7),.int .i64 (f 8),.int .i64 (f 9)]:=b5.row 0 4 (by simp);have nm:w.heap.size+1+1≠b:=b3.ne_ b5 (by decide);have nm':¬b=w.heap.size+1+1:=fun e=>nm e.symm
  have c3:w14.cell? ⟨w.heap.size+1+1,3,none⟩=some (.int .i64 0):=b3.cell 3;have c4:w14.cell? ⟨w.heap.size+1+1,4,none⟩=some (.int .i64 0):=b3.cell 4;have c5:w14.cell? ⟨w.heap.size+1+1,5,none⟩=some (.int .i64 0):=b3.cell 5;have c6:w14.cell? ⟨w.heap.size+1+1,6,none⟩=some (.int .i64 0):=b3.cell 6;have c7:w14.cell? ⟨w.heap.size+1+1,7,none⟩=some (.int .i64 0):=b3.cell 7;have z3:=b3.frozen 3;have z4:=b3.frozen 4;have z5:=b3.frozen 5;have z6:=b3.frozen 6;have z7:=b3.frozen 7;have HB:=Zh (And.intro b1 (And.intro b2 (And.intro b3 b5)));clear b1 b2 b3 b5;go_wp2_with fail;go_region_held2 (fun V=>rowOf V b 0 4=some #[.int .i64 (f 6),.int .i64 (f 7),.int .i64 (f 8),.int .i64 (f 9)]) (first|(with_reducible assumption)|(simp only[Ag,Ou _ _ _ _ _ nm'];with_reducible assumption)) (first|fail)
  obtain⟨b1,b2,b3,b5⟩:=HB.out;obtain⟨wz,hwz⟩:∃V,V=(((((w14.setCell ⟨w.heap.size+1+1,3,none⟩ (.int .i64 (f 3))).setCell ⟨w.heap.size+1+1,4,none⟩ (.int .i64 (f 6))).setCell ⟨w.heap.size+1+1,5,none⟩ (.int .i64 (f 7))).setCell ⟨w.heap.size+1+1,6,none⟩ (.int .i64 (f 8))).setCell ⟨w.heap.size+1+1,7,none⟩ (.int .i64 (f 9))).drew:=⟨_,rfl⟩;rw[<-hwz];have hRz:Rd wz g ⟨s.drop 48,0⟩:=by
    have h:=(Rd.far (Rd.far (Rd.far (Rd.far (Rd.far hR14 (b:=w.heap.size+1+1) (o:=3) (fun e=>n3 e) (.int .i64 (f 3))) (b:=w.heap.size+1+1) (o:=4) (fun e=>n3 e) (.int .i64 (f 6))) (b:=w.heap.size+1+1) (o:=5) (fun e=>n3 e) (.int .i64 (f 7))) (b:=w.heap.size+1+1) (o:=6) (fun e=>n3 e) (.int .i64 (f 8))) (b:=w.heap.size+1+1) (o:=7) (fun e=>n3 e) (.int .i64 (f 9))).drew;rw[<-hwz]at h;exact h
  have b1z:=(((((b1.far (p:=⟨w.heap.size+1+1,3,none⟩) (by simp;omega) (.int .i64 (f 3))).far (p:=⟨w.heap.size+1+1,4,none⟩) (by simp;omega) (.int .i64 (f 6))).far (p:=⟨w.heap.size+1+1,5,none⟩) (by simp;omega) (.int .i64 (f 7))).far (p:=⟨w.heap.size+1+1,6,none⟩) (by simp;omega) (.int .i64 (f 8))).far (p:=⟨w.heap.size+1+1,7,none⟩) (by simp;omega) (.int .i64 (f 9))).drew;have b2z:=(((((b2.far (p:=⟨w.heap.size+1+1,3,none⟩) (by simp) (.int .i64 (f 3))).far (p:=⟨w.heap.size+1+1,4,none⟩) (by simp) (.int .i64 (f 6))).far (p:=⟨w.heap.size+1+1,5,none⟩) (by simp) (.int .i64 (f 7))).far (p:=⟨w.heap.size+1+1,6,none⟩) (by simp) (.int .i64 (f 8))).far (p:=⟨w.heap.size+1+1,7,none⟩) (by simp) (.int .i64 (f 9))).drew;have b3y:=(((((b3.Be 3 (.int .i64 (f 3))).Be 4 (.int .i64 (f 6))).Be 5 (.int .i64 (f 7))).Be 6 (.int .i64 (f 8))).Be 7 (.int .i64 (f 9))).drew;have hTz:=(Touch.An (Touch.An (Touch.An (Touch.An (Touch.An hT14 (g:=w.heap.size+1+1) (o:=3) (.inr (by omega)) (.int .i64 (f 3))) (g:=w.heap.size+1+1) (o:=4) (.inr (by omega)) (.int .i64 (f 6))) (g:=w.heap.size+1+1) (o:=5) (.inr (by omega)) (.int .i64 (f 7))) (g:=w.heap.size+1+1) (o:=6) (.inr (by omega)) (.int .i64 (f 8))) (g:=w.heap.size+1+1) (o:=7) (.inr (by omega)) (.int .i64 (f 9))).drew;rw[<-hwz]at b1z b2z b3y hTz;have b3z:Blk wz (w.heap.size+1+1) 81 (Message.vals ⟨x,false,false,f 3,⟨f 6,f 7,f 8,f 9⟩,0,[]⟩):=b3y;clear b3y;have hdl:(s.drop 48).length=L:=hd;clear hwz b1 b2 b3 b5 HB hT14 hR14 c1 c3 c4 c5 c6 c7 z3 z4 z5 z6 z7 r5;have c1:=b1z.cell 0;simp only[List.getElem?_cons_zero]at c1;go_wp2_with fail;refine(Adi g _ _ hRz (by omega) (by omega)).mono ?_
  rintro e w16 ⟨rfl,hTr⟩;have b2:=b2z.Ak hTr n2;have b3:=b3z.Ak hTr n3;have hT16:=hTz.Ay hTr;clear b1z b2z b3z hTz hTr hRz c1;have c9:w16.cell? ⟨w.heap.size+1+1,9,none⟩=some (.string (bs [])):=b3.cell 9;have z9:=b3.frozen 9;have b4:Blk (w16.setCell ⟨w.heap.size+1+1,9,none⟩ (.string (bs (s.drop 48)))) _ _ (Message.vals ⟨x,false,false,f 3,⟨f 6,f 7,f 8,f 9⟩,0,s.drop 48⟩):=b3.Be 9 (.string (bs (s.drop 48)));have b2:=b2.far (p:=⟨w.heap.size+1+1,9,none⟩) (by simp) (.string (bs (s.drop 48)));have hT4:=hT16.setCell (p:=⟨w.heap.size+1+1,9,none⟩) (.inr (by simp only;omega)) (.string (bs (s.drop 48)));have r4:=b4.row 0 10 (by simp[Message.len]);rw[show ((Message.vals ⟨x,false,false,f 3,⟨f 6,f 7,f 8,f 9⟩,0,s.drop 48⟩).drop 0).take 10=Message.vals ⟨x,false,false,f 3,⟨f 6,f 7,f 8,f 9⟩,0,s.drop 48⟩ from rfl]at r4
  go_wp2_with (first|(refine Ae (by rfl) 81 _ _ (by rfl) (w.heap.size+1) (Message.vals ⟨x,false,false,f 3,⟨f 6,f 7,f 8,f 9⟩,0,s.drop 48⟩) _ b2 (by rfl) (by rfl) (by rfl) (by kernel_rfl) (Message.one _) ?_)|fail)
  refine Cz (w.heap.size+1) 0 (Message.vals ⟨x,false,false,f 3,⟨f 6,f 7,f 8,f 9⟩,0,s.drop 48⟩) Tryz.results96 Tryz.underlying81 rfl (by kernel_rfl) rfl (b2.whole (by rfl)).range rfl ?_
  exact Hv.yes (by grind [Dq]) (Touch.setCells (.inr (by omega)) _ _ _ hT4)
end
section
attribute [local go_sem ↓] G6 N8
theorem Acx (g:Nat)(x:Int)(s:List UInt8)(w:World)(hR:Rd w g ⟨s,0⟩)(hl:s.length<=2048) :
  Calls Tryz.prog 97 #[.agg #[.pointer (some ⟨g,0,none⟩)],.int .i64 x] w (Hv (Ew x s.length (fun k=>wd (s.drop (4*k))) (s.drop 16)) g w):=by
 obtain⟨f,hf⟩:∃f:Nat->Nat,f=fun k=>wd (s.drop (4*k)):=⟨_,rfl⟩
 have hf':∀k,wd (s.drop (4*k))=f k:=fun k=>by rw[hf]
 rw[<-hf];have K:∀(k:Nat) (W:World),Rd W g ⟨s.drop (4*k),0⟩->Calls Tryz.prog 95 #[.agg #[.pointer (some ⟨g,0,none⟩)]] W fun e w'=>
   (4*k+4<=s.length/\e=.returned (.int .i64 (f k))/\Rd w' g ⟨s.drop (4*(k+1)),0⟩/\Touch (fun k=>k=g) W w')\/(s.length<4*k+4/\e=.panicked Sr/\Touch (fun k=>k=g) W w'):=fun k W h=>by
  rw[<-hf' k];exact T8 g s k W h hl
 have K:=Zh K;clear hf hf';go_enter Tryz.func97,Tryz.ntmps97
 go_wp2_with fail;obtain⟨w0,hw0⟩:∃W,W=((w.alloc (.cells #[.pointer (some ⟨g,0,none⟩)] 170)).alloc (.cells #[.int .i64 0,.bool false,.bool false,.int .i64 0,.int .i64 0,.int .i64 0,.int .i64 0,.int .i64 0,.int .i64 0,.string ⟨#[]⟩] 81)).alloc (.cells #[.int .i64 x,.bool true,.bool false,.int .i64 0,.int .i64 0,.int .i64 0,.int .i64 0,.int .i64 0,.int .i64 0,.string ⟨#[]⟩] 81):=⟨_,rfl⟩;rw[<-hw0];obtain⟨b1,b2,b3,hB0⟩:Blk w0 w.heap.size 170 [.pointer (some ⟨g,0,none⟩)]/\Blk w0 (w.heap.size+1) 81 (Message.vals ⟨0,false,false,0,Av,0,[]⟩)/\Blk w0 (w.heap.size+1+1) 81 (Message.vals ⟨x,true,false,0,Av,0,[]⟩)/\Below w.heap.size w w0:=by
  rw[hw0];exact Xy w [.pointer (some ⟨g,0,none⟩)] (Message.vals ⟨0,false,false,0,Av,0,[]⟩) (Message.vals ⟨x,true,false,0,Av,0,[]⟩) 170 81 81
 have hR0:=hR.stays hB0;have hT0:=Touch.Aq hB0 (fun k=>k=g);have hlt:=hR.lt;have n1:w.heap.size≠g:=by omega
 have n2:w.heap.size+1≠g:=by omega
 have n3:w.heap.size+1+1≠g:=by omega
 clear hw0 hB0 hR;refine(K.out 0 _ hR0).mono ?_
 rintro e w1 (⟨q0,rfl,hR1,hT1x⟩|⟨q0,rfl,hT1x⟩)
 case inr=>exact And.intro rfl (Hv.no (by grind [Ew]) (hT0.Ay hT1x))
 have hT1:=hT0.Ay hT1x;have b1:=b1.Ak hT1x n1;have b2:=b2.Ak hT1x n2;have b3:=b3.Ak hT1x n3;clear hT0 hT1x hR0;have c1:=b1.cell 0;simp only[List.getElem?_cons_zero]at c1;go_wp2_with fail;refine(Mr _ _).mono ?_
 rintro e wm ⟨he,rfl⟩;split at he
 case isFalse h0=>
  subst he;exact And.intro rfl (Hv.no (by grind [Ew]) hT1)
 subst he;go_wp2_with fail;refine(K.out 1 _ hR1).mono ?_
 rintro e w2 (⟨q1,rfl,hR2,hT2x⟩|⟨q1,rfl,hT2x⟩)
 case inr=>exact And.intro rfl (Hv.no (by grind [Ew]) (hT1.Ay hT2x))
 have hT2:=hT1.Ay hT2x;have b1:=b1.Ak hT2x n1;have b2:=b2.Ak hT2x n2;have b3:=b3.Ak hT2x n3;clear hT1 hT2x hR1 c1;have c1:=b1.cell 0;simp only[List.getElem?_cons_zero]at c1;by_cases g1:1<f 1
 case pos=>
  have g1':¬(f 1:Int)<=1:=by omega
  go_wp2_with fail;refine(Mr _ _).mono ?_
  rintro e wm ⟨he,rfl⟩;simp only[Bool.false_eq_true,if_false]at he;subst he;exact And.intro rfl (Hv.no (by grind [Ew]) hT2)
 have g1':(f 1:Int)<=1:=by omega
 go_wp2_with fail;refine(K.out 2 _ hR2).mono ?_
 rintro e w3 (⟨q2,rfl,hR3,hT3x⟩|⟨q2,rfl,hT3x⟩)
 case inr=>exact And.intro rfl (Hv.no (by grind [Ew]) (hT2.Ay hT3x))
 have hT3:=hT2.Ay hT3x;have b1:=b1.Ak hT3x n1;have b2:=b2.Ak hT3x n2;have b3:=b3.Ak hT3x n3;clear hT2 hT3x hR2 c1;have c1:=b1.cell 0;simp only[List.getElem?_cons_zero]at c1;go_wp2_with fail;refine(Mr _ _).mono ?_
 rintro e wm ⟨he,rfl⟩;split at he
 case isFalse h0=>
  subst he;exact And.intro rfl (Hv.no (by grind [Ew]) hT3)
 subst he;go_wp2_with fail;refine(K.out 3 _ hR3).mono ?_
 rintro e w4 (⟨q3,rfl,hR4,hT4x⟩|⟨q3,rfl,hT4x⟩)
 case inr=>exact And.intro rfl (Hv.no (by grind [Ew]) (hT3.Ay hT4x))
 have hT4:=hT3.Ay hT4x;have b1:=b1.Ak hT4x n1;have b2:=b2.Ak hT4x n2;have b3:=b3.Ak hT4x n3;clear hT3 hT4x hR3 c1;have c1:=b1.cell 0;simp only[List.getElem?_cons_zero]at c1;obtain⟨B,hBd⟩:∃B,B=(f 1==1):=⟨_,rfl⟩;have hBe:((f 1:Int)==1)=B:=by rw[hBd,Bool.eq_iff_iff];simp;omega
 rw[hBe];clear hBe;have HBd:=Zh hBd;clear hBd;have c2:w4.cell? ⟨w.heap.size+1+1,2,none⟩=some (.bool false):=b3.cell 2;have c8:w4.cell? ⟨w.heap.size+1+1,8,none⟩=some (.int .i64 0):=b3.cell 8;have z2:=b3.frozen 2;have z8:=b3.frozen 8;obtain⟨wz,hwz⟩:∃V,V=(w4.setCell ⟨w.heap.size+1+1,2,none⟩ (.bool B)).setCell ⟨w.heap.size+1+1,8,none⟩ (.int .i64 (f 3)):=⟨_,rfl⟩;have hRz:Rd wz g ⟨s.drop 16,0⟩:=by rw[hwz];exact(hR4.far (fun e=>n3 e) _).far (fun e=>n3 e) _
 have b1z:Blk wz w.heap.size 170 [.pointer (some ⟨g,0,none⟩)]:=by rw[hwz];exact((b1.far (p:=⟨w.heap.size+1+1,2,none⟩) (by simp;omega) _).far (p:=⟨w.heap.size+1+1,8,none⟩) (by simp;omega) _)
 have b2z:Blk wz (w.heap.size+1) 81 (Message.vals ⟨0,false,false,0,Av,0,[]⟩):=by rw[hwz];exact((b2.far (p:=⟨w.heap.size+1+1,2,none⟩) (by simp) _).far (p:=⟨w.heap.size+1+1,8,none⟩) (by simp) _)
 have b3z:Blk wz (w.heap.size+1+1) 81 (Message.vals ⟨x,true,B,0,Av,f 3,[]⟩):=by rw[hwz];exact(b3.Be 2 _).Be 8 _
 have hTz:Touch (fun k=>k=g) w wz:=by
  rw[hwz];exact(hT4.An (.inr (by omega)) _).An (.inr (by omega)) _
 have hd:(s.drop 16).length=s.length - 16:=by simp
 have hL:J9 ⟨s.drop 16,0⟩=s.length - 16:=by simp[J9]
 clear b1 b2 b3 hT4 hR4;go_wp2_with fail;rw[<-hwz];refine(Uu g _ _ hRz).mono ?_
 rintro e w15 ⟨rfl,rfl⟩;rw[hL];clear hwz c1 c2 c8 z2 z8;have c1:=b1z.cell 0;simp only[List.getElem?_cons_zero]at c1;by_cases hm:s.length % 4=0
 case neg=>
  have hm1:¬((s.length - 16:Nat):Int) % 4=0:=by omega
  have hm2:¬((s.length - 16:Nat):Int).tmod 4=0:=by rw[Int.tmod_eq_emod_of_nonneg (by omega)];exact hm1
  generalize s.length - 16=L at *;go_wp2_with fail;refine(Mr _ _).mono ?_
  rintro e wm ⟨he,rfl⟩;split at he
  case isTrue h0=>simp_all
  subst he;exact And.intro rfl (Hv.no (by grind [Ew]) hTz)
 have hm1:((s.length - 16:Nat):Int) % 4=0:=by omega
 have hm2:((s.length - 16:Nat):Int).tmod 4=0:=by rw[Int.tmod_eq_emod_of_nonneg (by omega)];exact hm1
 have hLb:s.length - 16<=2048:=by omega
 have hLm:(s.length - 16) % 4=0:=by omega
 generalize s.length - 16=L at *;go_wp2_with fail;refine(Mr _ _).mono ?_
 rintro e wm ⟨he,rfl⟩;split at he
 case isFalse h0=>simp_all
 subst he;go_wp2_with fail;refine(Adi g _ _ hRz (by omega) (by omega)).mono ?_
 rintro e w16 ⟨rfl,hTr⟩;have b2:=b2z.Ak hTr n2;have b3:=b3z.Ak hTr n3;have hT16:=hTz.Ay hTr;clear b1z b2z b3z hTz hTr hRz c1;have c9:w16.cell? ⟨w.heap.size+1+1,9,none⟩=some (.string (bs [])):=b3.cell 9;have z9:=b3.frozen 9;have b4:Blk (w16.setCell ⟨w.heap.size+1+1,9,none⟩ (.string (bs (s.drop 16)))) _ _ (Message.vals ⟨x,true,B,0,Av,f 3,s.drop 16⟩):=b3.Be 9 (.string (bs (s.drop 16)));have b2:=b2.far (p:=⟨w.heap.size+1+1,9,none⟩) (by simp) (.string (bs (s.drop 16)));have hT17:=hT16.setCell (p:=⟨w.heap.size+1+1,9,none⟩) (.inr (by simp only;omega)) (.string (bs (s.drop 16)));have r4:=b4.row 0 10 (by simp[Message.len]);rw[show ((Message.vals ⟨x,true,B,0,Av,f 3,s.drop 16⟩).drop 0).take 10=Message.vals ⟨x,true,B,0,Av,f 3,s.drop 16⟩ from rfl]at r4;obtain⟨m,hmd⟩:∃m:Message,m=⟨x,true,B,0,Av,f 3,s.drop 16⟩:=⟨_,rfl⟩;rw[<-hmd]at r4 b4;have HMD:=Zh hmd;clear hmd;go_wp2_with fail;obtain⟨wy,hwy⟩:∃V,V=w16.setCell ⟨w.heap.size+1+1,9,none⟩ (.string (bs (s.drop 16))):=⟨_,rfl⟩;rw[<-hwy]at b2 b4 hT17 r4 ⊢;clear hwy c9 z9 b3 hT16;refine(Aef m _ (by rw[HMD.out];simp only;omega)).mono ?_
 rintro e w17 ⟨rfl,hbM⟩;have b2:=b2.stays hbM;have b4:=b4.stays hbM;have hT18:=hT17.Ay (Touch.Aq hbM _);clear hbM hT17 r4;have r4:=b4.row 0 10 (by simp[Message.len]);rw[show ((Message.vals m).drop 0).take 10=Message.vals m from rfl]at r4;cases hmay:m.may
 case false=>
  go_wp2_with fail;refine(Mr _ _).mono ?_
  rintro e wm ⟨he,rfl⟩;simp only[Bool.false_eq_true,if_false]at he;subst he;exact And.intro rfl (Hv.no (by have h1:=HMD.out;have h2:=HBd.out;clear HMD HBd;subst h1;subst h2;grind [Ew]) hT18)
 go_wp2_with fail;refine(Mr _ _).mono ?_
 rintro e wm ⟨he,rfl⟩;simp only[if_true]at he;subst he
 go_wp2_with (first|(refine Ae (by rfl) 81 _ _ (by rfl) (w.heap.size+1) (Message.vals m) _ b2 (by rfl) (by rfl) (by rfl) (by kernel_rfl) (Message.one _) ?_)|fail)
 refine Cz (w.heap.size+1) 0 (Message.vals m) Tryz.results97 Tryz.underlying81 rfl (by kernel_rfl) rfl (b2.whole (by rfl)).range rfl ?_
 exact Hv.yes (by have h1:=HMD.out;have h2:=HBd.out;clear HMD HBd;subst h1;subst h2;grind [Ew]) (Touch.setCells (.inr (by omega)) _ _ _ hT18)
end
section
attribute [local go_sem ↓] G6 N8
theorem Nb (w:World){b b' o o':Nat}(hn:¬b'=b)(v:Value):(w.setCell ⟨b',o',none⟩ v).cell? ⟨b,o,none⟩=w.cell? ⟨b,o,none⟩:=World.cell?_setCell_far w ⟨b',o',none⟩ ⟨b,o,none⟩ v hn
theorem Aid (w:World)(p:Addr):w.drew.cell? p=w.cell? p:=rfl
def Ck:Message:=⟨0,false,false,0,Av,0,[]⟩
theorem Aey (p q:Addr)(w:World) :
  CallsD Tryz.prog 93 #[.pointer (some p),.pointer (some q)] .returning w fun e u' w'=>e=.returned (.tuple #[])/\u'=.returning/\w'=w:=by
 refine callsD_of_wpS Tryz.func93 rfl fun c₀ cs hu=>?_
 apply wpS_seq
 apply wpS_region
 simp[wpOpsS,go_sem,recoverD,hu,Tryz.ntmps93,Exit.thenS]
 apply wpS_seq
 apply wpS_seq
 apply wpS_region
 simp[wpOpsS,go_sem,Exit.thenS]
 refine wpS_cond (t:=true) (by simp[Act.eval,Array.replicate]) ?_
 simp only[if_true];refine wpS_of_wp (wp_ret ?_)
 cases c₀
 simp_all [bodyPostS,results,Tryz.results93,Exit.thenS]
theorem Aex (a b:Nat)(old:Message)(y:Int)(w:World)(ha:Blk w a 81 old.vals)(hb:Blk w b 26 [.int .i64 y]) :
  CallsD Tryz.prog 93 #[.pointer (some ⟨a,0,none⟩),.pointer (some ⟨b,0,none⟩)] (.panicking Sr) w fun e u' w'=>e=.returned (.tuple #[])/\u'=.panicking [{ v:=.iface 165 (.agg #[.int .i64 14]),recovered:=true }] /\
   Blk w' a 81 Ck.vals/\Blk w' b 26 [.int .i64 14]/\Touch (fun k=>k=a\/k=b) w w':=by
 refine callsD_of_wpS Tryz.func93 rfl fun c₀ cs hu=>?_
 apply wpS_seq
 apply wpS_region
 simp[wpOpsS,go_sem,recoverD,hu,Tryz.ntmps93,Exit.thenS,Sr]
 apply wpS_seq
 apply wpS_seq
 apply wpS_region
 simp[wpOpsS,go_sem,Exit.thenS]
 refine wpS_cond (t:=false) (by simp[Act.eval,Array.replicate]) ?_
 simp only[Bool.false_eq_true,if_false];refine wpS_of_wp ?_
 refine wp_skip ?_
 simp only[Exit.thenS];refine wpS_of_wp ?_
 generalize hQ:(fun (e:Exit) (a':Act) (w':World)=>bodyPostS _ _ _ _ _ e a' _ w')=Q;generalize hA:(Act.mk _ _)=A;have hA2:A=⟨#[.pointer (some ⟨a,0,none⟩),.pointer (some ⟨b,0,none⟩),(.iface 165 (.agg #[.int .i64 14])),undef,undef,(.iface 165 (.agg #[.int .i64 14])),(.iface 165 (.agg #[.int .i64 14])),.bool false,undef,undef,undef,undef,undef,undef,undef,undef,undef,undef,undef],[]⟩:=by rw[<-hA];rfl
 clear hA;subst hA2;have nab:=ha.ne_ hb (by decide);have nba:¬b=a:=fun e=>nab e.symm
 have hta:∀w,(Instr.typeAssert (.iface 165 (.agg #[.int .i64 14])) 20 165 true).run Tryz.prog w=.ok (.tuple #[.agg #[.int .i64 14],.bool true]) w:=fun w=>by kernel_rfl
 have HQ:=Zh hQ;clear hQ;go_wp2_with fail;obtain⟨w1,hw1⟩:∃V,V=w.alloc (.cells #[.int .i64 14] 165):=⟨_,rfl⟩;rw[<-hw1];have hT1:Touch (fun k=>k=a\/k=b) w w1:=by rw[hw1];exact(Touch.refl _ _).alloc _
 have ha1:Blk w1 a 81 old.vals:=by rw[hw1];exact ha.alloc _
 have hb1:Blk w1 b 26 [.int .i64 y]:=by rw[hw1];exact hb.alloc _
 have cm:w1.cell? ⟨w.heap.size,0,none⟩=some (.int .i64 14):=by rw[hw1];exact(Blk.new w 165 [.int .i64 14]).cell 0
 have la:=ha.lt;have lb:=hb.lt;have na:¬w.heap.size=a:=by omega
 have nb:¬w.heap.size=b:=by omega
 have na':¬a=w.heap.size:=by omega
 have nb':¬b=w.heap.size:=by omega
 have cb:w1.cell? ⟨b,0,none⟩=some (.int .i64 y):=hb1.cell 0;have zb:=hb1.frozen 0;have c0:w1.cell? ⟨a,0,none⟩=some (.int .i64 old.xid):=ha1.cell 0;have z0:=ha1.frozen 0;have c1:w1.cell? ⟨a,1,none⟩=some (.bool old.answer):=ha1.cell 1;have z1:=ha1.frozen 1;have c2:w1.cell? ⟨a,2,none⟩=some (.bool old.again):=ha1.cell 2;have z2:=ha1.frozen 2;have c3:w1.cell? ⟨a,3,none⟩=some (.int .i64 old.proc):=ha1.cell 3;have z3:=ha1.frozen 3;have c4:w1.cell? ⟨a,4,none⟩=some (.int .i64 old.C3.client):=ha1.cell 4;have z4:=ha1.frozen 4;have c5:w1.cell? ⟨a,5,none⟩=some (.int .i64 old.C3.seq):=ha1.cell 5;have z5:=ha1.frozen 5;have c6:w1.cell? ⟨a,6,none⟩=some (.int .i64 old.C3.uid):=ha1.cell 6;have z6:=ha1.frozen 6;have c7:w1.cell? ⟨a,7,none⟩=some (.int .i64 old.C3.gid):=ha1.cell 7;have z7:=ha1.frozen 7;have c8:w1.cell? ⟨a,8,none⟩=some (.int .i64 old.accept):=ha1.cell 8;have z8:=ha1.frozen 8;have c9:w1.cell? ⟨a,9,none⟩=some (.string (bs old.body)):=ha1.cell 9;have z9:=ha1.frozen 9;clear hw1 ha hb;have HA:=Zh (And.intro ha1 (And.intro hb1 hT1));clear ha1 hb1 hT1;go_region_held3 (fun V=>V.cell? ⟨w.heap.size,0,none⟩=some (.int .i64 14)) (first|(with_reducible assumption)|(simp only[Aid,Nb _ na',Nb _ nb'];with_reducible assumption)) (first|fail)
 rw[<-HQ.out];obtain⟨ha1,hb1,hT1⟩:=HA.out;cases c₀
 refine⟨rfl,_,rfl,.tuple #[],?_,rfl,rfl,?_,?_,?_⟩
 ·simp[results,Tryz.results93,go_sem]
 ·exact(((((((((((ha1.Be 0 _).Be 1 _).Be 2 _).Be 3 _).Be 4 _).Be 5 _).Be 6 _).Be 7 _).Be 8 _).Be 9 _).far (p:=⟨b,0,none⟩) nab _).drew
 ·exact(((((((((((hb1.far (p:=⟨a,0,none⟩) nba _).far (p:=⟨a,1,none⟩) nba _).far (p:=⟨a,2,none⟩) nba _).far (p:=⟨a,3,none⟩) nba _).far (p:=⟨a,4,none⟩) nba _).far (p:=⟨a,5,none⟩) nba _).far (p:=⟨a,6,none⟩) nba _).far (p:=⟨a,7,none⟩) nba _).far (p:=⟨a,8,none⟩) nba _).far (p:=⟨a,9,none⟩) nba _).Be 0 _).drew
 ·exact(((((((((((hT1.An (.inl (.inl rfl)) _).An (.inl (.inl rfl)) _).An (.inl (.inl rfl)) _).An (.inl (.inl rfl)) _).An (.inl (.inl rfl)) _).An (.inl (.inl rfl)) _).An (.inl (.inl rfl)) _).An (.inl (.inl rfl)) _).An (.inl (.inl rfl)) _).An (.inl (.inl rfl)) _).An (.inl (.inr rfl)) _).drew
theorem Ed {w W W':World}{g:Nat}(h:Below w.heap.size w W)(ht:Touch (fun k=>k=g) W W')(hg:w.heap.size<=g:=by omega):Below w.heap.size w W':=
 h.trans (ht.below (fun k _ hk=>by omega) h.size)
theorem M5 {w W W':World}{a b:Nat}(h:Below w.heap.size w W)(ht:Touch (fun k=>k=a\/k=b) W W')(ha:w.heap.size<=a:=by omega)(hb:w.heap.size<=b:=by omega):Below w.heap.size w W':=
 h.trans (ht.below (fun k _ hk=>by omega) h.size)
theorem Blk.Ahu {w:World}{g:Nat}{t:TypeId}{cs:List Value}(b o:Nat)(vs:List Value)(h:Blk w g t cs)(hne:¬g=b):Blk (w.setCells b o vs) g t cs:=by
 induction vs generalizing w o with
 |nil=>exact h
 |cons v vs ih=>exact ih (o+1) (h.far (p:=⟨b,o,none⟩) hne v)
def Rp (r:Message × Int):Value:=.tuple #[.agg r.1.vals.toArray,.int .i64 r.2]
theorem Q7 (tmps:Array Value)(w:World)(a b:Nat)(m:Message)(n:Int)(ha:Blk w a 81 m.vals)(hb:Blk w b 26 [.int .i64 n])
  (h2:tmps.getD 2 undef=.pointer (some ⟨a,0,none⟩)) (h3:tmps.getD 3 undef=.pointer (some ⟨b,0,none⟩)):(results Tryz.f43 tmps).run Tryz.prog w=.ok (Rp (m,n)) w:=by
 have hl:=run_loadVar_mid (P:=Tryz.prog) w a 0 81 m.vals _ ha.range Tryz.underlying81 rfl (by kernel_rfl);have hc:w.cell? ⟨b,0,none⟩=some (.int .i64 n):=hb.cell 0;have hl2:(loadVar 26 ⟨b,0,none⟩).run Tryz.prog w=.ok (.int .i64 n) w:=by simp[go_sem,hc]
 rw[Array.getD_eq_getD_getElem?]at h2 h3;simp[results,Tryz.results43,h2,h3,asAddr,hl,hl2,Rp]
theorem O2 {R:Ending->World->Prop}(tmps:Array Value)(w:World)(a b:Nat)(ha:Blk w a 81 Ck.vals)(hb:Blk w b 26 [.int .i64 0])
  (h2:tmps.getD 2 undef=.pointer (some ⟨a,0,none⟩)) (h3:tmps.getD 3 undef=.pointer (some ⟨b,0,none⟩)) (hR:∀w',Touch (fun k=>k=a\/k=b) w w'->R (.returned (Rp (Ck,14))) w') :
  Leaves Tryz.prog Tryz.f43 tmps R [{ target:=.fn (.func 93) #[.pointer (some ⟨a,0,none⟩),.pointer (some ⟨b,0,none⟩)],args:=#[] }] (.panicking Sr) w:=by
 refine leaves_cons (f:=93) (args:=#[.pointer (some ⟨a,0,none⟩),.pointer (some ⟨b,0,none⟩)]) (by simp) (by simp[go_sem]) ?_
 refine(Aex a b Ck 0 w ha hb).mono ?_
 rintro e u' w' ⟨rfl,rfl,ha',hb',hT⟩;exact⟨_,Q7 tmps w' a b Ck 14 ha' hb' h2 h3,hR w' hT⟩
theorem Rm {R:Ending->World->Prop}(tmps:Array Value)(w:World)(a b:Nat)(m:Message)(n:Int)(ha:Blk w a 81 m.vals)(hb:Blk w b 26 [.int .i64 n])
  (h2:tmps.getD 2 undef=.pointer (some ⟨a,0,none⟩)) (h3:tmps.getD 3 undef=.pointer (some ⟨b,0,none⟩)) (hR:R (.returned (Rp (m,n))) w) :
  Leaves Tryz.prog Tryz.f43 tmps R [{ target:=.fn (.func 93) #[.pointer (some ⟨a,0,none⟩),.pointer (some ⟨b,0,none⟩)],args:=#[] }] .returning w:=by
 refine leaves_cons (f:=93) (args:=#[.pointer (some ⟨a,0,none⟩),.pointer (some ⟨b,0,none⟩)]) (by simp) (by simp[go_sem]) ?_
 refine(Aey ⟨a,0,none⟩ ⟨b,0,none⟩ w).mono ?_
 rintro e u' w' ⟨rfl,rfl,rfl⟩;exact⟨_,Q7 tmps w' a b m n ha hb h2 h3,hR⟩
def Y4:Option Message->Message × Int
 |some m=>(m,0)
 |none=>(Ck,14)
def Dc (s:List UInt8):Message × Int:=
 if 2048<s.length then (Ck,4) else if s.length<8 then (Ck,14)
 else if wd (s.drop 4)=0 then Y4 (Dq (wd s) (s.drop 8).length (fun k=>wd ((s.drop 8).drop (4*k))) ((s.drop 8).drop 48))
 else if wd (s.drop 4)=1 then Y4 (Ew (wd s) (s.drop 8).length (fun k=>wd ((s.drop 8).drop (4*k))) ((s.drop 8).drop 16))
 else (Ck,14)
theorem Anm (s:List UInt8)(w:World):Calls Tryz.prog 43 #[.string (bs s)] w fun e w'=>e=.returned (Rp (Dc s))/\Below w.heap.size w w':=by
 have hmf:∀(fn:Fn) (first cap:Array Value) (w:World),(Instr.makeFunc fn first cap).run Tryz.prog w=.ok (.func fn first cap) w:=fun _ _ _ _=>rfl
 have hz:=Au s;by_cases hlen:2048<s.length
 ·have hlen':(2048:Int)<s.length:=by omega
  have HV:=Zh (show Dc s=(Ck,4) by simp[Dc,hlen]);obtain⟨b1,b2,hB,_⟩:=A7 w Ck.vals [.int .i64 4] 81 26;have HB:=Zh (And.intro b1 (And.intro b2 hB));clear b1 b2 hB;go_enter_defers Tryz.func43,Tryz.ntmps43
  go_wp2_with fail;exact⟨_,Q7 _ _ w.heap.size (w.heap.size+1) Ck 4 HB.out.1 HB.out.2.1 rfl rfl,by rw[HV.out],HB.out.2.2⟩
 ·have hlen':¬(2048:Int)<s.length:=by omega
  obtain⟨b1,b2,hB0,hz0⟩:=A7 w Ck.vals [.int .i64 0] 81 26;have HB:=Zh (And.intro b1 (And.intro b2 (And.intro hB0 hz0)));clear b1 b2 hB0 hz0;go_enter_defers Tryz.func43,Tryz.ntmps43
  go_wp2_with fail;refine(Vg s _).mono ?_
  rintro e w2 ⟨rfl,hR,hB⟩;obtain⟨b1,b2,hB0,hz0⟩:=HB.out;have hR0:Rd w2 (w.heap.size+1+1) ⟨s,0⟩:=by rw[<-hz0];exact hR
  have b1:=b1.stays hB;have b2:=b2.stays hB;have hB2:=Ad hB0 hB;have lt2:=hR0.lt;clear hR hB HB hz0;obtain⟨w3,hw3⟩:∃V,V=w2.alloc (.cells #[.pointer (some ⟨w.heap.size+1+1,0,none⟩)] 170):=⟨_,rfl⟩;have hB3:Below w2.heap.size w2 w3:=by rw[hw3];exact(Below.refl _ _).alloc (Nat.le_refl _) _
  have b4:Blk w3 w2.heap.size 170 [.pointer (some ⟨w.heap.size+1+1,0,none⟩)]:=by rw[hw3];exact Blk.new _ _ _
  have b1:=b1.stays hB3;have b2:=b2.stays hB3;have hR0:=hR0.stays hB3;have hB3:=Ad hB2 hB3;have n4:¬w2.heap.size=w.heap.size+1+1:=by omega
  go_wp2_with fail;rw[<-hw3];refine(T8 _ s 0 _ hR0 (by omega)).mono ?_
  rintro e w4 (⟨q0,rfl,hR1,hT4⟩|⟨q0,rfl,hT4⟩)
  case inr=>
   have HV:=Zh (show Dc s=(Ck,14) by rw[Dc,if_neg hlen,if_pos (by omega)]);have b1:=b1.Ak hT4 (by omega);have b2:=b2.Ak hT4 (by omega);have b4:=b4.Ak hT4 n4;have hB4:=Ed hB3 hT4;refine O2 _ _ w.heap.size (w.heap.size+1) b1 b2 rfl rfl (fun w' hw=>⟨by rw[HV.out],?_⟩)
   exact M5 hB4 hw
  have b1:=b1.Ak hT4 (by omega);have b2:=b2.Ak hT4 (by omega);have b4:=b4.Ak hT4 n4;have hB4:=Ed hB3 hT4;clear hB3 hR0 hw3 hT4 hB2;have hB3:=hB4;have c4:w4.cell? ⟨w2.heap.size,0,none⟩=some (.pointer (some ⟨w.heap.size+1+1,0,none⟩)):=b4.cell 0;rw[show s.drop (4*0)=s from rfl];go_wp2_with fail;refine(T8 _ s 1 _ hR1 (by omega)).mono ?_
  rintro e w5 (⟨q1,rfl,hR2,hT5⟩|⟨q1,rfl,hT5⟩)
  case inr=>
   have HV:=Zh (show Dc s=(Ck,14) by rw[Dc,if_neg hlen,if_pos (by omega)]);have b1:=b1.Ak hT5 (by omega);have b2:=b2.Ak hT5 (by omega);have b4:=b4.Ak hT5 n4;have hB5:=Ed hB3 hT5;refine O2 _ _ w.heap.size (w.heap.size+1) b1 b2 rfl rfl (fun w' hw=>⟨by rw[HV.out],?_⟩)
   exact M5 hB5 hw
  have b1:=b1.Ak hT5 (by omega);have b2:=b2.Ak hT5 (by omega);have b4:=b4.Ak hT5 n4;have hB5:=Ed hB3 hT5;clear hB3 hR1 hT5 c4 hB4;have hB3:=hB5;have c4:w5.cell? ⟨w2.heap.size,0,none⟩=some (.pointer (some ⟨w.heap.size+1+1,0,none⟩)):=b4.cell 0;rw[show s.drop (4*1)=s.drop 4 from rfl];by_cases k0:wd (s.drop 4)=0
  ·have hC:=Aie (w.heap.size+1+1) (wd s) (s.drop 8) w5 hR2 (by simp;omega)
   have HVG:Dc s=Y4 (Dq (wd s) (s.drop 8).length (fun k=>wd ((s.drop 8).drop (4*k))) ((s.drop 8).drop 48)):=by
    unfold Dc;rw[if_neg hlen,if_neg (by omega),if_pos k0]
   generalize Dq (wd s) (s.drop 8).length (fun k=>wd ((s.drop 8).drop (4*k))) ((s.drop 8).drop 48)=r at hC HVG;have hk':(wd (s.drop 4):Int)=0:=by omega
   have hC:=Zh hC;cases r with
   |none=>
    have HV:=Zh (show Dc s=(Ck,14) from HVG);clear HVG;go_wp2_with fail;refine hC.out.mono ?_
    rintro e w6 ⟨rfl,hT⟩;have b1:=b1.Ak hT (by omega);have b2:=b2.Ak hT (by omega);have b4:=b4.Ak hT n4;have hB6:=Ed hB3 hT;refine O2 _ _ w.heap.size (w.heap.size+1) b1 b2 rfl rfl (fun w' hw=>⟨by rw[HV.out],?_⟩)
    exact M5 hB6 hw
   |some m=>
    have HV:=Zh (show Dc s=(m,0) from HVG);clear HVG;go_wp2_with fail;refine hC.out.mono ?_
    rintro e w6 ⟨rfl,hT⟩;have b1:=b1.Ak hT (by omega);have b2:=b2.Ak hT (by omega);have b4:=b4.Ak hT n4;have hB6:=Ed hB3 hT;obtain⟨w7,hw7⟩:∃V,V=w6.setCells w.heap.size 0 m.vals:=⟨_,rfl⟩;have d1:Blk w7 w.heap.size 81 m.vals:=by rw[hw7];exact b1.whole (by rfl)
    have d2:Blk w7 (w.heap.size+1) 26 [.int .i64 0]:=by rw[hw7];exact b2.Ahu _ _ _ (by omega)
    have hB7:Below w.heap.size w w7:=by rw[hw7];exact Below.Bf hB6 (Nat.le_refl _) _
    have cE:w7.cell? ⟨w.heap.size+1,0,none⟩=some (.int .i64 0):=d2.cell 0;have zE:=d2.frozen 0;have d3:=(d1.far (p:=⟨w.heap.size+1,0,none⟩) (by simp) (.int .i64 0));have d4:=d2.Be 0 (.int .i64 0);have hB8:=hB7.setCell (p:=⟨w.heap.size+1,0,none⟩) (by simp only;omega) (.int .i64 0);have HL:=Zh (And.intro d3 (And.intro d4 hB8));clear d1 d2 d3 d4 hB7 hB8 hB6;have HW7:=Zh hw7;clear hw7
    go_wp2_with (first|(refine Ae (by rfl) 81 _ _ (by rfl) w.heap.size m.vals _ b1 (by rfl) (by rfl) (by rfl) (by kernel_rfl) (Message.one _) ?_;rw[<-HW7.out])|fail)
    exact Rm _ _ w.heap.size (w.heap.size+1) m 0 HL.out.1 HL.out.2.1 rfl rfl ⟨by rw[HV.out],HL.out.2.2⟩
  by_cases k1:wd (s.drop 4)=1
  ·have hC:=Acx (w.heap.size+1+1) (wd s) (s.drop 8) w5 hR2 (by simp;omega)
   have HVG:Dc s=Y4 (Ew (wd s) (s.drop 8).length (fun k=>wd ((s.drop 8).drop (4*k))) ((s.drop 8).drop 16)):=by
    unfold Dc;rw[if_neg hlen,if_neg (by omega),if_neg k0,if_pos k1]
   generalize Ew (wd s) (s.drop 8).length (fun k=>wd ((s.drop 8).drop (4*k))) ((s.drop 8).drop 16)=r at hC HVG;have hk':(wd (s.drop 4):Int)=1:=by omega
   have hC:=Zh hC;cases r with
   |none=>
    have HV:=Zh (show Dc s=(Ck,14) from HVG);clear HVG;go_wp2_with fail;refine hC.out.mono ?_
    rintro e w6 ⟨rfl,hT⟩;have b1:=b1.Ak hT (by omega);have b2:=b2.Ak hT (by omega);have b4:=b4.Ak hT n4;have hB6:=Ed hB3 hT;refine O2 _ _ w.heap.size (w.heap.size+1) b1 b2 rfl rfl (fun w' hw=>⟨by rw[HV.out],?_⟩)
    exact M5 hB6 hw
   |some m=>
    have HV:=Zh (show Dc s=(m,0) from HVG);clear HVG;go_wp2_with fail;refine hC.out.mono ?_
    rintro e w6 ⟨rfl,hT⟩;have b1:=b1.Ak hT (by omega);have b2:=b2.Ak hT (by omega);have b4:=b4.Ak hT n4;have hB6:=Ed hB3 hT;obtain⟨w7,hw7⟩:∃V,V=w6.setCells w.heap.size 0 m.vals:=⟨_,rfl⟩;have d1:Blk w7 w.heap.size 81 m.vals:=by rw[hw7];exact b1.whole (by rfl)
    have d2:Blk w7 (w.heap.size+1) 26 [.int .i64 0]:=by rw[hw7];exact b2.Ahu _ _ _ (by omega)
    have hB7:Below w.heap.size w w7:=by rw[hw7];exact Below.Bf hB6 (Nat.le_refl _) _
    have cE:w7.cell? ⟨w.heap.size+1,0,none⟩=some (.int .i64 0):=d2.cell 0;have zE:=d2.frozen 0;have d3:=(d1.far (p:=⟨w.heap.size+1,0,none⟩) (by simp) (.int .i64 0));have d4:=d2.Be 0 (.int .i64 0);have hB8:=hB7.setCell (p:=⟨w.heap.size+1,0,none⟩) (by simp only;omega) (.int .i64 0);have HL:=Zh (And.intro d3 (And.intro d4 hB8));clear d1 d2 d3 d4 hB7 hB8 hB6;have HW7:=Zh hw7;clear hw7
    go_wp2_with (first|(refine Ae (by rfl) 81 _ _ (by rfl) w.heap.size m.vals _ b1 (by rfl) (by rfl) (by rfl) (by kernel_rfl) (Message.one _) ?_;rw[<-HW7.out])|fail)
    exact Rm _ _ w.heap.size (w.heap.size+1) m 0 HL.out.1 HL.out.2.1 rfl rfl ⟨by rw[HV.out],HL.out.2.2⟩
  have k0':¬(wd (s.drop 4):Int)=0:=by omega
  have k1':¬(wd (s.drop 4):Int)=1:=by omega
  have HV:=Zh (show Dc s=(Ck,14) by rw[Dc,if_neg hlen,if_neg (by omega),if_neg k0,if_neg k1]);obtain⟨w7,hw7⟩:∃V,V=w5.setCells w.heap.size 0 Ck.vals:=⟨_,rfl⟩;have d1:Blk w7 w.heap.size 81 Ck.vals:=by rw[hw7];exact b1.whole (by rfl)
  have d2:Blk w7 (w.heap.size+1) 26 [.int .i64 0]:=by rw[hw7];exact b2.Ahu _ _ _ (by omega)
  have hB7:Below w.heap.size w w7:=by rw[hw7];exact Below.Bf hB5 (Nat.le_refl _) _
  have cE:w7.cell? ⟨w.heap.size+1,0,none⟩=some (.int .i64 0):=d2.cell 0;have zE:=d2.frozen 0;have d3:=(d1.far (p:=⟨w.heap.size+1,0,none⟩) (by simp) (.int .i64 14));have d4:=d2.Be 0 (.int .i64 14);have hB8:=hB7.setCell (p:=⟨w.heap.size+1,0,none⟩) (by simp only;omega) (.int .i64 14);have HL:=Zh (And.intro d3 (And.intro d4 hB8));clear d1 d2 d3 d4 hB7 hB8 hB5;have HW7:=Zh hw7;clear hw7
  go_wp2_with (first|(refine Ae (by rfl) 81 _ _ (by rfl) w.heap.size Ck.vals _ b1 (by rfl) (by rfl) (by rfl) (by kernel_rfl) (Message.one _) ?_;rw[<-HW7.out])|fail)
  exact Rm _ _ w.heap.size (w.heap.size+1) Ck 14 HL.out.1 HL.out.2.1 rfl rfl ⟨by rw[HV.out],HL.out.2.2⟩
end
end Go.Proofs.YtfjflkmhhbhceaaGreatDoor
