/-
  Layer 33: the program's client and the document's beside each other in memory: what is called of the one leaves the other as it was. No condition.
-/
import Derived.Test.YtfjflkmhhbhceaaGreatDoorO27
import Derived.Test.YtfjflkmhhbhceaaGreatDoorO29
import Derived.Test.YtfjflkmhhbhceaaGreatDoorO30
import Derived.Test.YtfjflkmhhbhceaaGreatDoorO32
import Derived.Test.YtfjflkmhhbhceaaGreatDoorO37
import Derived.Test.YtfjflkmhhbhceaaGreatDoorO39
import Derived.Test.YtfjflkmhhbhceaaGreatDoorO40
import Derived.Test.YtfjflkmhhbhceaaGreatDoorO44
import Derived.Test.YtfjflkmhhbhceaaGreatDoorO46
import Derived.Test.YtfjflkmhhbhceaaGreatDoorO31
import Derived.Deep.CutRange
set_option maxRecDepth 20000
set_option maxHeartbeats 40000000
namespace Go.Proofs.YtfjflkmhhbhceaaGreatDoor
open Go.RowKit
section
theorem FIs.Ik {F G:Nat->Prop}{W W':World}{g n m:Nat}(h:FIs F W g n m)(ht:Touch G W W')(hd:∀k,F k->¬G k):FIs F W' g n m:=by
 obtain⟨z,t,l,hA,hG⟩:=h;exact⟨z,t,l,hA.Ik ht hd,hG⟩
theorem FIs.below {F:Nat->Prop}{W W':World}{g n m:Nat}(h:FIs F W g n m)(hb:Below W.heap.size W W'):FIs F W' g n m:=
 h.Ik (Touch.Aq hb (fun _=>False)) fun _ _ hf=>hf
theorem FIs.lt {F:Nat->Prop}{W:World}{g n m:Nat}(h:FIs F W g n m):∀k,F k->k<W.heap.size:=by
 obtain⟨z,t,l,hA,hG⟩:=h;exact hA.lt
theorem FIs.more {F:Nat->Prop}{W:World}{g n m n' m':Nat}(h:FIs F W g n m)(hn:n<=n')(hm:m<=m'):FIs F W g n' m':=by
 obtain⟨z,t,l,hA,hG⟩:=h;exact⟨z,t,l,hA,hG.more hn hm⟩
theorem ClD.Aci (c:ClD)(step now:Int):(c.next step now).1.id=c.id:=by
 unfold ClD.next;split<;>rfl
theorem ClD.Asf (c:ClD)(a:Ask)(step now:Int):(c.ask a step now).1.id=c.id:=by
 unfold ClD.ask;split
 ·rfl
 ·split
  ·rfl
  ·exact(ClD.Aci _ _ _).trans (c.Te a (Bq a).1).2.2.2
theorem ClD.Ao3 (c:ClD)(x:B3)(step now:Int):(c.take x step now).1.id=c.id:=by
 unfold ClD.take;split
 ·rfl
 ·split
  ·rfl
  ·split
   ·rfl
   ·simp only
    split
    ·rfl
    ·split
     ·exact ClD.Aci _ _ _
     ·exact ClD.Aci _ _ _
structure Af4 (w0 W:World) (gc gx:Nat) (c:ClD) (n m B E:Nat) (Fc Fx:Nat->Prop) (z:Di) (l:List Bz):Prop where
 cl:D3 Fc W gc c z l
 fis:FIs Fx W gx n m
 dis:∀j,Fc j->¬Fx j
 lc:∀j,Fc j->w0.heap.size<=j
 lx:∀j,Fx j->w0.heap.size<=j
 bel:Below w0.heap.size w0 W
 rc:∀j,Fc j->j<B\/E<=j
 rx:∀j,Fx j->j<B\/E<=j
 fit:E<=W.heap.size
def Two (w0:World)(gc gx:Nat)(c:ClD)(n m B E:Nat)(W:World):Prop:=∃Fc Fx z l,Af4 w0 W gc gx c n m B E Fc Fx z l
def Kept (B E:Nat)(W W':World):Prop:=W.heap.size<=W'.heap.size/\∀b T cs,B<=b->b<E->Blk W b T cs->Blk W' b T cs
section
variable {w0 W:World} {gc gx:Nat} {c:ClD} {n m B E:Nat}
theorem Two.room (h:Two w0 gc gx c n m B E W){V:World}(hb:Below W.heap.size W V):Two w0 gc gx c n m W.heap.size V.heap.size V:=by
 obtain⟨Fc,Fx,z,l,h⟩:=h;exact⟨Fc,Fx,z,l,h.cl.below hb,h.fis.below hb,h.dis,h.lc,h.lx,Ad h.bel hb,fun j hj=>.inl (h.cl.lt j hj),fun j hj=>.inl (h.fis.lt j hj),Nat.le_refl _⟩
theorem Two.below (h:Two w0 gc gx c n m B E W){V:World}(hb:Below W.heap.size W V):Two w0 gc gx c n m B E V:=by
 obtain⟨Fc,Fx,z,l,h⟩:=h;exact⟨Fc,Fx,z,l,h.cl.below hb,h.fis.below hb,h.dis,h.lc,h.lx,Ad h.bel hb,h.rc,h.rx,Nat.le_trans h.fit hb.size⟩
theorem Two.more (h:Two w0 gc gx c n m B E W){n' m':Nat}(hn:n<=n')(hm:m<=m'):Two w0 gc gx c n' m' B E W:=by
 obtain⟨Fc,Fx,z,l,h⟩:=h;exact⟨Fc,Fx,z,l,h.cl,h.fis.more hn hm,h.dis,h.lc,h.lx,h.bel,h.rc,h.rx,h.fit⟩
theorem Two.bel (h:Two w0 gc gx c n m B E W):Below w0.heap.size w0 W:=by
 obtain⟨Fc,Fx,z,l,h⟩:=h;exact h.bel
theorem Af4.ofC {Fc Fx:Nat->Prop}{z:Di}{l:List Bz}(h:Af4 w0 W gc gx c n m B E Fc Fx z l){w':World}{G:Nat->Prop}{c':ClD}{z':Di}{l':List Bz}(hC:D3 G w' gc c' z' l')(hGk:∀k,G k->Fc k\/W.heap.size<=k)(ht:Touch Fc W w'):Two w0 gc gx c' n m B E w'/\Kept B E W w':=by
 have hlx:=h.fis.lt;have hs:=h.bel.size;refine⟨⟨G,Fx,z',l',hC,h.fis.Ik ht (fun k hk hc=>h.dis k hc hk),fun j hj hx=>?_,fun j hj=>?_,h.lx,h.bel.trans (ht.below (fun k _ hk=>h.lc k hk) hs),fun j hj=>?_,h.rx,Nat.le_trans h.fit ht.size⟩,ht.size,fun b T cs h1 h2 hb=>hb.Ak ht fun hk=>?_⟩
 ·rcases hGk j hj with h1|h1
  ·exact h.dis j h1 hx
  ·have:=hlx j hx;omega
 ·rcases hGk j hj with h1|h1
  ·exact h.lc j h1
  ·omega
 ·rcases hGk j hj with h1|h1
  ·exact h.rc j h1
  ·exact .inr (Nat.le_trans h.fit h1)
 ·rcases h.rc b hk with h3|h3<;>omega
theorem Af4.ofX {Fc Fx:Nat->Prop}{z:Di}{l:List Bz}(h:Af4 w0 W gc gx c n m B E Fc Fx z l){w':World}{n' m':Nat}(hp:Ex Fx gx n' m' W w'):Two w0 gc gx c n' m' B E w'/\Kept B E W w':=by
 obtain⟨⟨G,hI,hGk⟩,ht⟩:=hp;have hlc:=h.cl.lt;have hs:=h.bel.size;refine⟨⟨Fc,G,z,l,h.cl.Ik ht (fun k hk hc=>h.dis k hk hc),hI,fun j hj hx=>?_,h.lc,fun j hj=>?_,h.bel.trans (ht.below (fun k _ hk=>h.lx k hk) hs),h.rc,fun j hj=>?_,Nat.le_trans h.fit ht.size⟩,ht.size,fun b T cs h1 h2 hb=>hb.Ak ht fun hk=>?_⟩
 ·rcases hGk j hx with h1|h1
  ·exact h.dis j hj h1
  ·have:=hlc j hj;omega
 ·rcases hGk j hj with h1|h1
  ·exact h.lx j h1
  ·omega
 ·rcases hGk j hj with h1|h1
  ·exact h.rx j h1
  ·exact .inr (Nat.le_trans h.fit h1)
 ·rcases h.rx b hk with h3|h3<;>omega
def Ajb (e:Ending):Prop:=∃v,e=.returned v
theorem Two.cask (h:Two w0 gc gx c n m B E W)(hL:G1 w0)(hG:Ds c)(hrl:c.recs.length<=1000000)(a:Ask)(hg:Hk a.call)(step now:Int) :
  Calls Tryz.prog 11 #[.pointer (some ⟨gc,0,none⟩),.agg a.vals.toArray,.int .i64 step,.int .i64 now] W fun e w'=>Ajb e/\Two w0 gc gx (c.ask a step now).1 n m B E w'/\Kept B E W w':=by
 obtain⟨Fc,Fx,z,l,h⟩:=h;refine(Abq Fc W gc c z l (Th gc) h.cl hG ⟨w0,hL,h.bel,h.lc⟩ hrl a hg step now).mono ?_
 rintro e w' ⟨v,rfl,hrow,⟨G,z',l',hC,hGk⟩,ht⟩;exact⟨⟨_,rfl⟩,h.ofC hC hGk ht⟩
theorem Two.As6 (h:Two w0 gc gx c n m B E W)(hL:G1 w0)(hG:Ds c)(hrl:c.recs.length<=1000000)(hbr:c.busy=true->c.recs≠[])(x:B3)(step now:Int) :
  Calls Tryz.prog 13 #[.pointer (some ⟨gc,0,none⟩),.agg x.vals.toArray,.int .i64 step,.int .i64 now] W fun e w'=>Ajb e/\Two w0 gc gx (c.take x step now).1 n m B E w'/\Kept B E W w':=by
 obtain⟨Fc,Fx,z,l,h⟩:=h;refine(Agj Fc W gc c z l h.cl hG ⟨w0,hL,h.bel,h.lc⟩ hrl hbr x step now (Nat.le_trans (Tk _) (by decide))).mono ?_
 rintro e w' ⟨v,rfl,hrow,⟨G,z',l',hC,hGk⟩,ht⟩;exact⟨⟨_,rfl⟩,h.ofC hC hGk ht⟩
theorem Two.xask (h:Two w0 gc gx c n m B E W)(hn:n<=900000)(hm:m<=899990)(a:Ask)(hg:Hk a.call)(step now:Int) :
  Calls Tryz.prog 12 #[.pointer (some ⟨gx,0,none⟩),.agg a.vals.toArray,.int .i64 step,.int .i64 now] W fun e w'=>Ajb e/\Two w0 gc gx c (n+1) (m+4) B E w'/\Kept B E W w':=by
 obtain⟨Fc,Fx,z,l,h⟩:=h;refine(An0 Fx W gx n m h.fis hn hm a hg step now).mono ?_
 rintro e w' ⟨⟨v,k,rfl⟩,hp⟩;exact⟨⟨_,rfl⟩,h.ofX hp⟩
theorem Two.Asm (h:Two w0 gc gx c n m B E W)(hn:n<=900000)(hm:m<=900000)(x:B3)(step now:Int) :
  Calls Tryz.prog 14 #[.pointer (some ⟨gx,0,none⟩),.agg x.vals.toArray,.int .i64 step,.int .i64 now] W fun e w'=>Ajb e/\Two w0 gc gx c (n+1) m B E w'/\Kept B E W w':=by
 obtain⟨Fc,Fx,z,l,h⟩:=h;refine(Ahs Fx W gx n m h.fis hn hm x step now).mono ?_
 rintro e w' ⟨⟨v,rfl⟩,hp⟩;exact⟨⟨_,rfl⟩,h.ofX hp⟩
theorem Two.Ux (h:Two w0 gc gx c n m B E W)(hn:n<=900000)(s:Fw)(hs:s.rep.Kk W)(hg:Af5 s.rep) :
  Calls Tryz.prog 10 #[.pointer (some ⟨gx,0,none⟩),.agg s.vals.toArray] W (Aou W):=by
 obtain⟨Fc,Fx,z,l,h⟩:=h;exact Aeo Fx W gx n m h.fis hn s hs hg
theorem Two.records (h:Two w0 gc gx c n m B E W)(hrl:c.recs.length<=1000000) :
  Calls Tryz.prog 15 #[.pointer (some ⟨gc,0,none⟩)] W fun e w'=>∃v lk,e=.returned v/\M3 w' (fun b=>W.heap.size<=b) v lk c.recs/\Below W.heap.size W w':=by
 obtain⟨Fc,Fx,z,l,h⟩:=h;exact Sq Fc W gc c z l h.cl hrl
theorem Two.busy (h:Two w0 gc gx c n m B E W):Calls Tryz.prog 16 #[.pointer (some ⟨gc,0,none⟩)] W fun e w'=>e=.returned (.bool c.busy)/\w'=W:=by
 obtain⟨Fc,Fx,z,l,h⟩:=h;exact Zk Fc W gc c z l h.cl
end
end
attribute [local go_sem ↓] Go.wp_at_zero Go.wp_at_succ
attribute [local go_sem] Ai Ag Af Ab Aj
section
section
variable {ρ:Operand->Value} {w:World} {dst:Option Tmp} {ty:TypeId} {pos:String} {after:Array Edge} {g:Option (Nat × Bool)} {x y:Operand}
theorem Al9 (hx:Dt (ρ x)=true)(hy:Da 94 (ρ y)=true)(ht:Ar w (C8 (ρ x)) (C7 (ρ x)) 94=true) :
  (execOp ρ ⟨dst,.store 53 x y,ty,pos,after,g⟩).run Tryz.prog w=.ok .skip (putsW w (C8 (ρ x)) (C7 (ρ x)) (ρ y).cells.toList):=Hh (by kernel_rfl) hx hy ht
end
attribute [local go_sem ↓] Al9 Aeh J1 Gq L6
attribute [local go_sem] Bv Bj Cc Bu Cd Cj Cm C2 Bc Az Bp Dt C8 C7 Dz D5 Cy
attribute [local go_sem low] Cr
attribute [local go_sem] Fw.len B3.len Ask.len Ic Acd
theorem Ab2 (x:Fw):Da 94 (.agg x.vals.toArray)=true:=Vc x.s
attribute [local go_sem] Ab2
structure Ain (w1:World) (gc gx k:Nat) (c:ClD) (W:World):Prop where
 inv:Ft c (k:Int)
 C9:Ds c
 id:c.id=3
 few:c.recs.length<=k
 two:∃B E,Two w1 gc gx c k (4*k) B E W
theorem Ain.full {w1 W:World}{gc gx k:Nat}{c:ClD}(h:Ain w1 gc gx k c W):c.busy=true->c.recs≠[]:=by
 intro hb he;have:=h.inv.busy;rw[hb,he]at this;cases this
theorem U7 (A:Option Addr)(cap:Nat)(l:List Fw)(w:World)(hl:l.length<=9223372036854775807)(hA:At w 94 A (l.map Fw.vals))(hg:∀x∈l,Aja x/\Af5 x.rep/\x.rep.Kk w)(hL:G1 w) :
  Calls Tryz.prog 3 #[.slice A l.length cap] w fun e w'=>e=.returned (.bool true)/\Below w.heap.size w w':=by
 have HA:=Zh hA;have HG:=Zh hg;have HL:=Zh hL;have KL:=Zh (Yd A cap l w hl hA (fun x hx=>(hg x hx).2.2));clear hA hg hL;go_enter Tryz.func3,Tryz.ntmps3
 go_wp2_with fail;refine KL.out.mono ?_
 rintro e w1 ⟨b,rfl,hf,hb1⟩;have HB1:=Zh hb1;have HL1:=Zh (HL.out.below hb1);have HA1:=Zh (HA.out.below hb1);have HR1:=Zh (fun x hx=>(HG.out x hx).2.2.below hb1);clear hb1 KL HL HA;cases b
 case true=>
  go_wp2_with fail;refine(Wo w1 HL1.out).mono ?_
  rintro e w2 ⟨rfl,hb2⟩;go_wp2;go_ret;exact⟨rfl,Ad HB1.out hb2⟩
 obtain⟨h40,-⟩:=hf rfl;clear hf;have K0:=Zh (Aa3 3 5 1 w1 (by decide));go_wp2_with fail;refine K0.out.mono ?_
 rintro e w2 ⟨gc,rfl,hge,hlt,hC,hb2⟩;have K1:=Zh (Ans 3 5 1 w2 (by decide));clear K0;have HC:=Zh (And.intro hC (And.intro hge (And.intro hlt hb2)));clear hC hge hlt hb2;go_wp2_with fail;refine K1.out.mono ?_
 rintro e w3 ⟨gx,rfl,hI,hgx,hb3⟩;have HS0:=Zh (show Ain w1 gc gx 0 (Wz 3 5 1 Mn) w3 from by
  obtain⟨hC,hge,hlt,hb2⟩:=HC.out;have hs2:=hb2.size;exact⟨Ft.new 3 5 1 Mn,Ds.new 3 5 1 Mn,rfl,Nat.le_refl _,0,0,_,_,_,_,hC.below hb3,hI,fun j h1 h2=>by subst h1;omega,fun j h1=>by subst h1;exact hge,fun j h1=>by subst h1;omega,Ad hb2 hb3,fun j _=>.inr (Nat.zero_le _),fun j _=>.inr (Nat.zero_le _),Nat.zero_le _⟩)
 clear hI hgx hb3 K1 HC;go_wp2
 go_loopw [6] (fun iv wr=>∃(k:Nat) (c:ClD),k<=l.length/\iv=.int .i64 (k:Int)/\Ain w1 gc gx k c wr) (fun iv _=>l.length - (intOf iv).toNat)
 case atStart=>exact⟨0,_,Nat.zero_le _,rfl,HS0.out⟩
 case round=>
  obtain⟨k,c,hk,rfl,hW⟩:=hrel;have hk0:(0:Int)<=(k:Int):=Int.natCast_nonneg _;have HW:=Zh hW;clear hW HS0;by_cases hlt:k<l.length
  ·have hk1:(k:Int)<(l.length:Int):=by omega
   obtain⟨st,hst⟩:∃st:Int,st=(k:Int)+1:=⟨_,rfl⟩;have hiw:IntKind.i64.wrap ((k:Int)+1)=st:=by rw[IntWalk.i64_in _ (by omega),hst]
   obtain⟨B,E,hT⟩:=HW.out.two;obtain⟨b1,o1,hAe,hb1,rS,-⟩:=Hw Fw.len (by decide) (HA1.out.below hT.bel) hlt;have hgx:=HG.out _ (List.getElem_mem hlt);have hrx:=HR1.out _ (List.getElem_mem hlt);generalize l[k]=s at *;subst hAe;have HST:=Zh hst;have HT:=Zh hT;have HGX:=Zh hgx;have HRX:=Zh (hrx.below hT.bel);have bS:=Blk.new wr 53 s.vals;have hb5:Below wr.heap.size wr (wr.alloc (.cells s.vals.toArray 53)):=(Below.refl _ _).alloc (Nat.le_refl _) _;obtain⟨w5,hw5⟩:∃V,V=wr.alloc (.cells s.vals.toArray 53):=⟨_,rfl⟩;rw[<-hw5]at bS hb5;have HW5:=Zh hw5;have HS5:=Zh (And.intro bS hb5);have rS5:rowOf w5 wr.heap.size 0 94=some s.vals.toArray:=bS.row 0 94 (by rw[Fw.len];decide);have hl5:=bS.lt;have KP:=Zh ((hT.below hb5).Ux (by omega) s (hrx.below (Ad hT.bel hb5)) hgx.2.1);clear hst hw5 bS hb5 hT hgx hrx
   go_upto_region 9 with fail;change Code.wp _ _ _ _ (wr.alloc (.cells s.vals.toArray 53));rw[<-HW5.out];go_wp2_with fail;refine KP.out.mono ?_
   rintro e w6 ⟨⟨x,b,rfl⟩,hb6⟩;have bP:=Blk.new w6 40 x.vals;have hb7:Below w6.heap.size w6 (w6.alloc (.cells x.vals.toArray 40)):=(Below.refl _ _).alloc (Nat.le_refl _) _;obtain⟨w7,hw7⟩:∃V,V=w6.alloc (.cells x.vals.toArray 40):=⟨_,rfl⟩;rw[<-hw7]at bP hb7;have HW7:=Zh hw7;have bS7:=HS5.out.1.stays (Ad hb6 hb7);have hT7:=HT.out.room (Ad (Ad HS5.out.2 hb6) hb7);have hlS:=HS5.out.1.lt;have hs6:=hb6.size;have hlP:=bP.lt;have q0:w7.cell? ⟨wr.heap.size,0,none⟩=some (.int .i64 s.s.kind):=bS7.cell 0;have q93:w7.cell? ⟨wr.heap.size,93,none⟩=some (.int .i64 s.s.now):=bS7.cell 93;have qA:rowOf w7 wr.heap.size 1 30=some s.s.a.vals.toArray:=bS7.row 1 30 (by rw[Fw.len];decide);have qP:rowOf w7 w6.heap.size 0 3=some x.vals.toArray:=bP.row 0 3 (by rw[B3.len];decide);have H7:=Zh (And.intro hT7 (And.intro bS7 bP));have hfew:=HW.out.few;clear hw7 bP hb7 bS7 hT7 hb6 KP HW5 rS rS5
   go_upto_region 10 with fail;change Code.wp _ _ _ _ (w6.alloc (.cells x.vals.toArray 40));rw[<-HW7.out];by_cases hkd:s.s.kind=1
   case pos=>
    rw[hkd]at q0;have KA:=Zh (H7.out.1.cask HL1.out HW.out.C9 (by omega) s.s.a HGX.out.1.ask.2.2.2.2.2.2.g st s.s.now);clear hkd;go_wp2_with fail;refine KA.out.mono ?_
    rintro e w8 ⟨⟨v,rfl⟩,hT8,hK8⟩;have bS8:=hK8.2 _ _ _ (Nat.le_refl _) (by omega) H7.out.2.1;have r93:w8.cell? ⟨wr.heap.size,93,none⟩=some (.int .i64 s.s.now):=bS8.cell 93;have rA:rowOf w8 wr.heap.size 1 30=some s.s.a.vals.toArray:=bS8.row 1 30 (by rw[Fw.len];decide);have hl8:=bS8.lt;have KX:=Zh (hT8.xask (by omega) (by omega) s.s.a HGX.out.1.ask.2.2.2.2.2.2.g st s.s.now);clear hT8 hK8 bS8 KA q0 q93 qA qP;go_wp2_with fail;refine KX.out.mono ?_
    rintro e w9 ⟨⟨v,rfl⟩,hT9,hK9⟩;have HF:=Zh (show Ain w1 gc gx (k+1) (c.ask s.s.a st s.s.now).1 w9 from
     ⟨by rw[show ((k+1:Nat):Int)=st by rw[HST.out];rfl];exact HW.out.inv.ask s.s.a (by rw[HST.out];omega) (by rw[HST.out];omega),Zr HW.out.C9 HGX.out.1.ask.2.2.2.2.2.2.g st s.s.now,by rw[ClD.Asf];exact HW.out.id,by have:=Aon c s.s.a st s.s.now;omega,_,_,hT9.more (Nat.le_refl _) (by omega)⟩)
    clear hT9 hK9 KX r93 rA;go_wp2;go_roundw
    case rel=>exact⟨k+1,_,by omega,by rw[HST.out];rfl,HF.out⟩
    case measure=>have:=HST.out;simp[intOf];omega
   case neg=>
    have hkb:(s.s.kind==1)=false:=by simpa using hkd
    cases b
    case false=>
     have HF:=Zh (show Ain w1 gc gx (k+1) c w7 from
      ⟨HW.out.inv.mono (by omega),HW.out.C9,HW.out.id,by omega,_,_,H7.out.1.more (by omega) (by omega)⟩)
     clear q93 qA qP;go_wp2;go_roundw
     case rel=>exact⟨k+1,_,by omega,by rw[HST.out];rfl,HF.out⟩
     case measure=>have:=HST.out;simp[intOf];omega
    case true=>
     have KA:=Zh (H7.out.1.As6 HL1.out HW.out.C9 (by omega) HW.out.full x st s.s.now);clear hkd;go_wp2_with fail;refine KA.out.mono ?_
     rintro e w8 ⟨⟨v,rfl⟩,hT8,hK8⟩;have bS8:=hK8.2 _ _ _ (Nat.le_refl _) (by omega) H7.out.2.1;have bP8:=hK8.2 _ _ _ (by omega) hlP H7.out.2.2;have r93:w8.cell? ⟨wr.heap.size,93,none⟩=some (.int .i64 s.s.now):=bS8.cell 93;have rP:rowOf w8 w6.heap.size 0 3=some x.vals.toArray:=bP8.row 0 3 (by rw[B3.len];decide);have hl8:=bS8.lt;have hl8p:=bP8.lt;have KX:=Zh (hT8.Asm (by omega) (by omega) x st s.s.now);clear hT8 hK8 bS8 bP8 KA q0 q93 qA qP;go_wp2_with fail;refine KX.out.mono ?_
     rintro e w9 ⟨⟨v,rfl⟩,hT9,hK9⟩;have HF:=Zh (show Ain w1 gc gx (k+1) (c.take x st s.s.now).1 w9 from
      ⟨by rw[show ((k+1:Nat):Int)=st by rw[HST.out];rfl];exact HW.out.inv.take x (by rw[HST.out];omega) (by rw[HST.out];omega),Ajm HW.out.C9 (Nat.le_trans (Tk x.data) (by decide)) st s.s.now,by rw[ClD.Ao3];exact HW.out.id,by have:=Ajl c x st s.s.now;omega,_,_,hT9.more (Nat.le_refl _) (by omega)⟩)
     clear hT9 hK9 KX r93 rP;go_wp2;go_roundw
     case rel=>exact⟨k+1,_,by omega,by rw[HST.out];rfl,HF.out⟩
     case measure=>have:=HST.out;simp[intOf];omega
  ·obtain rfl:k=l.length:=by omega
   have hlm:¬(l.length:Int)<(l.length:Int):=by omega
   obtain⟨B,E,hT⟩:=HW.out.two;have hfew:=HW.out.few;have KR:=Zh (hT.records (by omega));have HT:=Zh hT;clear hT;go_wp2_with fail;refine KR.out.mono ?_
   rintro e w4 ⟨v,lk,rfl,hR,hb4⟩;obtain⟨RA,rcap,rfl,hAt⟩:=hR.row.at_;have hlk:lk.length=c.recs.length:=hR.len;rw[List.length_map,hlk];have HB4:=Zh (Ad (Ad HB1.out HT.out.bel) hb4);have HL4:=Zh (HL1.out.below (Ad HT.out.bel hb4));have KB:=Zh (fun V (h:Below w4.heap.size w4 V)=>((HT.out.below hb4).below h).busy);have HI:=Zh (And.intro HW.out.inv HW.out.id);have HC:=Zh (fun (V:World) (h:Below w4.heap.size w4 V) (j:Nat) (hj:j<c.recs.length)=>(show ∃b o,RA=some ⟨b,o,none⟩/\V.cell? ⟨b,o+j*88,none⟩=some (.int .i64 c.recs[j].C3.client)/\V.cell? ⟨b,o+j*88+1,none⟩=some (.int .i64 c.recs[j].C3.seq)/\V.cell? ⟨b,o+j*88+4,none⟩=some (.int .i64 c.recs[j].beg)/\V.cell? ⟨b,o+j*88+5,none⟩=some (.int .i64 c.recs[j].fin) from by
    have hj2:j<lk.length:=by omega
    obtain⟨b,o,hA,-,-,cc⟩:=Hw Bz.len (by decide) (hAt.below h) hj2;have hI:=hR.each j hj2 hj;refine⟨b,o,hA,?_,?_,?_,?_⟩
    ·rw[<-hI.C3];exact cc 0 _ rfl
    ·rw[<-hI.C3];exact cc 1 _ rfl
    ·rw[<-hI.beg];exact cc 4 _ rfl
    ·rw[<-hI.fin];exact cc 5 _ rfl))
   clear hR hAt hb4 KR hlk HT;go_wp2
   go_loopw [11] (fun iv wr=>∃(j:Nat),j<=c.recs.length/\iv=.int .i64 (j:Int)/\Below w4.heap.size w4 wr) (fun iv _=>c.recs.length - (intOf iv).toNat)
   case atStart=>exact⟨0,Nat.zero_le _,rfl,Below.refl _ _⟩
   case round=>
    obtain⟨j,hj,rfl,hb⟩:=hrel;have hj0:(0:Int)<=(j:Int):=Int.natCast_nonneg _;by_cases hjl:j<c.recs.length
    ·have hj1:(j:Int)<(c.recs.length:Int):=by omega
     have hjw:IntKind.i64.wrap ((j:Int)+1)=((j+1:Nat):Int):=by rw[IntWalk.i64_in _ (by omega)];omega
     obtain⟨b,o,hRA,d0,d1,d4,d5⟩:=HC.out _ hb j hjl;obtain⟨r1,r2,r3,-,r5⟩:=HI.out.1.recs j hjl;have hord:=HI.out.1.order;rw[r1,HI.out.2]at d0;rw[r2,show (j:Int)+1=((j+1:Nat):Int) by omega]at d1;have HPr:=Zh (fun (i:Nat) (hi:j=i+1) (h:i<c.recs.length)=>(show c.recs[i].fin≠0/\c.recs[i].fin<=c.recs[j].beg from by
      subst hi;exact hord i hjl))
     generalize hbg:c.recs[j].beg=bg at *;generalize hfn:c.recs[j].fin=fn at *;subst hRA;have HBb:=Zh hb;have hbd:decide (bg<1)=false:=decide_eq_false (by omega);have hsq:(((j+1:Nat):Int) != ((j+1:Nat):Int))=false:=by simp
     clear r1 r2 hord hb
     go_upto_region 20 with fail
     go_cut [126] from 80 to 125 (fun v wx=>v=.bool false/\Below wr.heap.size wr wx)
     case first=>
      by_cases hf0:fn=0
      ·rw[hf0]at d5
       clear r5 hfn hbg hf0;go_quiet (fail)
       all_goals
        go_wp2;go_meet
        case rel=>exact⟨rfl,bdN (Below.refl _ _) _⟩
      ·have hfb:(fn != 0)=true:=by simpa using hf0
       have hfl:decide (fn<bg)=false:=decide_eq_false (by omega);clear r5 hfn hbg hf0;go_quiet (fail)
       all_goals
        go_wp2;go_meet
        case rel=>exact⟨rfl,bdN (Below.refl _ _) _⟩
     case rest=>
     obtain⟨rfl,hb2⟩:=hcut;have hb3:=Ad HBb.out hb2;have HB3:=Zh hb3;have e4:wc.cell? ⟨b,o+j*88+4,none⟩=some (.int .i64 bg):=by
      obtain⟨b',o',h1,-,-,h4,-⟩:=HC.out _ hb3 j hjl;injection h1 with h1;injection h1 with h1 h2 _;subst h1 h2;rw[hbg]at h4;exact h4
     clear d0 d1 d4 d5 hsq hbd hb2
     go_upto_region 22 with fail
     go_cut [151] from 127 to 150 (fun v wx=>v=.bool false/\Below wc.heap.size wc wx)
     case first=>
      by_cases hz:j=0
      ·have hjn:decide ((0:Int)<(j:Int))=false:=decide_eq_false (by omega)
       clear hbg hfn;go_quiet (fail)
       all_goals
        go_wp2;go_meet
        case rel=>exact⟨rfl,bdN (Below.refl _ _) _⟩
      ·obtain⟨i,hi⟩:∃i,j=i+1:=⟨j - 1,by omega⟩
       have hil:i<c.recs.length:=by omega
       obtain⟨p1,p2⟩:=HPr.out i hi hil;have e5:wc.cell? ⟨b,o+i*88+5,none⟩=some (.int .i64 c.recs[i].fin):=by
        obtain⟨b',o',h1,-,-,-,h5⟩:=HC.out _ hb3 i hil;injection h1 with h1;injection h1 with h1 h2 _;subst h1 h2;exact h5
       generalize c.recs[i].fin=fi at *;have hjn:decide ((0:Int)<(j:Int))=true:=decide_eq_true (by omega);have hjn2:decide (0<j)=true:=decide_eq_true (by omega);have hjp:0<j:=by omega
       have hjq:(0:Int)<(j:Int):=by omega
       have hjm:IntKind.i64.wrap ((j:Int) - 1)=(i:Int):=by rw[IntWalk.i64_in _ (by omega)];omega
       have hi0:(0:Int)<=(i:Int):=by omega
       have hi1:(i:Int)<(c.recs.length:Int):=by omega
       have hfz:(fi==0)=false:=by simpa using p1
       have hfb:decide (bg<fi)=false:=decide_eq_false (by omega);clear hbg hfn p1 p2 hz hi hb3;go_quiet (fail)
       all_goals
        go_wp2;go_meet
        case rel=>exact⟨rfl,bdN (Below.refl _ _) _⟩
     case rest=>
     obtain⟨rfl,hb5⟩:=hcut;have HB5:=Zh (Ad HB3.out hb5);clear hb5 hb3 e4 r5 hbg hfn;go_wp2;go_roundw
     case rel=>exact⟨j+1,by omega,by first|rfl|go_num,HB5.out⟩
     case measure=>simp[intOf];omega
    ·obtain rfl:j=c.recs.length:=by omega
     have hlm2:¬(c.recs.length:Int)<(c.recs.length:Int):=by omega
     have hinv:=HI.out.1;have hbu:=hinv.busy;have KB5:=Zh (KB.out _ hb);have KN:=Zh (Wo _ (HL4.out.below hb));have HF:=Zh (Ad HB4.out hb);by_cases hz:c.recs.length=0
     ·have hbz:c.busy=false:=by rw[hbu,List.length_eq_zero_iff.1 hz];rfl
      rw[hbz]at KB5;have n1:decide ((0:Int)<(c.recs.length:Int))=false:=decide_eq_false (by omega);have n2:decide (0<c.recs.length)=false:=decide_eq_false (by omega);clear hinv hbu hb KB HC hbz
      go_wp2_with (first
       |(go_at_call 16;refine KB5.out.mono ?_;rintro e w9 ⟨rfl,hw9⟩;rw[hw9];clear hw9)
       |(go_at_call 7;refine KN.out.mono ?_;rintro e w8 ⟨rfl,hb8⟩)
       |fail)
      go_ret;exact⟨rfl,Ad HF.out hb8⟩
     ·obtain⟨i,hi⟩:∃i,c.recs.length=i+1:=⟨c.recs.length - 1,by omega⟩
      have hil:i<c.recs.length:=by omega
      have hlo:c.busy=(c.recs[i].fin==0):=by
       rw[hbu];unfold Oa;rw[List.getLast?_eq_getElem?,show c.recs.length - 1=i by omega,List.getElem?_eq_getElem hil]
      obtain⟨b,o,hRA,-,-,-,e5⟩:=HC.out _ hb i hil;subst hRA;generalize c.recs[i].fin=fi at *;have n1:decide ((0:Int)<(c.recs.length:Int))=true:=decide_eq_true (by omega);have n2:decide (0<c.recs.length)=true:=decide_eq_true (by omega);have n3:0<c.recs.length:=by omega
      have n4:(0:Int)<(c.recs.length:Int):=by omega
      have n5:IntKind.i64.wrap ((c.recs.length:Int) - 1)=(i:Int):=by rw[IntWalk.i64_in _ (by omega)];omega
      have n6:(0:Int)<=(i:Int):=by omega
      have n7:(i:Int)<(c.recs.length:Int):=by omega
      rw[hlo]at KB5;clear hinv hbu hb KB HC hlo hi hz;by_cases hf0:fi=0
      ·rw[hf0]at e5 KB5
       clear hf0
       go_wp2_with (first
        |(go_at_call 16;refine KB5.out.mono ?_;rintro e w9 ⟨rfl,hw9⟩;rw[hw9];clear hw9)
        |(go_at_call 7;refine KN.out.mono ?_;rintro e w8 ⟨rfl,hb8⟩)
        |fail)
       go_ret;exact⟨rfl,Ad HF.out hb8⟩
      ·have hfb:(fi==0)=false:=by simpa using hf0
       rw[hfb]at KB5
       go_wp2_with (first
        |(go_at_call 16;refine KB5.out.mono ?_;rintro e w9 ⟨rfl,hw9⟩;rw[hw9];clear hw9)
        |(go_at_call 7;refine KN.out.mono ?_;rintro e w8 ⟨rfl,hb8⟩)
        |fail)
       go_ret;exact⟨rfl,Ad HF.out hb8⟩
end
end Go.Proofs.YtfjflkmhhbhceaaGreatDoor
