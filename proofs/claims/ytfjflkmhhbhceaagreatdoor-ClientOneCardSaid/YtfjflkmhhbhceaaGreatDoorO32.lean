/-
  Layer 33, walks: the next call is made (printed by wip/tools/gennext33.py). Condition: numbers within their bounds.
-/
import Derived.Test.YtfjflkmhhbhceaaGreatDoorO30
import Derived.Test.YtfjflkmhhbhceaaGreatDoorO27
import Derived.Test.YtfjflkmhhbhceaaGreatDoorO13
import Derived.Deep.CutRange
import Derived.StillTailTactics
import Derived.Test.YtfjflkmhhbhceaaGreatDoorO31
import Derived.Test.YtfjflkmhhbhceaaGreatDoorO05
set_option maxRecDepth 20000
set_option maxHeartbeats 40000000
namespace Go.Proofs.YtfjflkmhhbhceaaGreatDoor
open Go.RowKit
attribute [local go_sem ↓] Go.wp_at_zero Go.wp_at_succ
attribute [local go_sem] Ai Ag Af Ab Aj
section
attribute [local go_sem ↓] Po Pp F1 Qy J1 Pt D6 N9 Gq Pw O3
attribute [local go_sem] Bv Bj Cc Bu Cd Cj Cm C2 Bc Az B7 C5 Bi C6 Bp Dt C8 C7 Dz D5 Cy
attribute [local go_sem low] Cr
attribute [local go_sem] F4 P6 Call.len Bm.len A8.len B3.len D0 Ot Ic
theorem Am5 (F:Nat->Prop)(w:World)(g:Nat)(c:ClD)(z:Di)(l:List Bz)(hC:D3 F w g c z l)(step now:Int)(hp:c.parts=[]) :
  Calls Tryz.prog 38 #[.pointer (some ⟨g,0,none⟩),.int .i64 step,.int .i64 now] w fun e w'=>e=.returned (.slice none 0 0)/\w'=w:=by
 have c19:w.cell? ⟨g,19,none⟩=some (.slice z.ta 0 z.tc):=by
  rw[hC.blk.cell 19];have:=hC.pts.len;rw[hp]at this
  show some (Value.slice z.ta z.tn z.tc)=_
  rw[this];rfl
 go_enter Tryz.func38,Tryz.ntmps38
 go_wp2;go_ret;exact⟨rfl,rfl⟩
theorem Am4 (F:Nat->Prop)(w:World)(g:Nat)(c:ClD)(z:Di)(l:List Bz)(hC:D3 F w g c z l)(step now:Int)(p:Bm)(ps:List Bm)(hp:c.parts=p::ps)(hG:Ds c)(hL:Ry F w)(hrl:c.recs.length<=1000000)(hnw:0<=now/\now<=1099511627776) :
  Calls Tryz.prog 38 #[.pointer (some ⟨g,0,none⟩),.int .i64 step,.int .i64 now] w (Uk F g (c.next step now).1 (c.next step now).2 w):=by
 have hlen:=hC.pts.len;rw[hp,List.length_cons]at hlen;have hrow:=hC.pts.row;rw[hp]at hrow;obtain⟨b,off,hta,hbl,hcell⟩:=hrow 0 p.vals rfl;have hown:=hC.pts.own _ hta;have c19:w.cell? ⟨g,19,none⟩=some (.slice (some ⟨b,off,none⟩) (ps.length+1) z.tc):=by
  rw[hC.blk.cell 19]
  show some (Value.slice z.ta z.tn z.tc)=_
  rw[hlen,hta]
 have r0:rowOf w b off 29=some p.vals.toArray:=Mm (fun j u hu=>by have:=hcell j u hu;simpa using this) (Bm.len p) (by decide);have tN:=hC.blk.Ar 20 29 (by show 20+29<=56;decide);have fN:=hC.blk.frozen;have hl0:(0:Int)<((ps.length:Nat):Int)+1:=by omega
 have hl1:(1:Int)<=((ps.length:Nat):Int)+1:=by omega
 have hne:((((ps.length+1:Nat):Int))==0)=false:=by simp only[beq_eq_false_iff_ne];omega
 go_enter Tryz.func38,Tryz.ntmps38
 go_wp2;go_region;obtain⟨A',hA'⟩:∃A,A=(if z.tc=1 then some (⟨b,off,none⟩:Addr) else some ⟨b,off+29,none⟩):=⟨_,rfl⟩;rw[<-hA'];obtain⟨W,hW⟩:∃W,W=((putsW w g 20 p.vals).setCell ⟨g,19,none⟩ (.slice A' ps.length (z.tc - 1))).drew:=⟨_,rfl⟩;rw[<-hW];obtain⟨hC2,ht2⟩:=hC.taken hp hta hA' hW;obtain⟨z2,hz2⟩:∃u,u=({ z with ta:=A',tn:=ps.length,tc:=z.tc - 1,now:=p }:Di):=⟨_,rfl⟩;obtain⟨c2,hc2⟩:∃d,d=({ c with parts:=ps,now:=p }:ClD):=⟨_,rfl⟩;rw[<-hz2,<-hc2]at hC2;clear hA';have hF:=hC.lt;have hgl:=hC.blk.lt;have hnow:z2.now=p:=by rw[hz2]
 have HC:=Zh hC2;have HT:=Zh ht2;have HF:=Zh hF;have Hc2:=Zh hc2;have rc:rowOf W g 20 24=some p.c.vals.toArray:=by
  have:=hC2.blk.row 20 24 (by rw[Di.len];omega);rw[Di.U2,hnow]at this;exact this
 have hgW:g<W.heap.size:=hC2.blk.lt;have hsz:w.heap.size<=W.heap.size:=ht2.size;clear hW hz2 hc2 hC hC2 ht2 hF c19 r0 tN fN hl0 hl1 hne hcell hown hrow hlen
 go_upto_region 4 with fail
 go_cut [7,8] from 37 to 46 (fun v7 v8 wx=>∃bx bt,v7=.pointer (some ⟨bx,0,none⟩)/\v8=.pointer (some ⟨bt,0,none⟩)/\Ph F g bx bt c2 z2 l w p.c p.c wx)
 case first=>
  have HS:=Zh (show Xc g 20 24 p.c.vals.toArray W from ⟨rc,hgW⟩);go_region_held3 (fun U=>Xc g 20 24 p.c.vals.toArray U) (first|exact HS.out.drew|exact HS.out.drew.alloc _|exact(HS.out.alloc _).drew|exact(HS.out.drew.alloc _).alloc _|exact((HS.out.alloc _).alloc _).drew|with_reducible assumption) (fail)
  all_goals (go_wp2_with fail;go_meet)
  case rel=>exact⟨_,_,rfl,rfl,(Ph.make HC.out HT.out p.c).1⟩
  case rel=>exact⟨_,_,rfl,rfl,(Ph.make HC.out HT.out p.c).2⟩
 case rest=>
 obtain⟨bx,bt,rfl,rfl,hT⟩:=hcut;have hpg:=hG.parts p (by rw[hp];exact List.mem_cons_self);obtain⟨d,hd⟩:∃d:Nat,p.dir=d:=⟨p.dir.toNat,by have:=hpg.dir;omega⟩;obtain⟨q,hq⟩:∃q:Nat,p.to_=q:=⟨p.to_.toNat,by have:=hpg.to_;omega⟩;have hd4:d<4:=by have:=hpg.dir;omega
 have hq4:q<4:=by have:=hpg.to_;omega
 have hat:∀i,c2.at_ i=c.at_ i:=fun i=>by rw[Hc2.out];rfl
 clear rc hgW hsz;have x0:wc.cell? ⟨bx,0,none⟩=some (.int .i64 p.c.proc):=hT.xb.cell 0;have HTW:=Zh hT;clear hT;have KH:∀W,Calls Tryz.prog 84 #[.int .i64 p.c.proc,.int .i32 102] W fun e w'=>e=.returned (.bool (Tj p.c.proc 102))/\Below W.heap.size W w':=fun W=>Abg p.c.proc 102 (by decide) W
 replace KH:=Zh KH;go_wp2_with fail;refine(KH.out _).mono ?_
 rintro e w5 ⟨rfl,hb5⟩;have hT5:=HTW.out.below hb5;clear hb5 x0 KH HTW;generalize hmb1:Tj p.c.proc 102=b1 at *
 go_upto_if 49 with fail
 go_cut [] from 50 to 74 (fun wx=>Ph F g bx bt c2 z2 l w (if b1 then { p.c with fh:=(c.at_ p.dir).handle } else p.c) (if b1 then { p.c with fh:=Ef (c.at_ p.dir).gen } else p.c) wx)
 case first=>
  cases b1
  case false=>
   have HT5:=Zh hT5;clear hT5;go_wp2;go_meet
   case rel=>
    exact HT5.out
  case true=>
   have hbk:=hT5.cl.blk;obtain⟨r0,r1,r2,r3⟩:=Hm z2 hd4;have hpl:=hT5.cl.is.at_ hd4;have c44:w5.cell? ⟨g,44,none⟩=some (.int .i64 d):=by rw[hbk.cell 44,<-hd,<-hnow];rfl
   have e0:w5.cell? ⟨g,3+d*4,none⟩=some (.string (bs (z2.place d).handle)):=(hbk.cell _).trans r0;have e1:w5.cell? ⟨g,3+d*4+1,none⟩=some (.int .i64 (z2.place d).gen):=(hbk.cell _).trans r1;have hd0:(0:Int)<=(d:Int):=by omega
   have hd1:(d:Int)<4:=by omega
   have hgen:(z2.place d).gen<=9223372036854775807:=by rw[<-hpl,hat];exact(hG.at_ _).gen
   have hll:=hL.look (hT5.to.mono fun k _ hk=>by subst hk;exact hT5.cl.fg);have KT:=Zh (fun (V:World) (h:Below w5.heap.size w5 V)=>R3 (z2.place d).gen V hgen (hll.below h));have hX:Nc g bx bt w5 w5.drew:=Nc.start (hT5.xb.Ar 1 1 (by rw[Call.len];omega)) (hT5.tb.Ar 1 1 (by rw[Call.len];omega)) (hT5.xb.Ar 3 1 (by rw[Call.len];omega)) (hT5.tb.Ar 3 1 (by rw[Call.len];omega));have HX:=Zh hX;have hg5:=Zh (show g<w5.drew.heap.size from hbk.lt);have HZ:=Zh (show c.at_ p.dir=z2.place d by rw[hd,<-hat,hpl]);have HT5:=Zh hT5;have hgx:=Zh (show g≠bx by have:=hT5.lx;omega);have hgt:=Zh (show g≠bt by have:=hT5.lt;omega);clear r0 r1 r2 r3 hbk hll hX hT5 hpl hgen;go_wp2_with fail;go_region_held3 (fun U=>Nc g bx bt w5 U) (first|exact HX.out|with_reducible assumption|exact Nc.D2 (by assumption) hgx.out hg6.out|exact Nc.D2 (Nc.D2 (by assumption) hgx.out hg6.out) hgt.out (by rw[Bp];exact hg6.out)) (first
    |(go_at_call 85;refine(KT.out _ (Below.refl _ _).drew).mono ?_;rintro e w6 ⟨rfl,hb6⟩;have hS6:Nc g bx bt w5 w6:=Nc.call HX.out hg5.out hb6;have hg6:=Zh (show g<w6.heap.size from Nat.lt_of_lt_of_le hg5.out hb6.size))
    |fail)
   have HB6:=Zh hb6;clear hS6 hb6;go_wp2;go_meet
   case rel=>
    rw[HZ.out];exact(HT5.out.below (Ad (Below.refl _ _).drew HB6.out)).put1 HF.out _ _
 case rest=>
 obtain⟨x1,hx1⟩:∃x,x=(if b1 then { p.c with fh:=(c.at_ p.dir).handle } else p.c):=⟨_,rfl⟩;obtain⟨t1,ht1⟩:∃x,x=(if b1 then { p.c with fh:=Ef (c.at_ p.dir).gen } else p.c):=⟨_,rfl⟩;rw[<-hx1,<-ht1]at hcut;have hpr:x1.proc=p.c.proc:=by rw[hx1];cases b1<;>rfl
 have HX1:=Zh (And.intro hx1 ht1);clear hx1 ht1 hT5;have x0:wc.cell? ⟨bx,0,none⟩=some (.int .i64 p.c.proc):=by rw[<-hpr];exact hcut.xb.cell 0
 have HTW:=Zh hcut;clear hcut;have KH:∀W,Calls Tryz.prog 84 #[.int .i64 p.c.proc,.int .i32 70] W fun e w'=>e=.returned (.bool (Tj p.c.proc 70))/\Below W.heap.size W w':=fun W=>Abg p.c.proc 70 (by decide) W
 replace KH:=Zh KH;go_wp2_with fail;refine(KH.out _).mono ?_
 rintro e w5 ⟨rfl,hb5⟩;have hT5:=HTW.out.below hb5;clear hb5 x0 KH HTW;generalize hmb2:Tj p.c.proc 70=b2 at *
 go_upto_if 77 with fail
 go_cut [] from 78 to 102 (fun wx=>Ph F g bx bt c2 z2 l w (if b2 then { x1 with fh2:=(c.at_ p.to_).handle } else x1) (if b2 then { t1 with fh2:=Ef (c.at_ p.to_).gen } else t1) wx)
 case first=>
  cases b2
  case false=>
   have HT5:=Zh hT5;clear hT5;go_wp2;go_meet
   case rel=>
    exact HT5.out
  case true=>
   have hbk:=hT5.cl.blk;obtain⟨r0,r1,r2,r3⟩:=Hm z2 hq4;have hpl:=hT5.cl.is.at_ hq4;have c44:w5.cell? ⟨g,45,none⟩=some (.int .i64 q):=by rw[hbk.cell 45,<-hq,<-hnow];rfl
   have e0:w5.cell? ⟨g,3+q*4,none⟩=some (.string (bs (z2.place q).handle)):=(hbk.cell _).trans r0;have e1:w5.cell? ⟨g,3+q*4+1,none⟩=some (.int .i64 (z2.place q).gen):=(hbk.cell _).trans r1;have hd0:(0:Int)<=(q:Int):=by omega
   have hd1:(q:Int)<4:=by omega
   have hgen:(z2.place q).gen<=9223372036854775807:=by rw[<-hpl,hat];exact(hG.at_ _).gen
   have hll:=hL.look (hT5.to.mono fun k _ hk=>by subst hk;exact hT5.cl.fg);have KT:=Zh (fun (V:World) (h:Below w5.heap.size w5 V)=>R3 (z2.place q).gen V hgen (hll.below h));have hX:Nc g bx bt w5 w5.drew:=Nc.start (hT5.xb.Ar 1 1 (by rw[Call.len];omega)) (hT5.tb.Ar 1 1 (by rw[Call.len];omega)) (hT5.xb.Ar 3 1 (by rw[Call.len];omega)) (hT5.tb.Ar 3 1 (by rw[Call.len];omega));have HX:=Zh hX;have hg5:=Zh (show g<w5.drew.heap.size from hbk.lt);have HZ:=Zh (show c.at_ p.to_=z2.place q by rw[hq,<-hat,hpl]);have HT5:=Zh hT5;have hgx:=Zh (show g≠bx by have:=hT5.lx;omega);have hgt:=Zh (show g≠bt by have:=hT5.lt;omega);clear r0 r1 r2 r3 hbk hll hX hT5 hpl hgen;go_wp2_with fail;go_region_held3 (fun U=>Nc g bx bt w5 U) (first|exact HX.out|with_reducible assumption|exact Nc.D2 (by assumption) hgx.out hg6.out|exact Nc.D2 (Nc.D2 (by assumption) hgx.out hg6.out) hgt.out (by rw[Bp];exact hg6.out)) (first
    |(go_at_call 85;refine(KT.out _ (Below.refl _ _).drew).mono ?_;rintro e w6 ⟨rfl,hb6⟩;have hS6:Nc g bx bt w5 w6:=Nc.call HX.out hg5.out hb6;have hg6:=Zh (show g<w6.heap.size from Nat.lt_of_lt_of_le hg5.out hb6.size))
    |fail)
   have HB6:=Zh hb6;clear hS6 hb6;go_wp2;go_meet
   case rel=>
    rw[HZ.out];exact(HT5.out.below (Ad (Below.refl _ _).drew HB6.out)).put3 HF.out _ _
 case rest=>
 have hX2:(if b2 then { x1 with fh2:=(c.at_ p.to_).handle } else x1)=c.Sk p:=by
  unfold ClD.Sk;rw[hmb1,hmb2,HX1.out.1]
 have hT2:(if b2 then { t1 with fh2:=Ef (c.at_ p.to_).gen } else t1)=c.Sj p:=by
  unfold ClD.Sj;rw[hmb1,hmb2,HX1.out.2]
 rw[hX2,hT2]at hcut;clear hX2 hT2 hT5 HX1;obtain⟨sx,hsx⟩:∃x,x=c.Sk p:=⟨_,rfl⟩;obtain⟨tx,htx⟩:∃x,x=c.Sj p:=⟨_,rfl⟩;rw[<-hsx,<-htx]at hcut;apply_assumption;exact Akr F w g bx bt c c2 z2 l step now p ps sx tx (Rf (c.message p)) hgl hp hG hpg hnow hrl hnw Hc2 (Zh hsx) (Zh htx) (Zh rfl) wc hcut _ _ _ _ _ _ _ _ _ _ _ _ _ _ _ _ _ _ _ _ _ _ _ _ _ _ _ _ _ _ _ _ _ _ _ _ _ _ _ _ _ _ _ _ _ _ _ _ _ _ _ _ _ _ _ _ _ _ _ _ _ _ _ _ _ _ _ _ _ _ _ _ _ _ _ _ _ _ _ _ _ _ _ _ _ _ _ _ _ _ _ _ _ _ _ _ _ _ _ _ _ _ _ _ _ _ _ _ _ _ _ _ _ _ _ _ _ _ _ _ _ _ _ _ _ _ _ _ _ _ _ _ _ _ _ _ _ _ _ _ _ _ _ _ _ _ _ _ _ _ _ _ _ _ _ _ _ _ _ _ _ _ _ _ _ _ _ _ _ _ _ _ _ _ _ _ _ _ _ _ _
theorem Th (g:Nat):Aov g:=by
 intro F w c z l hC hG hL hrl step now htm;cases hp:c.parts with
 |nil=>
  refine(Am5 F w g c z l hC step now hp).mono ?_
  rintro e w' ⟨rfl,rfl⟩;have h:c.next step now=(c,[]):=by unfold ClD.next;rw[hp]
  rw[h];exact⟨_,rfl,As.none_,⟨F,z,l,hC,fun k hk=>.inl hk⟩,Touch.refl _ _⟩
 |cons p ps=>
  have h:0<=now/\now<=1099511627776:=by simpa[Fo] using htm
  exact Am4 F w g c z l hC step now p ps hp hG hL hrl h
end
section
attribute [local go_sem ↓] Mk Le Mx Ji Gq
attribute [local go_sem] Bv Bj Cc Bu Cd Cj Cm C2 Bc Az B7 C5 Bi C6 Bp Dt C8 C7 Dz D5 Cy
attribute [local go_sem low] Cr
attribute [local go_sem] Aa.len Message.len Ho Ks Pa
def ClD.Ao1 (c:ClD)(d:Dd)(step now:Int):ClD × List B3:=
 if d.f.status≠0 then ({ c with recs:=Dp c.recs step (Km d),busy:=false,parts:=[] },[])
 else (if c.now.put≠-1/\d.f.fh≠[]/\d.f.obj.is=true then ({ c with recs:=Dp c.recs step (Km d),busy:=false }:ClD).Kv c.now.put { c.at_ c.now.put with handle:=d.f.fh,gen:=d.f.obj.attr.gen } else { c with recs:=Dp c.recs step (Km d),busy:=false }).next step now
theorem Uk.lift {F G:Nat->Prop}{g:Nat}{c:ClD}{out:List B3}{w W:World}(ht:Touch F w W)(hG:∀k,G k->F k\/w.heap.size<=k){e:Ending}{w':World}(h:Uk G g c out W e w'):Uk F g c out w e w':=by
 obtain⟨v,rfl,hR,⟨H,z,l,hC,hH⟩,hT⟩:=h;refine⟨v,rfl,hR.base ht.size,⟨H,z,l,hC,fun k hk=>?_⟩,ht.trans hT fun k hk hg=>?_⟩
 ·rcases hH k hk with h|h
  ·exact hG k h
  ·exact .inr (Nat.le_trans ht.size h)
 ·rcases hG k hg with h|h
  ·exact h
  ·omega
def Ju (n:Nat):Code->Code
 |.seq a b=>match a with
  |.seq (.region m _ _) _=>if m=n then .seq a b else Ju n b
  |_=>Ju n b
 |c=>c
theorem Ajn (F:Nat->Prop)(w W:World)(g br:Nat)(c:ClD)(z:Di)(l:List Bz)(step now:Int)(r:Aa)(d:Dd)(R:ClD × List B3)(hR:R=c.Ao1 d step now)(hC:D3 F W g c z l)(ht:Touch F w W)(bR:Blk W br 51 r.vals)(hr:Ib W (fun k=>w.heap.size<=k) r d)(hd:Og d)(hG:Ds c)(hL:Ry F w)(hrl:c.recs.length<=1000000)(hbu:c.busy=true)(hne:c.recs≠[])(htm:Fo now=true)(y1 y4 y5 y6 y7 y8 y9 jd je jf jg jh ji jj jk jl jm jn jo jp jq jr js jt ju jv jw jx jy jz j0 j1 j2 j3 j4 j5 j6 j7 j8 j9 ka kb kc kd ke kf kg kh ki kj kk kl km kn ko kp kq kr ks kt ku kv kw kx ky kz k0 k6 k7 k8 k9 la lb lc ld lf lg lh li lj lk ll lm ln lo lp lq lr ls lv lw lx ly lz l0 l1 l3 l4 l5 l6 l7 l8 l9 oa ob oc od oe og oh oi oj ok ol om on oo op oq os ot ou ov ow ox oy oz o0 o1 o2 o3 o4 o5 o6 o7 o8 o9 qa qb qc qd qe qf qg qh qi qj qk ql qm qn qo qp qq qr:Value) :
  Code.wp Tryz.prog (Ju 7 (Tryz.f13.body.getD .ret)) (bodyPost Tryz.prog Tryz.f13 (Uk F g R.1 R.2 w)) ⟨#[.pointer (some ⟨g,0,none⟩),y1,.int .i64 step,.int .i64 now,y4,y5,y6,y7,y8,y9,.int .i64 0,.pointer (some ⟨br,0,none⟩),jd,je,jf,jg,jh,ji,jj,jk,jl,jm,jn,jo,jp,jq,jr,js,jt,ju,jv,jw,jx,jy,jz,j0,j1,j2,j3,j4,j5,j6,j7,j8,j9,ka,kb,kc,kd,ke,kf,kg,kh,ki,kj,kk,kl,km,kn,ko,kp,kq,kr,ks,kt,ku,kv,kw,kx,ky,kz,k0,k6,k7,k8,k9,la,lb,lc,ld,lf,lg,lh,li,lj,lk,ll,lm,ln,lo,lp,lq,lr,ls,lv,lw,lx,ly,lz,l0,l1,l3,l4,l5,l6,l7,l8,l9,oa,ob,oc,od,oe,og,oh,oi,oj,ok,ol,om,on,oo,op,oq,os,ot,ou,ov,ow,ox,oy,oz,o0,o1,o2,o3,o4,o5,o6,o7,o8,o9,qa,qb,qc,qd,qe,qf,qg,qh,qi,qj,qk,ql,qm,qn,qo,qp,qq,qr],[]⟩ W:=by
 subst hR;change Code.wp _ (Code.seq (Code.seq (Code.region 7 _ _) _) _) _ _ _;obtain⟨b,m,hra,hrn,hlm,hFb,hbg,t5,t30,⟨v5,c5⟩,f5,-,hby⟩:=hC.last hne;have c55:W.cell? ⟨g,55,none⟩=some (.slice (some ⟨b,0,none⟩) (m+1) z.rc):=by
  rw[hC.blk.cell 55,<-hra,<-hrn];rfl
 have hm9:m+1<=1000000:=by omega
 have hwr:IntKind.i64.wrap (((m:Int)+1) - 1)=(m:Int):=by rw[IntWalk.i64_in _ (by omega)];omega
 have hwr2:IntKind.i64.wrap (m:Int)=(m:Int):=IntWalk.i64_in _ (by omega);have hm0:(0:Int)<=(m:Int):=by omega
 have hm1:(m:Int)<(m:Int)+1:=by omega
 have hbr:br≠b:=fun e=>by
  subst e;exact absurd (P2 bR hby) (by decide)
 have hbrg:br≠g:=fun e=>by
  subst e;exact absurd (bR.ne_ hC.blk (by decide)) (fun h=>h rfl)
 have HC:=Zh hC;have HBR:=Zh bR;have HR:=Zh hr;have H5:=Zh (And.intro t5 (And.intro t30 (And.intro c5 f5)));clear hC bR hr t5 t30 c5 f5
 go_upto_region 9 with fail;go_region;obtain⟨W1,hW1⟩:∃V,V=W.drew:=⟨_,rfl⟩;rw[<-hW1];have hb1:Below W.heap.size W W1:=by rw[hW1];exact(Below.refl _ _).drew
 have hs1:W1.heap.size=W.heap.size:=by rw[hW1];rfl
 have hr1:=HR.out.Ik (Touch.Aq hb1 (fun _=>False)) (fun _ _ h=>h);have ht1:=ht.Ay (Touch.Aq hb1 F);have hC1:=HC.out.below hb1;have bR1:=HBR.out.stays hb1;have hob:r.obj=d.f.obj:=congrArg Xo.obj HR.out.bare;have KT:=Zh (Age ⟨r,d.es,d.us⟩ W1 hr1.there hr1.le hr1.lu (by show r.obj.attr.gen<=_;rw[hob];exact hd.obj) hd.gens (hL.look ht1));have rR:rowOf W1 br 0 58=some r.vals.toArray:=bR1.row 0 58 (by rw[Aa.len];decide);have H5b:=Zh (show Ar W1 b (m*88+30) 58=true/\W1.cell? ⟨b,m*88+5,none⟩=some v5/\W1.frozen? ⟨b,m*88+5,none⟩=false from by rw[hW1];exact⟨H5.out.2.1,H5.out.2.2.1,H5.out.2.2.2⟩);have hbW:b<W1.heap.size:=hC1.lt b hFb;have HC1:=Zh hC1;have HBR1:=Zh bR1;have HT1:=Zh ht1;have HBare:=Zh hr1.bare;clear hW1 hb1 hr1 ht1 hC1 bR1 hob HC HBR HR H5 c55;go_wp2_with fail;refine KT.out.mono ?_
 rintro e W2 ⟨r2,rfl,hr2,hb2⟩;have t30:=Ej H5b.out.1 hb2;have c5:=(hb2.cell (p:=⟨b,m*88+5,none⟩) hbW).trans H5b.out.2.1;have f5:=(hb2.frozen (p:=⟨b,m*88+5,none⟩) hbW).trans H5b.out.2.2;have HR2:=Zh hr2;have HB2:=Zh hb2;clear hb2 hr2 rR KT
 go_upto_region 11 with fail;obtain⟨V1,hV1⟩:∃V,V=putsW (W2.setCell ⟨b,m*88+5,none⟩ (.int .i64 step)) b (m*88+30) r2.vals:=⟨_,rfl⟩;rw[<-hV1];have hdd:(⟨r.bare,d.es,d.us⟩:Dd)=d:=by rw[HBare.out]
 have hwW:w.heap.size<=W1.heap.size:=HT1.out.size;have hr2:Ib W2 (fun k=>w.heap.size<=k) r2 (Km d):=by
  have h:=HR2.out.mono (G:=fun k=>w.heap.size<=k) (fun k (hk:W1.heap.size<=k)=>Nat.le_trans hwW hk);rw[hdd]at h;exact h
 obtain⟨⟨l2,hC3⟩,hT3⟩:=(HC1.out.below HB2.out).Aqc hra hlm r2 (Km d) hr2 step hV1;have hTV1:Touch F w V1:=(HT1.out.Ay (Touch.Aq HB2.out F)).Ay (hT3.mono fun k _ hk=>by subst hk;exact hFb);have hs3:=hT3.size;have hs2:=HB2.out.size;have bR3:=(HBR1.out.stays HB2.out).Ak hT3 hbr;have jc:V1.cell? ⟨g,49,none⟩=some (.bool z.busy):=hC3.blk.cell 49;have fr1:=hC3.blk.frozen;have HC3:=Zh hC3;have HTV1:=Zh hTV1;have HBR3:=Zh bR3;clear hV1 hdd hr2 hC3 hT3 hTV1 bR3 t30 c5 f5
 go_upto_region 12 with fail;obtain⟨V2,hV2⟩:∃V,V=V1.setCell ⟨g,49,none⟩ (.bool false):=⟨_,rfl⟩;rw[<-hV2];have hT4:Touch (fun k=>k=g) V1 V2:=by rw[hV2];exact(Touch.refl (fun k=>k=g) V1).setCell (p:=⟨g,49,none⟩) (.inl rfl) _
 have hb4:=HC3.out.blk.Be 49 (.bool false);rw[Zc,<-hV2]at hb4;have i3:=HC3.out.is;obtain⟨c1,hc1⟩:∃x,x=({ c with recs:=Dp c.recs step (Km d),busy:=false }:ClD):=⟨_,rfl⟩;obtain⟨z1,hz1⟩:∃x,x=({ z with busy:=false }:Di):=⟨_,rfl⟩;obtain⟨G,hGd⟩:∃G:Nat->Prop,G=fun k=>F k\/(w.heap.size<=k/\k<W2.heap.size):=⟨_,rfl⟩
 have hC4:=HC3.out.own hT4 hb4 (c':={ c with recs:=Dp c.recs step (Km d),busy:=false }) ⟨i3.id,i3.self,i3.server,i3.ps,i3.now,rfl,i3.sent,i3.due,i3.made⟩ rfl rfl rfl rfl rfl rfl rfl rfl;rw[<-hc1,<-hz1,<-hGd]at hC4;have bR4:=HBR3.out.Ak hT4 hbrg;have hTV2:Touch F w V2:=HTV1.out.Ay (hT4.mono fun k _ hk=>by subst hk;exact HC1.out.fg);have hGF:∀k,G k->F k\/w.heap.size<=k:=fun k hk=>by
  rw[hGd]at hk;exact hk.imp id fun h=>h.1
 have hGg:G g:=by rw[hGd];exact .inl HC1.out.fg
 have hs4:=hT4.size;have hL4:Ry G V2:=by
  obtain⟨w0,e1,e2,e3⟩:=hL;refine⟨w0,e1,e2.trans (hTV2.below (fun k _ hk=>e3 k hk) e2.size),fun k hk=>?_⟩
  rw[hGd]at hk;exact hk.elim (e3 k) fun h=>Nat.le_trans e2.size h.1
 have hG4:Ds c1:=by
  rw[hc1];exact⟨hG.len,hG.ps,hG.parts,fun h=>(by cases h),by show c.made=((Dp c.recs step (Km d)).length:Nat);rw[Iz];exact hG.made⟩
 have hrl4:c1.recs.length<=1000000:=by rw[hc1];show (Dp _ _ _).length<=_;rw[Iz];exact hrl
 have hst:r.status=d.f.status:=congrArg Xo.status HBare.out;have hfh:r.fh=d.f.fh:=congrArg Xo.fh HBare.out;have hob:r.obj=d.f.obj:=congrArg Xo.obj HBare.out;have a0:V2.cell? ⟨br,0,none⟩=some (.int .i64 d.f.status):=by rw[<-hst];exact bR4.cell 0
 have a1:V2.cell? ⟨br,1,none⟩=some (.string (bs d.f.fh)):=by rw[<-hfh];exact bR4.cell 1
 have a2:V2.cell? ⟨br,2,none⟩=some (.bool d.f.obj.is):=by rw[<-hob];exact bR4.cell 2
 have a10:V2.cell? ⟨br,10,none⟩=some (.int .i64 d.f.obj.attr.gen):=by rw[<-hob];exact bR4.cell 10
 have hnow1:z1.now=c.now:=by rw[hz1];exact HC1.out.is.now
 have hps1:∀i,c1.at_ i=c.at_ i:=fun i=>by rw[hc1];rfl
 have HQ:=Zh (show c.Ao1 d step now=if d.f.status≠0 then ({ c1 with parts:=[] },[]) else (if c.now.put≠-1/\d.f.fh≠[]/\d.f.obj.is=true then c1.Kv c.now.put { c.at_ c.now.put with handle:=d.f.fh,gen:=d.f.obj.attr.gen } else c1).next step now from by rw[hc1];rfl);have HC4:=Zh hC4;have HT4:=Zh hTV2;have hgn:=HC4.out.blk;have HCg:=Zh HC1.out.fg;have HPN:=Zh (show c.now.put=-1\/(0<=c.now.put/\c.now.put<4) from (hG.now hbu).put);clear hV2 hT4 hb4 i3 hc1 hz1 hGd hC4 bR4 hTV2 hst hfh hob jc fr1 HC3 HTV1 HBR3 HR2 HB2 HC1 HBR1 HT1 HBare H5b;by_cases hs:d.f.status=0
 case neg=>
  obtain⟨V3,hcl,hTp,hTG⟩:=HC4.out.Ai6;have c19:V2.cell? ⟨g,19,none⟩=some (.slice z1.ta z1.tn z1.tc):=hgn.cell 19;have hng:¬Gb V2 [91] g:=fun h=>absurd (P2 hgn h) (by decide)
  have hb3:=hgn.Ak hTp hng;have d19:V3.cell? ⟨g,19,none⟩=some (.slice z1.ta z1.tn z1.tc):=hb3.cell 19;have fr3:=hb3.frozen;have HP:=Zh (And.intro hTp hTG);clear hng hb3 hTp hTG hgn;go_wp2;go_ret;rw[HQ.out,if_pos hs];have h5:=HC4.out.dropped HP.out.1 rfl;refine⟨_,rfl,As.none_,⟨G,_,_,h5,hGF⟩,HT4.out.trans (HP.out.2.setCell (p:=⟨g,19,none⟩) (.inl hGg) _) fun k hk hg=>?_⟩
  rcases hGF k hg with h|h
  ·exact h
  ·omega
 have HQ2:=Zh (HQ.out.trans (if_neg (by simpa using hs)));rw[hs]at a0;have c46:V2.cell? ⟨g,46,none⟩=some (.int .i64 c.now.put):=by rw[hgn.cell 46,<-hnow1];rfl
 clear hs HQ
 go_upto_region 16 with fail;obtain⟨cb,hcb⟩:∃x,x=decide (c.now.put≠-1/\d.f.fh≠[]/\d.f.obj.is=true):=⟨_,rfl⟩
 go_cut [129] from 114 to 128 (fun v wx=>v=.bool cb/\wx=V2)
 case first=>
  by_cases hp:c.now.put=-1
  ·rw[hp]at c46
   clear hgn;go_wp2;go_meet
   case rel=>exact⟨by rw[hcb,decide_eq_false (fun h=>h.1 hp)],rfl⟩
  ·have hpb:(c.now.put != -1)=true:=by simpa using hp
   by_cases hf:d.f.fh=[]
   ·rw[hf]at a1
    clear hgn;go_wp2;go_meet
    case rel=>exact⟨by rw[hcb,decide_eq_false (fun h=>h.2.1 hf)],rfl⟩
   ·have hfe:d.f.fh.isEmpty=false:=by simpa using hf
    have hcb2:cb=d.f.obj.is:=by
     rw[hcb];cases hi:d.f.obj.is
     ·exact decide_eq_false (fun h=>by cases h.2.2)
     ·exact decide_eq_true ⟨hp,hf,rfl⟩
    rw[<-hcb2]at a2;clear hgn hcb2 hcb;go_wp2;go_meet
    case rel=>exact⟨rfl,rfl⟩
 case rest=>
 obtain⟨rfl,hw⟩:=hcut;have hw2:=hw.symm;clear hw;subst hw2
 go_upto_if 129 with fail
 go_cut [] from 130 to 155 (fun wx=>∃z3,D3 G wx g (if c.now.put≠-1/\d.f.fh≠[]/\d.f.obj.is=true then c1.Kv c.now.put { c.at_ c.now.put with handle:=d.f.fh,gen:=d.f.obj.attr.gen } else c1) z3 l2/\Touch (fun k=>k=g) V2 wx)
 case first=>
  cases cb
  case false=>
   have hno:=of_decide_eq_false hcb.symm;clear hgn hcb;go_wp2;go_meet
   case rel=>rw[if_neg hno];exact⟨z1,HC4.out,Touch.refl _ _⟩
  case true=>
   have hyes:=of_decide_eq_true hcb.symm;obtain⟨n,hn,hn4⟩:∃n:Nat,c.now.put=n/\n<4:=by
    rcases HPN.out with h|h
    ·exact absurd h hyes.1
    ·exact⟨c.now.put.toNat,by omega,by omega⟩
   rw[hn]at c46;obtain⟨q0,q1,-,-⟩:=Hm z1 hn4;have e0:V2.cell? ⟨g,3+n*4,none⟩=some (.string (bs (z1.place n).handle)):=(hgn.cell _).trans q0;have e1:V2.cell? ⟨g,3+n*4+1,none⟩=some (.int .i64 (z1.place n).gen):=(hgn.cell _).trans q1;have fr2:=hgn.frozen;have tp0:=hgn.Ar (3+n*4) 1 (by show 3+n*4+1<=56;omega);have hn0:(0:Int)<=(n:Int):=by omega
   have hn1:(n:Int)<4:=by omega
   have hIf:=Zh (show (if c.now.put≠-1/\d.f.fh≠[]/\d.f.obj.is=true then c1.Kv c.now.put { c.at_ c.now.put with handle:=d.f.fh,gen:=d.f.obj.attr.gen } else c1)=c1.Kv (n:Int) { z1.place n with handle:=d.f.fh,gen:=d.f.obj.attr.gen } from by
    rw[if_pos hyes,hn,<-hps1,HC4.out.is.at_ hn4])
   clear hgn q0 q1 hyes hn hcb;go_wp2;go_region;go_wp2;go_meet
   case rel=>
    rw[hIf.out];have ht5:=(((Touch.refl (fun k=>k=g) V2).setCell (p:=⟨g,3+n*4,none⟩) (.inl rfl) (.string (bs d.f.fh))).setCell (p:=⟨g,3+n*4+1,none⟩) (.inl rfl) (.int .i64 d.f.obj.attr.gen)).drew;have hb5:=((HC4.out.blk.Be (3+n*4) (.string (bs d.f.fh))).Be (3+n*4+1) (.int .i64 d.f.obj.attr.gen)).drew;rw[Uv z1 hn4]at hb5;obtain⟨k1,k2,k2c,k3,k4,k5⟩:=Kr z1 hn4 { z1.place n with handle:=d.f.fh,gen:=d.f.obj.attr.gen };exact⟨_,HC4.out.own ht5 hb5 (HC4.out.is.Cq hn4 _) k1 k2 k2c rfl k3 k4 k5 rfl,ht5⟩
 case rest=>
 obtain⟨z3,hC5,hT5⟩:=hcut;obtain⟨c2,hc2⟩:∃x,x=(if c.now.put≠-1/\d.f.fh≠[]/\d.f.obj.is=true then c1.Kv c.now.put { c.at_ c.now.put with handle:=d.f.fh,gen:=d.f.obj.attr.gen } else c1):=⟨_,rfl⟩;rw[<-hc2]at hC5;have HQ3:=HQ2.out;rw[<-hc2]at HQ3;have hG5:Ds c2:=by
  rw[hc2];split
  ·exact hG4.Kv _ ⟨hd.obj,(by rw[<-hps1];exact(hG4.at_ _).at_),(by rw[<-hps1];exact(hG4.at_ _).bytes)⟩
  ·exact hG4
 have hrl5:c2.recs.length<=1000000:=by
  rw[hc2];split
  ·exact hrl4
  ·exact hrl4
 have hL5:Ry G wc:=by
  obtain⟨w0,e1,e2,e3⟩:=hL4;exact⟨w0,e1,e2.trans ((hT5.mono fun k _ hk=>by subst hk;exact hGg).below (fun k _ hk=>e3 k hk) e2.size),e3⟩
 have KN:=Zh (Th g G _ c2 z3 l2 hC5 hG5 hL5 hrl5 step now htm);have HT6:=Zh (HT4.out.trans hT5 fun k hk hg=>by subst hg;exact HCg.out);clear hC5 hT5 hc2 hgn a0 a1 a2 a10 c46;go_wp2_with fail;refine KN.out.mono ?_
 rintro e w6 h6;have h7:=h6.lift HT6.out hGF;rw[<-HQ3]at h7;obtain⟨v,rfl,h8⟩:=h7;go_wp2;go_ret;exact⟨v,rfl,h8⟩
theorem Ao0 {c:ClD}{x:B3}{step now:Int}(hb:c.busy=true)(hf:x.from_=c.server)(hs:¬step<1)(ht:Fo now=true)(h0:(Dc x.data).2=0)(h1:(Dc x.data).1.answer=true)(h2:(Dc x.data).1.xid=c.made)(h3:(Dc x.data).1.accept=0){d:Dd}(hd:Ok c.now.c.proc (Dc x.data).1.body=some d):c.take x step now=c.Ao1 d step now:=by
 unfold ClD.take ClD.Ao1;rw[if_neg (by rw[hb,ht];simp[hf,hs]),if_neg (by rw[h0,h1,h2,h3];simp)];simp only[hd];split
 ·rfl
 ·split<;>rfl
theorem Aji {c:ClD}{x:B3}{step now:Int}(hd:Ok c.now.c.proc (Dc x.data).1.body=none):c.take x step now=(c,[]):=by
 unfold ClD.take;split
 ·rfl
 ·split
  ·rfl
  ·simp only[hd]
def O1 (c:ClD)(x:B3)(step now:Int):Bool:=c.busy && (decide (x.from_=c.server) && (decide (1<=step) && Fo now))
def Uc (c:ClD)(m:Message)(er:Int):Bool:=decide (er=0) && (m.answer && (decide (m.xid=c.made) && decide (m.accept=0)))
theorem Al6 {c:ClD}{x:B3}{step now:Int}(h:O1 c x step now=false):c.take x step now=(c,[]):=by
 unfold ClD.take;rw[if_pos];unfold O1 at h;cases hb:c.busy
 ·exact .inl rfl
 ·rw[hb]at h
  by_cases h1:x.from_=c.server
  ·by_cases h2:1<=step
   ·exact .inr (.inr (.inr (by simpa[h1,h2] using h)))
   ·exact .inr (.inr (.inl (by omega)))
  ·exact .inr (.inl h1)
theorem Al5 {c:ClD}{x:B3}{step now:Int}(h:Uc c (Dc x.data).1 (Dc x.data).2=false):c.take x step now=(c,[]):=by
 unfold ClD.take;split
 ·rfl
 ·rw[if_pos]
  unfold Uc at h;by_cases h0:(Dc x.data).2=0
  ·cases h1:(Dc x.data).1.answer
   ·exact .inr (.inl rfl)
   ·by_cases h2:(Dc x.data).1.xid=c.made
    ·exact .inr (.inr (.inr (by simpa[h0,h1,h2] using h)))
    ·exact .inr (.inr (.inl h2))
  ·exact .inl h0
structure Rz (o:Option Dd) (z:Aa) (er:Int) (n:Nat) (W:World):Prop where
 no:o=none->er≠0
 yes:∀d,o=some d->er=0/\Ib W (fun b=>n<=b) z d
theorem Rz.below {o:Option Dd}{z:Aa}{er:Int}{n:Nat}{W W':World}(h:Rz o z er n W)(hb:Below W.heap.size W W'):Rz o z er n W':=
 ⟨h.no,fun d hd=>⟨(h.yes d hd).1,(h.yes d hd).2.Ik (Touch.Aq hb (fun _=>False)) (fun _ _ h=>h)⟩⟩
theorem Ary (p:Int)(hp:0<=p/\p<=21)(s:List UInt8)(n:Nat)(hl:s.length<=9223372036854775807)(w:World)(hn:n<=w.heap.size) :
  Calls Tryz.prog 44 #[.int .i64 p,.string (bs s)] w fun e w'=>∃z er,e=.returned (.tuple #[.agg (Aa.vals z).toArray,.int .i64 er])/\Rz (Ok p s) z er n w'/\Below w.heap.size w w':=by
 refine(Amc p hp s w hl).mono ?_
 intro e w' h;unfold Xe at h;cases ho:Ok p s with
 |none=>
  rw[ho]at h;obtain⟨rfl,hb⟩:=h;exact⟨Bt,14,rfl,⟨fun _=>by decide,fun d hd=>by cases hd⟩,hb⟩
 |some d=>
  rw[ho]at h;obtain⟨⟨z,rfl,h1,h2,h3⟩,hb⟩:=h;have hs:=Nw hl ho;refine⟨z,0,rfl,⟨fun h=>(by cases h),fun d' hd=>?_⟩,hb⟩
  cases hd
  exact⟨rfl,h1,h2.base (Nat.zero_le _),h3.base (Nat.zero_le _),fun k hk=>Nat.le_trans hn (h2.lt k hk).1,fun k hk=>Nat.le_trans hn (h3.lt k hk).1,Nat.le_trans hs.le (by decide),Nat.le_trans hs.lu (by decide)⟩
theorem Rz.put {o:Option Dd}{z:Aa}{er:Int}{n:Nat}{W:World}{b:Nat}{cs:List Value}(h:Rz o z er n W)(hb:Blk W b 51 cs)(vs:List Value):Rz o z er n (putsW W b 0 vs):=by
 have ht:Touch (Gb W [51]) W (putsW W b 0 vs):=((Touch.refl (fun k=>k=b) W).D2 (k:=b) (.inl rfl)).mono fun k _ hk=>by subst hk;exact Jw hb (by decide)
 exact⟨h.no,fun d hd=>⟨(h.yes d hd).1,by
  have r:=(h.yes d hd).2;exact⟨r.bare,r.es.tou ht (by decide),r.us.tou ht (by decide),r.ie,r.iu,r.le,r.lu⟩⟩⟩
theorem Blk.P7 {w:World}{C:Array Value}{T:TypeId}{cs:List Value}(hn:C.size=cs.length):Blk (putsW (w.alloc (.cells C T)) w.heap.size 0 cs) w.heap.size T cs:=by
 rw[Cj _ _ _ _ _ rfl hn];exact Blk.new w T cs
theorem Below.P7 {w:World}{C:Array Value}{T:TypeId}{cs:List Value}(hn:C.size=cs.length):Below w.heap.size w (putsW (w.alloc (.cells C T)) w.heap.size 0 cs):=by
 rw[Cj _ _ _ _ _ rfl hn];exact(Below.refl _ _).alloc (Nat.le_refl _) _
theorem Below.P8 {B:Nat}{a w:World}{b o:Nat}{cs:List Value}(hb:B<=b)(h:Below B a w):Below B a (putsW w b o cs):=by
 rw[B9];exact Below.setCells hb _ _ _ h
theorem Agj (F:Nat->Prop)(w:World)(g:Nat)(c:ClD)(z:Di)(l:List Bz)(hC:D3 F w g c z l)(hG:Ds c)(hL:Ry F w)(hrl:c.recs.length<=1000000)(hbr:c.busy=true->c.recs≠[])(x:B3)(step now:Int)(hbl:(Dc x.data).1.body.length<=9223372036854775807) :
  Calls Tryz.prog 13 #[.pointer (some ⟨g,0,none⟩),.agg x.vals.toArray,.int .i64 step,.int .i64 now] w (Uk F g (c.take x step now).1 (c.take x step now).2 w):=by
 have bX:=Blk.new w 40 x.vals;have hB:Below w.heap.size w (w.alloc (.cells x.vals.toArray 40)):=(Below.refl _ _).alloc (Nat.le_refl _) _;obtain⟨w1,hw1⟩:∃V,V=w.alloc (.cells x.vals.toArray 40):=⟨_,rfl⟩;rw[<-hw1]at bX hB;have hC1:=hC.below hB;have c49:w1.cell? ⟨g,49,none⟩=some (.bool c.busy):=by rw[hC1.blk.cell 49,<-hC.is.busy];rfl
 have c2:w1.cell? ⟨g,2,none⟩=some (.int .i64 c.server):=by rw[hC1.blk.cell 2,<-hC.is.server];rfl
 have x0:w1.cell? ⟨w.heap.size,0,none⟩=some (.int .i64 x.from_):=bX.cell 0;have HC:=Zh hC;have HB:=Zh hB;have HX:=Zh bX;have HW1:=Zh hw1;clear hC hB bX hC1 hw1;go_enter Tryz.func13,Tryz.ntmps13
 go_upto_region 1 with fail;change Code.wp _ _ _ _ (w.alloc (.cells x.vals.toArray 40));rw[<-HW1.out];obtain⟨m1,hm1⟩:∃b,b=O1 c x step now:=⟨_,rfl⟩
 go_cut [39] from 13 to 38 (fun v wx=>v=.bool (!m1)/\Below w1.heap.size w1 wx)
 case first=>
  have QT:∀W,Calls Tryz.prog 34 #[.int .i64 now] W fun e w'=>e=.returned (.bool (Fo now))/\∃n,w'=W.drewN n:=fun W=>(Vb now W).mono (by rintro e w' ⟨rfl,rfl⟩;exact⟨rfl,0,rfl⟩)
  cases hbu:c.busy
  case false=>
   rw[hbu]at c49;have HQ:=Zh (show m1=false by rw[hm1];unfold O1;rw[hbu];rfl);clear hm1 QT;go_quiet (fail)
   all_goals
    go_wp2;go_meet
    case rel=>exact⟨by rw[HQ.out];rfl,bdN (Below.refl _ _) _⟩
  case true=>
   rw[hbu]at c49;by_cases hfr:x.from_=c.server
   case neg=>
    have hfb:(x.from_ != c.server)=true:=by simpa using hfr
    have HQ:=Zh (show m1=false by rw[hm1];unfold O1;rw[hbu,decide_eq_false hfr];rfl);clear hm1 QT hfr;go_quiet (fail)
    all_goals
     go_wp2;go_meet
     case rel=>exact⟨by rw[HQ.out];rfl,bdN (Below.refl _ _) _⟩
   case pos=>
    rw[hfr]at x0;by_cases hst:step<1
    case pos=>
     have HQ:=Zh (show m1=false by rw[hm1];unfold O1;rw[hbu,decide_eq_true hfr,decide_eq_false (by omega)];rfl);clear hm1 QT hfr;go_quiet (fail)
     all_goals
      go_wp2;go_meet
      case rel=>exact⟨by rw[HQ.out];rfl,bdN (Below.refl _ _) _⟩
    case neg=>
     have HQ:=Zh (show m1=Fo now by rw[hm1];unfold O1;rw[hbu,decide_eq_true hfr,decide_eq_true (by omega)];rfl);generalize Fo now=tm at *;clear hm1 hfr;go_quiet (first
      |(go_at_call 34;refine Calls.quiet_of (QT _))
      |fail)
     all_goals
      go_wp2;go_meet
      case rel=>exact⟨by rw[HQ.out],bdN (Below.refl _ _) _⟩
 case rest=>
 obtain⟨rfl,hb1⟩:=hcut;have HQ1:=Zh hm1;have HBc:=Zh (Ad HB.out hb1);have x2:wc.cell? ⟨w.heap.size,2,none⟩=some (.string (bs x.data)):=(HX.out.stays hb1).cell 2;have hlc:w.heap.size<wc.heap.size:=(HX.out.stays hb1).lt;clear hm1 c49 c2 x0 hb1 HB HX HW1;cases m1
 case false=>
  go_wp2;go_ret;rw[Al6 HQ1.out.symm];exact⟨_,rfl,As.none_,⟨F,z,l,HC.out.below HBc.out,fun k hk=>.inl hk⟩,Touch.Aq HBc.out _⟩
 have hmt:c.busy=true/\x.from_=c.server/\1<=step/\Fo now=true:=by
  have h:=HQ1.out.symm;unfold O1 at h
  simpa using h
 have HMT:=Zh hmt;clear hmt HQ1;go_wp2_with fail;refine(Anm x.data _).mono ?_
 rintro e w2 ⟨rfl,hb2⟩;have HB2:=Zh (Ad HBc.out hb2);have hs2:w.heap.size<w2.heap.size:=Nat.lt_of_lt_of_le hlc hb2.size;have HQ2:=Zh (fun (h:Uc c (Dc x.data).1 (Dc x.data).2=false)=>Al5 (step:=step) (now:=now) h);have HQ3:=Zh (fun (h0:(Dc x.data).2=0) (h1:(Dc x.data).1.answer=true) (h2:(Dc x.data).1.xid=c.made) (h3:(Dc x.data).1.accept=0) (d:Dd) (hd:Ok c.now.c.proc (Dc x.data).1.body=some d)=>Ao0 HMT.out.1 HMT.out.2.1 (show ¬step<1 by have:=HMT.out.2.2.1;omega) HMT.out.2.2.2 h0 h1 h2 h3 hd);have HQ4:=Zh (fun (hd:Ok c.now.c.proc (Dc x.data).1.body=none)=>Aji (step:=step) (now:=now) hd);clear x2 hb2 HBc;generalize Dc x.data=q at *;obtain⟨m,er⟩:=q;simp only at HQ2 HQ3 HQ4 hbl
 have bM:=Blk.new w2 81 m.vals;have hb3:Below w2.heap.size w2 (w2.alloc (.cells m.vals.toArray 81)):=(Below.refl _ _).alloc (Nat.le_refl _) _;obtain⟨w3,hw3⟩:∃V,V=w2.alloc (.cells m.vals.toArray 81):=⟨_,rfl⟩;rw[<-hw3]at bM hb3;have HB3:=Zh (Ad HB2.out hb3);have HW3:=Zh hw3;have HM:=Zh bM;have hl3:w2.heap.size<w3.heap.size:=bM.lt;have hC3:=HC.out.below HB3.out;have a54:w3.cell? ⟨g,54,none⟩=some (.int .i64 c.made):=by rw[hC3.blk.cell 54,<-hC3.is.made];rfl
 have m0:w3.cell? ⟨w2.heap.size,0,none⟩=some (.int .i64 m.xid):=bM.cell 0;have m1':w3.cell? ⟨w2.heap.size,1,none⟩=some (.bool m.answer):=bM.cell 1;have m5:w3.cell? ⟨w2.heap.size,8,none⟩=some (.int .i64 m.accept):=bM.cell 8;clear hw3 bM hb3 hC3 HB2;rw[show Rp (m,er)=.tuple #[.agg m.vals.toArray,.int .i64 er] from rfl]
 go_upto_region 4 with fail;change Code.wp _ _ _ _ (w2.alloc (.cells m.vals.toArray 81));rw[<-HW3.out];obtain⟨m2,hm2⟩:∃b,b=Uc c m er:=⟨_,rfl⟩
 go_cut [66] from 46 to 65 (fun v wx=>v=.bool (!m2)/\Below w3.heap.size w3 wx)
 case first=>
  by_cases h0:er=0
  case neg=>
   have h0b:(er != 0)=true:=by simpa using h0
   have HQ:=Zh (show m2=false by rw[hm2];unfold Uc;rw[decide_eq_false h0];rfl);clear hm2 h0;go_quiet (fail)
   all_goals
    go_wp2;go_meet
    case rel=>exact⟨by rw[HQ.out];rfl,bdN (Below.refl _ _) _⟩
  case pos=>
   subst h0;cases hma:m.answer
   case false=>
    rw[hma]at m1';have HQ:=Zh (show m2=false by rw[hm2];unfold Uc;rw[hma];rfl);clear hm2;go_quiet (fail)
    all_goals
     go_wp2;go_meet
     case rel=>exact⟨by rw[HQ.out];rfl,bdN (Below.refl _ _) _⟩
   case true=>
    rw[hma]at m1';by_cases hxi:m.xid=c.made
    case neg=>
     have hxb:(m.xid != c.made)=true:=by simpa using hxi
     have HQ:=Zh (show m2=false by rw[hm2];unfold Uc;rw[hma,decide_eq_false hxi];rfl);clear hm2 hxi;go_quiet (fail)
     all_goals
      go_wp2;go_meet
      case rel=>exact⟨by rw[HQ.out];rfl,bdN (Below.refl _ _) _⟩
    case pos=>
     rw[hxi]at m0;have HQ:=Zh (show (!m2)=(m.accept != 0) by rw[hm2];unfold Uc;rw[hma,decide_eq_true hxi];by_cases h:m.accept=0<;>simp[h]);clear hm2 hxi;go_quiet (fail)
     all_goals
      go_wp2;go_meet
      case rel=>exact⟨by rw[HQ.out],bdN (Below.refl _ _) _⟩
 case rest=>
 obtain⟨rfl,hb4⟩:=hcut;have HQ5:=Zh hm2;have HB4:=Zh (Ad HB3.out hb4);have hM4:=HM.out.stays hb4;clear hm2 a54 m0 m1' m5 HB3 HM HW3;cases m2
 case false=>
  go_wp2;go_ret;rw[HQ2.out HQ5.out.symm];exact⟨_,rfl,As.none_,⟨F,z,l,HC.out.below HB4.out,fun k hk=>.inl hk⟩,Touch.Aq HB4.out _⟩
 have hans:er=0/\m.answer=true/\m.xid=c.made/\m.accept=0:=by
  have h:=HQ5.out.symm;unfold Uc at h
  simpa using h
 obtain⟨rfl,ha1,ha2,ha3⟩:=hans;have HT:=Zh (HQ3.out rfl ha1 ha2 ha3);clear ha1 ha2 ha3 HQ5 HQ3 HQ2;have hpr:=(hG.now HMT.out.1).proc;have hC4:=HC.out.below HB4.out;have a20:wc.cell? ⟨g,20,none⟩=some (.int .i64 c.now.c.proc):=by rw[hC4.blk.cell 20,<-hC4.is.now];rfl
 have m9:wc.cell? ⟨w2.heap.size,9,none⟩=some (.string (bs m.body)):=hM4.cell 9;have hg4:g<wc.heap.size:=hC4.blk.lt;have hw4:w2.heap.size<wc.heap.size:=hM4.lt;have hwn:w.heap.size<=wc.heap.size:=HB4.out.size;have KG:=Zh (fun W (hn:w.heap.size<=W.heap.size)=>Ary c.now.c.proc hpr m.body w.heap.size hbl W hn);have HS:=Zh (fun (V:World) (h:Below wc.heap.size wc V)=>(show V.cell? ⟨g,20,none⟩=some (.int .i64 c.now.c.proc)/\V.cell? ⟨w2.heap.size,9,none⟩=some (.string (bs m.body)) from ⟨(h.cell (p:=⟨g,20,none⟩) hg4).trans a20,(h.cell (p:=⟨w2.heap.size,9,none⟩) hw4).trans m9⟩));clear hC4 a20 m9 hM4;generalize c.now.c.proc=pr at *
 go_upto_region 6 with fail
 go_cut [10,11] from 67 to 78 (fun ja jb wx=>∃br z er,ja=.int .i64 er/\jb=.pointer (some ⟨br,0,none⟩)/\Blk wx br 51 (Aa.vals z)/\Rz (Ok pr m.body) z er w.heap.size wx/\Below wc.heap.size wc wx)
 case first=>
  have hS0:=HS.out wc.drew (Below.refl _ _).drew;go_region_held3 (fun V=>V.cell? ⟨g,20,none⟩=some (.int .i64 pr)/\V.cell? ⟨w2.heap.size,9,none⟩=some (.string (bs m.body))) (first|with_reducible assumption|exact HS.out _ ((Below.refl _ _).alloc (Nat.le_refl _) _).drew|exact HS.out _ (hb6.alloc hb6.size _)|exact HS.out _ (Below.P8 (Nat.le_refl _) hb6)|exact HS.out _ (Below.P8 hb6.size (hb6.alloc hb6.size _))) (first
   |(go_at_call 44;refine(KG.out _ ?_).mono ?_;(first|exact hwn|(simp;omega));rintro e w5 ⟨z5,er5,rfl,hG5,hb5⟩;have hb6:Below wc.heap.size wc w5:=(by first|exact Ad (Below.refl _ _).drew hb5|exact Ad ((Below.refl _ _).alloc (Nat.le_refl _) _).drew hb5);have hS5:=HS.out w5 hb6;first|(have hZ5:Blk w5 wc.heap.size 51 Bt.vals:=(Blk.new wc 51 Bt.vals).drew.stays hb5;have ht5:Ar w5 wc.heap.size 0 58=true:=hZ5.Ar 0 58 (Nat.le_refl _))|skip)
   |fail)
  all_goals clear hS5
  all_goals clear hb5
  all_goals go_wp2
  all_goals go_meet
  case rel=>exact⟨_,z5,er5,rfl,rfl,Blk.P7 rfl,hG5.below (Below.P7 rfl),Ad hb6 (Below.P7 rfl)⟩
  case rel=>
   have q1:=hZ5.D2 0 z5.vals;rw[Lg]at q1;exact⟨_,z5,er5,rfl,rfl,q1,hG5.put hZ5 _,Below.P8 (Nat.le_refl _) hb6⟩
 case rest=>
 obtain⟨br,rz,er,rfl,rfl,bR,hGR,hb7⟩:=hcut;have hB7:=Ad HB4.out hb7;have hC7:=HC.out.below hB7;clear hb7 hb4 hg4 hw4 hwn KG HS;cases ho:Ok pr m.body with
 |none=>
  have hneb:(er != 0)=true:=by simpa using hGR.no ho
  have HF:=Zh (And.intro hB7 hC7);have HQ:=Zh (HQ4.out ho);clear hGR hB7 hC7;go_wp2;go_ret;rw[HQ.out];exact⟨_,rfl,As.none_,⟨F,z,l,HF.out.2,fun k hk=>.inl hk⟩,Touch.Aq HF.out.1 _⟩
 |some d=>
  obtain⟨rfl,hr⟩:=hGR.yes d ho;have hbu:=HMT.out.1;have htm:=HMT.out.2.2.2;apply_assumption;exact Ajn F w _ g br c z l step now rz d _ (HT.out d ho) hC7 (Touch.Aq hB7 F) bR hr (Nw hbl ho) hG hL hrl hbu (hbr hbu) htm _ _ _ _ _ _ _ _ _ _ _ _ _ _ _ _ _ _ _ _ _ _ _ _ _ _ _ _ _ _ _ _ _ _ _ _ _ _ _ _ _ _ _ _ _ _ _ _ _ _ _ _ _ _ _ _ _ _ _ _ _ _ _ _ _ _ _ _ _ _ _ _ _ _ _ _ _ _ _ _ _ _ _ _ _ _ _ _ _ _ _ _ _ _ _ _ _ _ _ _ _ _ _ _ _ _ _ _ _ _ _ _ _ _ _ _ _ _ _ _ _ _ _ _ _ _ _ _ _ _ _ _ _ _ _ _ _ _ _ _ _ _ _ _ _ _ _ _ _ _ _ _ _ _ _
end
section
attribute [local go_sem ↓] S9 Y1 F1 D6 Y9
attribute [local go_sem] Bv Bj Cc Bu Cd Cj Cm C2 Bc Az B7 C5 Bi C6 Bp Dt C8 C7 Dz D5 Cy
attribute [local go_sem low] Cr
attribute [local go_sem] Call.len Gc.len C1.len D0 O9 P3 Kz List.cons_append List.nil_append
theorem T3 (w:World)(T:TypeId)(b:Nat)(x:Gc)(hb:b=w.heap.size):putsW (w.alloc (.cells #[.string ⟨#[]⟩,.int .i64 0,.int .i64 0,.string ⟨#[]⟩] T)) b 0 x.vals=w.alloc (.cells x.vals.toArray T):=Cj w _ T b x.vals hb rfl
attribute [local go_sem] T3
theorem Y6 (z:Co){n:Nat}(hn:n<4):(z.vals.drop (3+n*4)).take 4=(z.place n).vals:=by
 rcases (show n=0\/n=1\/n=2\/n=3 by omega) with rfl|rfl|rfl|rfl
 all_goals exact rfl
theorem Qs (z:Co){n:Nat}(hn:n<4)(a:Int)(b:List UInt8):(z.vals.set (3+n*4+2) (.int .i64 a)).set (3+n*4+3) (.string (bs b))=(z.Cq n { z.place n with at_:=a,bytes:=b }).vals:=by
 rcases (show n=0\/n=1\/n=2\/n=3 by omega) with rfl|rfl|rfl|rfl
 all_goals exact rfl
theorem Ac3 {o:Int}{t:List UInt8}(h0:0<=o)(h1:o<=9223372036854775807)(ht:t.length<=256){d:Nat}(hd:d<4):L0 ⟨Xv [] o t,d,0,-1⟩:=by
 have h:=Aje (h:=[]) (Nat.zero_le _) h0 ht;unfold Ev at h;rw[if_neg (by show ¬Ij 7=false;decide)]at h;split at h
 ·next h2=>exact⟨by show (0:Int)<=7/\(7:Int)<=21;decide,h2.1,⟨h1,By.2,By.3,By.4,By.5⟩,by show (0:Int)<=(d:Int)/\(d:Int)<4;omega,by show (0:Int)<=0/\(0:Int)<4;decide,by show (-1:Int)<4;decide,By.set⟩
 ·cases h
def Aot (F:Nat->Prop)(g n m:Nat)(w:World)(e:Ending)(w':World):Prop:=e=.returned (.tuple #[])/\Ex F g n m w w'
theorem Ahv (F:Nat->Prop)(w:World)(g n m:Nat)(hI:FIs F w g n m)(hm:m<=900000)(i:Nat)(hi:i<4) :
  Calls Tryz.prog 40 #[.pointer (some ⟨g,0,none⟩),.int .i64 (i:Int)] w (Aot F g n (m+1) w):=by
 obtain⟨z,t,l,hA,hG⟩:=hI;obtain⟨p,hp⟩:∃p,p=z.place i:=⟨_,rfl⟩;have rP:rowOf w g (3+i*4) 4=some p.vals.toArray:=by
  have h:=hA.blk.row (3+i*4) 4 (by rw[Co.len];omega);rw[Y6 z hi,<-hp]at h;exact h
 have hpg:=hG.ps i;rw[<-hp]at hpg;have bP:=Blk.new w 96 p.vals;have hb1:Below w.heap.size w (w.alloc (.cells p.vals.toArray 96)):=(Below.refl _ _).alloc (Nat.le_refl _) _;obtain⟨w1,hw1⟩:∃V,V=w.alloc (.cells p.vals.toArray 96):=⟨_,rfl⟩;rw[<-hw1]at bP hb1;have hA1:=hA.below hb1;have HW1:=Zh hw1;have p2:w1.cell? ⟨w.heap.size,2,none⟩=some (.int .i64 p.at_):=bP.cell 2;have p3:w1.cell? ⟨w.heap.size,3,none⟩=some (.string (bs p.bytes)):=bP.cell 3;have hg1:g<w1.heap.size:=hA1.blk.lt;have c19:w1.cell? ⟨g,19,none⟩=some (.slice z.ta z.tn z.tc):=hA1.blk.cell 19;have hi0:(0:Int)<=(i:Int):=by omega
 have hi1:(i:Int)<4:=by omega
 have HA1:=Zh hA1;have HB1:=Zh hb1;have HG:=Zh hG;have HP:=Zh hp;have HPG:=Zh hpg;have HBP:=Zh bP;have HF:=Zh (And.intro hA.fg hA.lt);clear hw1 hA hA1 hb1 hG hp hpg bP;go_enter Tryz.func40,Tryz.ntmps40
 go_upto_region 1 with fail;change Code.wp _ _ _ _ (w.alloc (.cells p.vals.toArray 96));rw[<-HW1.out];by_cases he:p.bytes=[]
 ·rw[he]at p3
  clear he;go_wp2;have hE:Aot F g n (m+1) w (.returned (.tuple #[])) w1:=⟨rfl,⟨F,⟨z,t,l,HA1.out,⟨HG.out.ps,HG.out.parts,HG.out.now,HG.out.recs,Nat.le_succ_of_le HG.out.todo,HG.out.busy,HG.out.id,HG.out.uid,HG.out.gid⟩⟩,fun k hk=>.inl hk⟩,Touch.Aq HB1.out _⟩
  first|(go_end0;exact hE)|exact bodyPost_ret (results_none Tryz.results40 _ _ _) rfl hE
 have hie:p.bytes.isEmpty=false:=by simpa using he
 have HAp:=Zh (show ∃v' w',(Builtin.append_ #[98,98] 98 #[.slice z.ta z.tn z.tc,.slice (some ⟨w1.heap.size,0,none⟩) 1 1]).run Tryz.prog ((w1.alloc (.cells #[.int .i64 7,.string ⟨#[]⟩,.string ⟨#[]⟩,.string ⟨#[]⟩,.string ⟨#[]⟩,.int .i64 p.at_,.int .i64 0,.int .i64 2,.string (bs p.bytes),.bool false,.int .i64 0,.bool false,.int .i64 0,.bool false,.int .i64 0,.bool false,.int .i64 0,.bool false,.int .i64 0,.bool false,.int .i64 0,.int .i64 0,.int .i64 0,.string ⟨#[]⟩,.int .i64 (i:Int),.int .i64 0,.int .i64 (-1)] 100)).drew)=.ok v' w'/\(∃A n cc,v'=.slice A n cc/\w'.cell? ⟨g,19,none⟩=some (.slice z.ta z.tn z.tc)/\w'.frozen? ⟨g,19,none⟩=false /\
   (FAt (fun k=>F k\/(w1.heap.size<=k/\k<w'.heap.size)) (w'.setCell ⟨g,19,none⟩ (.slice A n cc)) g { z with ta:=A,tn:=n,tc:=cc } (t++[⟨Xv [] p.at_ p.bytes,i,0,-1⟩]) l/\Touch F w1.drew (w'.setCell ⟨g,19,none⟩ (.slice A n cc)))/\(w'.cell? ⟨w.heap.size,2,none⟩=some (.int .i64 p.at_)/\w'.cell? ⟨w.heap.size,3,none⟩=some (.string (bs p.bytes)))/\((w'.setCell ⟨g,19,none⟩ (.slice A n cc)).cell? ⟨w.heap.size,2,none⟩=some (.int .i64 p.at_)/\(w'.setCell ⟨g,19,none⟩ (.slice A n cc)).cell? ⟨w.heap.size,3,none⟩=some (.string (bs p.bytes)))) from by
  have hd:FAt F w1.drew g z t l:=HA1.out.Ik (G:=fun _=>False) (w':=w1.drew) (Touch.refl _ _).drew (fun _ _ h=>h);obtain⟨v',w',h1,A,n',cc,h2,h3,h4,h5,h6,h7⟩:=hd.Arq [⟨Xv [] p.at_ p.bytes,i,0,-1⟩] (k:=1) rfl (cs:=#[.int .i64 7,.string ⟨#[]⟩,.string ⟨#[]⟩,.string ⟨#[]⟩,.string ⟨#[]⟩,.int .i64 p.at_,.int .i64 0,.int .i64 2,.string (bs p.bytes),.bool false,.int .i64 0,.bool false,.int .i64 0,.bool false,.int .i64 0,.bool false,.int .i64 0,.bool false,.int .i64 0,.bool false,.int .i64 0,.int .i64 0,.int .i64 0,.string ⟨#[]⟩,.int .i64 (i:Int),.int .i64 0,.int .i64 (-1)]) rfl (by have:=HG.out.todo;simp;omega) 1;obtain⟨e1,e2⟩:=h7 w.heap.size _ _ HBP.out.drew (by decide) (by decide);exact⟨v',w',h1,A,n',cc,h2,h3,h4,⟨h5,h6⟩,⟨e1.cell 2,e1.cell 3⟩,⟨e2.cell 2,e2.cell 3⟩⟩)
 have hS0:w1.drew.cell? ⟨w.heap.size,2,none⟩=some (.int .i64 p.at_)/\w1.drew.cell? ⟨w.heap.size,3,none⟩=some (.string (bs p.bytes)):=⟨p2,p3⟩;have HSa:=Zh (fun (o:Obj)=>(show (w1.alloc o).drew.cell? ⟨w.heap.size,2,none⟩=some (.int .i64 p.at_)/\(w1.alloc o).drew.cell? ⟨w.heap.size,3,none⟩=some (.string (bs p.bytes)) from by
  have h:=(HBP.out.stays ((Below.refl w1.heap.size w1).alloc (Nat.le_refl _) o)).drew;exact⟨h.cell 2,h.cell 3⟩))
 clear he
 go_upto_region 2 with fail;rw[Hs 98 (.tmp 17)];go_region_held3 (fun U=>U.cell? ⟨w.heap.size,2,none⟩=some (.int .i64 p.at_)/\U.cell? ⟨w.heap.size,3,none⟩=some (.string (bs p.bytes))) (first|with_reducible assumption|exact hS0|exact HSa.out _) (first
  |(refine Cp (R:=fun v' w'=>(∃A n cc,v'=.slice A n cc/\w'.cell? ⟨g,19,none⟩=some (.slice z.ta z.tn z.tc)/\w'.frozen? ⟨g,19,none⟩=false/\(FAt (fun k=>F k\/(w1.heap.size<=k/\k<w'.heap.size)) (w'.setCell ⟨g,19,none⟩ (.slice A n cc)) g { z with ta:=A,tn:=n,tc:=cc } (t++[⟨Xv [] p.at_ p.bytes,i,0,-1⟩]) l/\Touch F w1.drew (w'.setCell ⟨g,19,none⟩ (.slice A n cc)))/\(w'.cell? ⟨w.heap.size,2,none⟩=some (.int .i64 p.at_)/\w'.cell? ⟨w.heap.size,3,none⟩=some (.string (bs p.bytes)))/\((w'.setCell ⟨g,19,none⟩ (.slice A n cc)).cell? ⟨w.heap.size,2,none⟩=some (.int .i64 p.at_)/\(w'.setCell ⟨g,19,none⟩ (.slice A n cc)).cell? ⟨w.heap.size,3,none⟩=some (.string (bs p.bytes))))) (by rfl) (.tmp 18) (.tmp 26) #[98,98] (by rfl) _ _ (by rfl) (by rfl) HAp.out ?_;rintro v' w12 ⟨A,n',cc,rfl,q19,f19,hK,hS12,hS13⟩)
  |fail)
 all_goals
  obtain⟨hA2,ht2⟩:=hK;have hG2:∀k,(F k\/(w1.heap.size<=k/\k<w12.heap.size))->F k\/w.heap.size<=k:=fun k hk=>hk.imp id fun h=>Nat.le_trans HB1.out.size h.1
  generalize hGd:(fun k=>F k\/(w1.heap.size<=k/\k<w12.heap.size))=G at hA2;have hGF:∀k,G k->F k\/w.heap.size<=k:=fun k hk=>by rw[<-hGd]at hk;exact hG2 k hk
  generalize w12.setCell ⟨g,19,none⟩ (.slice A n' cc)=V at *;obtain⟨z2,hz2⟩:∃z2,z2=({ z with ta:=A,tn:=n',tc:=cc }:Co):=⟨_,rfl⟩;rw[<-hz2]at hA2;have hp2:z2.place i=p:=by rw[hz2,HP.out];rfl
  obtain⟨-,-,q2,q3⟩:=Gj z2 hi;rw[hp2]at q2 q3;have v2:V.cell? ⟨g,3+i*4+2,none⟩=some (.int .i64 p.at_):=(hA2.blk.cell _).trans q2;have v3:V.cell? ⟨g,3+i*4+3,none⟩=some (.string (bs p.bytes)):=(hA2.blk.cell _).trans q3;have fV:=hA2.blk.frozen;have hE:Aot F g n (m+1) w (.returned (.tuple #[])) ((V.setCell ⟨g,3+i*4+2,none⟩ (.int .i64 0)).setCell ⟨g,3+i*4+3,none⟩ (.string (bs []))):=by
   have ht3:=((Touch.refl (fun k=>k=g) V).setCell (p:=⟨g,3+i*4+2,none⟩) (.inl rfl) (.int .i64 0)).setCell (p:=⟨g,3+i*4+3,none⟩) (.inl rfl) (.string (bs []));have hb3:=(hA2.blk.Be (3+i*4+2) (.int .i64 0)).Be (3+i*4+3) (.string (bs []));rw[Qs z2 hi]at hb3;obtain⟨k1,k2,k3,k4,k5,k6,k7,k8,k9,k10,k11⟩:=Qj z2 hi { z2.place i with at_:=0,bytes:=[] };have hg:=HG.out;have hps:∀j,Jy (z2.place j):=fun j=>by rw[hz2];exact hg.ps j
   refine⟨rfl,⟨G,⟨_,_,_,hA2.own ht3 hb3 k1 k2 k3 k4 k5 k6,⟨Rq hps i ⟨(hps i).handle,(hps i).gen,Nat.zero_le _,by show (0:Int)<=0/\(0:Int)<=_;decide⟩,fun q hq=>?_,?_,hg.recs,by rw[List.length_append];exact Nat.succ_le_succ hg.todo,?_,?_,?_,?_⟩⟩,hGF⟩,?_⟩
   ·rcases List.mem_append.1 hq with hq|hq
    ·exact hg.parts q hq
    ·rw[List.mem_singleton]at hq
     subst hq;exact Ac3 HPG.out.at_.1 HPG.out.at_.2 HPG.out.bytes hi
   ·rw[k7,k8,hz2];exact hg.now
   ·rw[k8,hz2];exact hg.busy
   ·rw[k9,hz2];exact hg.id
   ·rw[k10,hz2];exact hg.uid
   ·rw[k11,hz2];exact hg.gid
   ·exact((Touch.Aq HB1.out.drew F).Ay ht2).Ay (ht3.mono fun k _ hk=>by subst hk;exact HF.out.1)
  have HE:=Zh hE;clear hA2 ht2 hGd hG2 hGF hz2 hp2 q2 q3 hE q19 f19 hS12 hS13 hS0 HAp HSa;go_wp2
  first|(go_end0;exact HE.out)|exact bodyPost_ret (results_none Tryz.results40 _ _ _) rfl HE.out
end
end Go.Proofs.YtfjflkmhhbhceaaGreatDoor
