/-
  Layer 33, walks: something comes to the document's client: what is done with results (printed by wip/tools/farask/genfartake.py). Condition: numbers within their bounds.
-/
import Derived.Test.YtfjflkmhhbhceaaGreatDoorO40
import Derived.Test.YtfjflkmhhbhceaaGreatDoorO39
set_option maxRecDepth 20000
set_option maxHeartbeats 40000000
namespace Go.Proofs.YtfjflkmhhbhceaaGreatDoor
open Go.RowKit
attribute [local go_sem ↓] Go.wp_at_zero Go.wp_at_succ
attribute [local go_sem] Ai Ag Af Ab Aj
section
attribute [local go_sem ↓] Le Ji Ak8
attribute [local go_sem] Bv Bj Cc Bu Cd Cm C2 Bc Az B7 C5 Bi C6 Bp Dt C8 C7 Dz D5 Cy
attribute [local go_sem low] Cr
attribute [local go_sem] Aa.len Ho
theorem Ano (F:Nat->Prop)(w W:World)(g br n m:Nat)(z:Co)(t:List C1)(l:List Bz)(rz:Aa)(d:Dd)(step now k:Int)(hA:FAt F W g z t l)(hG:Iq n m z t l)(hT:Touch F w W)(hlt:∀k,F k->k<w.heap.size)(hbu:z.busy=true)(hk:k=(l.length:Int))(bR:Blk W br 51 rz.vals)(hr:Ib W (fun k=>w.heap.size<=k) rz d)(hd:Og d)(hfh:d.f.fh.length<=64)(lr:w.heap.size<=br)(hn:n<=900000)(hm:m<=900000)(hnow:0<=now/\now<=1099511627776)(y1 y4 y5 y6 y7 y8 y9 jb jc jd je jf jg jh ji jj jk jl jm jn jo jp jq jr js jt ju jv jw jx jy jz j0 j1 j2 j3 j4 j5 j6 j7 j8 j9 ka kb kc kd ke kf kg kh ki kj kk kl km kn ko kp kq kr ks kt ku kv kw kx ky kz k0 la lb lc ld lf lg lh li lj lk ll lm ln lo lp lq ls lu lv lw lx ly lz l0 l1 l2 l5 l6 l7 l8 l9 oa ob oc od oe og oh oi oj ok ol om on oo op oq os ot ou ov ow ox oy oz o0 o1 o2 o3 o4 o5 o6 o7 o8 o9 qa qb qc qd qe qf qg qh qi qj qk ql qm qn qo qp qq qr qs qt qu qv qw qx qy:Value) :
  Code.wp Tryz.prog (Ju 6 (Tryz.f14.body.getD .ret)) (bodyPost Tryz.prog Tryz.f14 (Acz F g (n+1) m w)) ⟨#[.pointer (some ⟨g,0,none⟩),y1,.int .i64 step,.int .i64 now,y4,y5,y6,y7,y8,y9,jb,.int .i64 k,.pointer (some ⟨br,0,none⟩),.bool true,jc,jd,je,jf,jg,jh,ji,jj,jk,jl,jm,jn,jo,jp,jq,jr,js,jt,ju,jv,jw,jx,jy,jz,j0,j1,j2,j3,j4,j5,j6,j7,j8,j9,ka,kb,kc,kd,ke,kf,kg,kh,ki,kj,kk,kl,km,kn,ko,kp,kq,kr,ks,kt,ku,kv,kw,kx,ky,kz,k0,la,lb,lc,ld,lf,lg,lh,li,lj,lk,ll,lm,ln,lo,lp,lq,ls,lu,lv,lw,lx,ly,lz,l0,l1,l2,l5,l6,l7,l8,l9,oa,ob,oc,od,oe,og,oh,oi,oj,ok,ol,om,on,oo,op,oq,os,ot,ou,ov,ow,ox,oy,oz,o0,o1,o2,o3,o4,o5,o6,o7,o8,o9,qa,qb,qc,qd,qe,qf,qg,qh,qi,qj,qk,ql,qm,qn,qo,qp,qq,qr,qs,qt,qu,qv,qw,qx,qy],[]⟩ W:=by
 change Code.wp _ (Code.seq (Code.seq (Code.region 6 _ _) _) _) _ _ _;dsimp only;have hne:l≠[]:=hG.busy hbu;have hll:l.length<=900000:=by have:=hG.recs;omega
 obtain⟨mm,hmm⟩:∃mm:Nat,l.length=mm+1:=⟨l.length - 1,by
  have:l.length≠0:=fun h=>hne (List.length_eq_zero_iff.1 h)
  omega⟩
 obtain rfl:k=(mm:Int)+1:=by rw[hk,hmm];rfl
 have c54:W.cell? ⟨g,54,none⟩=some (.slice z.ra z.rn z.rc):=hA.blk.cell 54;have HAq:=Zh (hA.As7 (by omega) hne z.rc);have hgW:=hA.blk.lt;have nR:¬F br:=fun h=>by have:=hlt _ h;omega
 have HX:=Zh (And.intro hA (And.intro hG (And.intro hT (And.intro bR (And.intro hr (And.intro nR (And.intro hd (And.intro hfh hlt))))))));have HN:=Zh (And.intro hmm hne);have hmw:IntKind.i64.wrap ((mm:Int)+1 - 1)=(mm:Int):=by rw[IntWalk.i64_in _ (by omega)];omega
 have hmw2:IntKind.i64.wrap (mm:Int)=(mm:Int):=IntWalk.i64_in _ (by omega);have hm0:(0:Int)<=(mm:Int):=by omega
 have hm1:(mm:Int)<(mm:Int)+1:=by omega
 clear hA hG hT bR hr nR hmm hne hk hd hfh hlt
 go_upto_region 9 with (first
  |(refine Fy (by rfl) (.tmp 83) (.tmp 87) #[60,60] (by rfl) _ _ (by rfl) (by rfl) HAq.out ?_;rintro v' w' ⟨A,n2,cc,rfl,q54,f54,hA2,ht2⟩)
  |fail)
 obtain⟨G,hGd⟩:∃G:Nat->Prop,G=fun k=>F k\/(W.heap.size<=k/\k<w'.heap.size):=⟨_,rfl⟩
 rw[<-hGd]at hA2;have hGk:∀j,G j->F j\/W.heap.size<=j:=fun j hj=>by
  rw[hGd]at hj;exact hj.imp id fun h=>h.1
 generalize w'.setCell ⟨g,54,none⟩ (.slice A n2 cc)=V1 at *;obtain⟨z1,hz1⟩:∃q,q=({ z with ra:=A,rn:=n2,rc:=cc }:Co):=⟨_,rfl⟩;rw[<-hz1]at hA2;obtain⟨b,m',hra,hrn,hlm,hFb,hbg,t5,t30,⟨v5,c5⟩,f5,hby⟩:=hA2.Ani HN.out.2;obtain rfl:m'=mm:=by have:=HN.out.1;omega
 have d54:V1.cell? ⟨g,54,none⟩=some (.slice (some ⟨b,0,none⟩) (m'+1) cc):=by
  rw[hA2.blk.cell 54,<-hra,<-hrn,hz1];rfl
 obtain⟨⟨l3,hA3,hl3⟩,hT3⟩:=hA2.Aqd hra hlm step;have bR1:=HX.out.2.2.2.1.Ak ht2 HX.out.2.2.2.2.2.1;have hbr:br≠b:=fun e=>by subst e;exact absurd (P2 bR1 hby) (by decide)
 have hrg:br≠g:=fun e=>by subst e;exact absurd (bR1.ne_ hA2.blk (by decide)) (fun h=>h rfl)
 have bR3:=bR1.far (p:=⟨b,m'*88+5,none⟩) hbr (.int .i64 step);have H1:=Zh (And.intro ht2 (And.intro hGk (And.intro hra (And.intro hFb (And.intro hz1 (And.intro hA3 (And.intro hl3 (And.intro hT3 (And.intro bR3 hA2.fg)))))))));have hgl1:=hA2.blk.lt;have hbl1:=hA2.lt _ hFb;clear hA2 ht2 hGk hra hrn hlm hFb hz1 hA3 hl3 hT3 bR1 bR3 hby hGd q54 f54 c54 HAq
 go_upto_region 10 with fail;obtain⟨ht2,hGk,hra,hFb,hz1,hA3,hl3,hT3,bR3,hGg⟩:=H1.out;obtain⟨V2,hV2⟩:∃U,U=V1.setCell ⟨b,m'*88+5,none⟩ (.int .i64 step):=⟨_,rfl⟩;rw[<-hV2];rw[<-hV2]at hA3 hT3 bR3;have e54:V2.cell? ⟨g,54,none⟩=some (.slice (some ⟨b,0,none⟩) (m'+1) cc):=by rw[hV2];exact(Nb V1 hbg (.int .i64 step)).trans d54
 have u30:Ar V2 b (m'*88+30) 58=true:=by rw[hV2,C6];exact t30
 have rR:rowOf V2 br 0 58=some rz.vals.toArray:=bR3.row 0 58 (by rw[Aa.len];decide);have hgl:=hA3.blk.lt;have hbl:=hA3.lt b hFb;have hrl:=bR3.lt;have hTw:Touch F W V2:=ht2.trans hT3 fun k hk hkg=>by subst hkg;exact(hGk _ hFb).resolve_right (by omega)
 have hrW:=hTw.size;have hrV:=HX.out.2.2.2.2.1.Ik hTw (fun k hk hf=>by have:=HX.out.2.2.2.2.2.2.2.2 k hf;omega);have hob:rz.obj=d.f.obj:=congrArg Xo.obj hrV.bare;have KT:=Zh (fun V (hb:Below V2.heap.size V2 V)=>Al3 ⟨rz,d.es,d.us⟩ V (hrV.there.below hb) (Nat.le_trans HX.out.2.2.2.2.2.2.1.le (by decide)) (by show rz.obj.attr.gen<=_;rw[hob];exact HX.out.2.2.2.2.2.2.1.obj) HX.out.2.2.2.2.2.2.1.gens);have HS:=Zh (fun (V:World) (h:Below V2.heap.size V2 V)=>(show V.cell? ⟨g,54,none⟩=some (.slice (some ⟨b,0,none⟩) (m'+1) cc)/\Ar V b (m'*88+30) 58=true/\rowOf V br 0 58=some rz.vals.toArray from ⟨(h.cell (p:=⟨g,54,none⟩) hgl).trans e54,Ej u30 h,(Fu h hrl 0 58).trans rR⟩));have H2:=Zh (And.intro hA3 (And.intro hl3 (And.intro hTw (And.intro bR3 (And.intro hGk (And.intro hra (And.intro hFb (And.intro hz1 hGg))))))));have hSd:=HS.out _ (Below.refl _ _).drew;have HSx:=Zh (fun (U:World) (r:Aa) (hl:g<U.heap.size) (h:U.cell? ⟨g,54,none⟩=some (.slice (some ⟨b,0,none⟩) (m'+1) cc)/\Ar U b (m'*88+30) 58=true/\rowOf U br 0 58=some rz.vals.toArray)=>(show (putsW U b (m'*88+30) r.vals).cell? ⟨g,54,none⟩=some (.slice (some ⟨b,0,none⟩) (m'+1) cc)/\Ar (putsW U b (m'*88+30) r.vals) b (m'*88+30) 58=true/\rowOf (putsW U b (m'*88+30) r.vals) br 0 58=some rz.vals.toArray from
  ⟨(Az U g 54 b _ _ (Ne.symm hbg) hl).trans h.1,by rw[Bi];exact h.2.1,by rw[Bc _ _ _ _ _ _ _ hbr];exact h.2.2⟩))
 clear hV2 ht2 hGk hra hFb hz1 hA3 hl3 hT3 bR3 hGg H1 hTw hrV hob c5 f5 t5 t30 d54 hgl1 hbl1;go_region_held3 (fun V=>V.cell? ⟨g,54,none⟩=some (.slice (some ⟨b,0,none⟩) (m'+1) cc)/\Ar V b (m'*88+30) 58=true/\rowOf V br 0 58=some rz.vals.toArray) (first|with_reducible assumption|exact⟨e54,u30,rR⟩|exact hSd|exact HSx.out _ _ (Nat.lt_of_lt_of_le hgl hb6.size) hS6) (first
  |(go_at_call 48;refine(KT.out _ (Below.refl _ _).drew).mono ?_;rintro e wt ⟨⟨r2,rfl⟩,hbt⟩;have hb6:Below V2.heap.size V2 wt:=Ad (Below.refl _ _).drew hbt;have hS6:=HS.out wt hb6)
  |fail)
 simp only[Exit.then];apply_assumption;obtain⟨hA3,hl3,hTw,bR3,hGk,hra,hFb,hz1,hGg⟩:=H2.out;obtain⟨⟨l4,hA4,hl4⟩,hT4⟩:=(hA3.below hb6).Aqb hra hl3 r2;have bR4:=(bR3.stays hb6).Jh (b:=b) (o:=m'*88+30) (vs:=r2.vals) hbr;have hs6:=hb6.size;have hTw4:Touch F W (putsW wt b (m'*88+30) r2.vals):=(hTw.Ay (Touch.Aq hb6 F)).trans hT4 fun k hk hkg=>by subst hkg;exact(hGk _ hFb).resolve_right (by omega)
 obtain⟨V3,hV3⟩:∃U,U=putsW wt b (m'*88+30) r2.vals:=⟨_,rfl⟩;rw[<-hV3];rw[<-hV3]at hA4 bR4 hTw4;have ja:V3.cell? ⟨g,47,none⟩=some (.bool z1.busy):=hA4.blk.cell 47;have f3:=hA4.blk.frozen;have hg3:=hA4.blk.lt;have hT5:Touch (fun k=>k=g) V3 (V3.setCell ⟨g,47,none⟩ (.bool false)):=(Touch.refl (fun k=>k=g) V3).setCell (p:=⟨g,47,none⟩) (.inl rfl) _;have hb5:=hA4.blk.Be 47 (.bool false);rw[Co.Aso]at hb5;have hA5:=hA4.own hT5 hb5 rfl rfl rfl rfl rfl rfl;have bR5:=bR4.far (p:=⟨g,47,none⟩) hrg (.bool false);have hTw5:Touch F W (V3.setCell ⟨g,47,none⟩ (.bool false)):=hTw4.Ay (hT5.mono fun k _ hk=>by subst hk;exact HX.out.1.fg);obtain⟨z5,hz5⟩:∃q,q=({ z1 with busy:=false }:Co):=⟨_,rfl⟩;rw[<-hz5]at hA5;have hgd:=HX.out.2.1;have hG5:Iq n m z5 t l4:=by
  rw[hz5,hz1];exact⟨hgd.ps,hgd.parts,fun h=>(by cases h),by have:=HN.out.1;have:=hgd.recs;omega,hgd.todo,fun h=>(by cases h),hgd.id,hgd.uid,hgd.gid⟩
 have hput:z5.now.put<4:=by rw[hz5,hz1];exact(hgd.now hbu).put
 have H5:=Zh (And.intro hA5 (And.intro hG5 (And.intro hTw5 (And.intro bR5 (And.intro hGk HX.out.2.2.1)))));have HC:=Zh (And.intro HX.out.2.2.2.2.2.2.2.1 (And.intro HX.out.2.2.2.2.2.2.1 HX.out.2.2.2.2.1.bare));clear hA3 hl3 hTw bR3 hGk hra hFb hz1 hGg hA4 hl4 hT4 bR4 hTw4 hV3 hT5 hb5 hA5 bR5 hTw5 hz5 hgd hG5 hbt hb6 hS6 hSd HSx HS KT H2 e54 u30 rR hrW HX HN hmw hmw2 hm0 hm1 hll
 go_upto_region 12 with fail;obtain⟨hA5,hG5,hTw5,bR5,hGk,hT⟩:=H5.out;generalize V3.setCell ⟨g,47,none⟩ (.bool false)=V4 at *;have a0:V4.cell? ⟨br,0,none⟩=some (.int .i64 rz.status):=bR5.cell 0;have a1:V4.cell? ⟨br,1,none⟩=some (.string (bs rz.fh)):=bR5.cell 1;have a2:V4.cell? ⟨br,2,none⟩=some (.bool rz.obj.is):=bR5.cell 2;have a10:V4.cell? ⟨br,10,none⟩=some (.int .i64 rz.obj.attr.gen):=bR5.cell 10;have c46:V4.cell? ⟨g,46,none⟩=some (.int .i64 z5.now.put):=hA5.blk.cell 46;have c19:V4.cell? ⟨g,19,none⟩=some (.slice z5.ta z5.tn z5.tc):=hA5.blk.cell 19;have f4:=hA5.blk.frozen;have hg4:=hA5.blk.lt;by_cases hs:rz.status=0
 case neg=>
  obtain⟨hA6,hT6⟩:=hA5.none_;have HE:=Zh (show Ex F g (n+1) m w (V4.setCell ⟨g,19,none⟩ (.slice none 0 0)) from by
   have hG6:Iq n m { z5 with ta:=none,tn:=0,tc:=0 } [] l4:=⟨hG5.ps,fun p hp=>(by cases hp),hG5.now,hG5.recs,Nat.zero_le _,hG5.busy,hG5.id,hG5.uid,hG5.gid⟩;have hs5:=hT.size;have p6:Ex F g n m W (V4.setCell ⟨g,19,none⟩ (.slice none 0 0)):=⟨⟨G,⟨_,_,_,hA6,hG6⟩,hGk⟩,hTw5.trans hT6 fun k hk hkg=>by subst hkg;exact(hGk _ hA5.fg).resolve_right (by omega)⟩;exact(p6.more (by omega) (Nat.le_refl _)).from_ hT)
  clear hA5 hG5 hTw5 bR5 hGk hT hA6 hT6 H5;go_wp2;go_ret;exact⟨⟨_,rfl⟩,HE.out⟩
 rw[hs]at a0;clear hs c19;have HV:=Zh (And.intro hA5 (And.intro hG5 (And.intro hTw5 (And.intro hGk hT))));clear hA5 hG5 hTw5 bR5 hGk hT H5
 go_upto_region 15 with fail;obtain⟨cb,hcb⟩:∃x,x=decide (0<=z5.now.put/\rz.fh≠[]/\rz.obj.is=true):=⟨_,rfl⟩
 go_cut [134] from 119 to 133 (fun v wx=>v=.bool cb/\wx=V4)
 case first=>
  by_cases hp:0<=z5.now.put
  case neg=>
   clear hput;go_wp2;go_meet
   case rel=>exact⟨by rw[hcb,decide_eq_false (fun h=>by have:=h.1;omega)],rfl⟩
  case pos=>
   by_cases hf:rz.fh=[]
   ·rw[hf]at a1
    go_wp2;go_meet
    case rel=>exact⟨by rw[hcb,decide_eq_false (fun h=>h.2.1 hf)],rfl⟩
   ·have hfe:rz.fh.isEmpty=false:=by simpa using hf
    have hcb2:cb=rz.obj.is:=by
     rw[hcb];cases hi:rz.obj.is
     ·exact decide_eq_false (fun h=>by cases h.2.2)
     ·exact decide_eq_true ⟨hp,hf,rfl⟩
    rw[<-hcb2]at a2;clear hcb2 hcb;go_wp2;go_meet
    case rel=>exact⟨rfl,rfl⟩
 case rest=>
 obtain⟨rfl,hw⟩:=hcut;have hw2:=hw.symm;clear hw;subst hw2
 go_upto_if 134 with fail
 go_cut [] from 135 to 160 (fun wx=>∃z3,FAt G wx g z3 t l4/\Iq n m z3 t l4/\Touch (fun k=>k=g) V4 wx)
 case first=>
  cases cb
  case false=>
   clear hcb;go_wp2;go_meet
   case rel=>exact⟨z5,HV.out.1,HV.out.2.1,Touch.refl _ _⟩
  case true=>
   have hyes:=of_decide_eq_true hcb.symm;obtain⟨q,hq,hq4⟩:∃q:Nat,z5.now.put=q/\q<4:=⟨z5.now.put.toNat,by have:=hyes.1;omega,by omega⟩;rw[hq]at c46;obtain⟨q0,q1,-,-⟩:=Gj z5 hq4;have hbk:=HV.out.1.blk;have e0:V4.cell? ⟨g,3+q*4,none⟩=some (.string (bs (z5.place q).handle)):=(hbk.cell _).trans q0;have e1:V4.cell? ⟨g,3+q*4+1,none⟩=some (.int .i64 (z5.place q).gen):=(hbk.cell _).trans q1;have tp0:=hbk.Ar (3+q*4) 1 (by rw[Co.len];omega);have hn0:(0:Int)<=(q:Int):=by omega
   have hn1:(q:Int)<4:=by omega
   have HE:=Zh (show ∃z3,FAt G ((V4.setCell ⟨g,3+q*4,none⟩ (.string (bs rz.fh))).drew.setCell ⟨g,3+q*4+1,none⟩ (.int .i64 rz.obj.attr.gen)).drew g z3 t l4/\Iq n m z3 t l4/\Touch (fun k=>k=g) V4 ((V4.setCell ⟨g,3+q*4,none⟩ (.string (bs rz.fh))).drew.setCell ⟨g,3+q*4+1,none⟩ (.int .i64 rz.obj.attr.gen)).drew from by
    obtain⟨hA5,hG5,-⟩:=HV.out;have hb3:=((hA5.blk.Be (3+q*4) (.string (bs rz.fh))).drew.Be (3+q*4+1) (.int .i64 rz.obj.attr.gen)).drew;rw[Aen z5 hq4]at hb3;have hpg:=hG5.ps q;have ht3:=(((Touch.refl (fun k=>k=g) V4).setCell (p:=⟨g,3+q*4,none⟩) (.inl rfl) (.string (bs rz.fh))).drew.setCell (p:=⟨g,3+q*4+1,none⟩) (.inl rfl) (.int .i64 rz.obj.attr.gen)).drew;obtain⟨k1,k2,k3,k4,k5,k6,k7,k8,k9,k10,k11⟩:=Qj z5 hq4 { z5.place q with handle:=rz.fh,gen:=rz.obj.attr.gen };have hfh2:rz.fh.length<=64:=by rw[show rz.fh=d.f.fh from congrArg Xo.fh HC.out.2.2];exact HC.out.1
    have hgn2:rz.obj.attr.gen<=9223372036854775807:=by rw[show rz.obj=d.f.obj from congrArg Xo.obj HC.out.2.2];exact HC.out.2.1.obj
    refine⟨_,hA5.own ht3 hb3 k1 k2 k3 k4 k5 k6,⟨Rq hG5.ps q ⟨hfh2,hgn2,hpg.bytes,hpg.at_⟩,hG5.parts,?_,hG5.recs,hG5.todo,?_,?_,?_,?_⟩,ht3⟩
    ·rw[k7,k8];exact hG5.now
    ·rw[k8];exact hG5.busy
    ·rw[k9];exact hG5.id
    ·rw[k10];exact hG5.uid
    ·rw[k11];exact hG5.gid)
   have hb5:=(hbk.Be (3+q*4) (.string (bs rz.fh))).drew;have b10:(V4.setCell ⟨g,3+q*4,none⟩ (.string (bs rz.fh))).drew.cell? ⟨br,10,none⟩=some (.int .i64 rz.obj.attr.gen):=(Nb V4 (Ne.symm hrg) (.string (bs rz.fh))).trans a10;have hrv:V4.cell? ⟨br,10,none⟩=some (.int .i64 rz.obj.attr.gen):=a10;have H6:=Zh (And.intro hb5 b10);have HQ:=Zh (And.intro q1 hq);clear hbk q0 q1 hyes hq hcb hput a0 a2 hb5 b10 hrv a10
   go_upto_region 16 with fail;go_region;simp only[Exit.then];apply_assumption;obtain⟨V5,hV5⟩:∃U,U=(V4.setCell ⟨g,3+q*4,none⟩ (.string (bs rz.fh))).drew:=⟨_,rfl⟩;rw[<-hV5];rw[<-hV5]at HE H6;obtain⟨hb5,b10⟩:=H6.out;have d46:V5.cell? ⟨g,46,none⟩=some (.int .i64 (q:Int)):=by
    rw[hb5.cell 46,List.getElem?_set_ne (by omega),<-HQ.out.2];rfl
   have d1:V5.cell? ⟨g,3+q*4+1,none⟩=some (.int .i64 (z5.place q).gen):=by
    rw[hb5.cell (3+q*4+1),List.getElem?_set_ne (by omega)];exact HQ.out.1
   have f5:=hb5.frozen;have hg5:=hb5.lt;clear hV5 H6 hb5 c46 e0 e1 tp0 f4 hg4 a1;go_region;apply_assumption;go_meet
   case rel=>exact HE.out
 case rest=>
 obtain⟨z3,hA7,hG7,hT7⟩:=hcut;obtain⟨-,-,hTw5,hGk,hT⟩:=HV.out;have KN:=Zh (Abj G _ g n m ⟨z3,t,l4,hA7,hG7⟩ hn hm step now hnow);have hs5:=hT.size;have HP:=Zh (show Ex F g n m W wc from ⟨⟨G,⟨z3,t,l4,hA7,hG7⟩,hGk⟩,hTw5.trans hT7 fun k hk hkg=>by subst hkg;exact(hGk _ HV.out.1.fg).resolve_right (by omega)⟩);clear hA7 hG7 hT7 hTw5 hcb a0 a1 a2 a10 c46 f4 hput
 go_wp2_with (first
  |(go_at_call 42;refine KN.out.mono ?_;rintro e w6 ⟨⟨v,rfl⟩,hpost⟩)
  |fail)
 go_ret;exact⟨⟨_,rfl⟩,((HP.out.Abv hpost hGk)).from_ hT⟩
end
end Go.Proofs.YtfjflkmhhbhceaaGreatDoor
