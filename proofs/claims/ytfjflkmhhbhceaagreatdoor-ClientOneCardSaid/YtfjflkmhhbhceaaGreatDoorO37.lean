/-
  Layer 33: its fixed run.
-/
import Derived.Test.YtfjflkmhhbhceaaGreatDoorO32
import Derived.Test.YtfjflkmhhbhceaaGreatDoorO30
import Derived.Test.YtfjflkmhhbhceaaGreatDoorO29
import Derived.Test.YtfjflkmhhbhceaaGreatDoorO34
import Derived.Test.YtfjflkmhhbhceaaGreatDoorO35
import Derived.Test.YtfjflkmhhbhceaaGreatDoorO36
import Derived.Test.YtfjflkmhhbhceaaGreatDoorO31
import Derived.Test.YtfjflkmhhbhceaaGreatDoorO16
import Derived.Test.YtfjflkmhhbhceaaGreatDoorO13
import Derived.Test.YtfjflkmhhbhceaaGreatDoorO28
set_option maxRecDepth 20000
set_option maxHeartbeats 40000000
namespace Go.Proofs.YtfjflkmhhbhceaaGreatDoor
open Go.RowKit
attribute [local go_sem ↓] Go.wp_at_zero Go.wp_at_succ
attribute [local go_sem] Ai Ag Af Ab Aj
attribute [local go_sem] Message.at0 Message.Bo Message.at1 Message.Bk Message.at2 Message.Ca Message.at3 Message.Cg Message.at4 Message.Cx Message.at5 Message.Cw Message.at6 Message.Cv Message.at7 Message.Cu Message.at8 Message.Ct Message.at9 Message.Cs Message.Cl Message.B4 Message.Np Message.Ky Message.len Call.at0 Call.Bo Call.at1 Call.Bk Call.at2 Call.Ca Call.at3 Call.Cg Call.at4 Call.Cx Call.at5 Call.Cw Call.at6 Call.Cv Call.at7 Call.Cu Call.at8 Call.Ct Call.at9 Call.Cs Call.Ee Call.C4 Call.Fm Call.Dm Call.Fl Call.Dl Call.Ia Call.Ep Call.H9 Call.Eo Call.Lx Call.Hg Call.Lw Call.Hf Call.Lv Call.He Call.Lu Call.Hd Call.Lt Call.Hc Call.Ls Call.Ha Call.Lr Call.G9 Call.Lq Call.G8 Call.Lp Call.G7 Call.Gy Call.Fj Call.Gv Call.Fg Call.Jn Call.Gz Call.Gx Call.Fi Call.Gw Call.Fh Call.F9 Call.Et Call.F8 Call.Es Call.F7 Call.Er Call.len
section
attribute [local go_sem ↓] F1 Mk D6 Mx
attribute [local go_sem] Bv Bj Cc Bu Cd Cj Cm C2 Bc Az Bp Dt C8 C7 Dz D5 Cy
attribute [local go_sem low] Cr
attribute [local go_sem] F4 Pa Call.len Message.len D0 Ks
def S5 (w0:World)(g:Nat)(c:ClD)(w:World):Prop:=∃F z l,D3 F w g c z l/\(∀k,F k->w0.heap.size<=k)/\Below w0.heap.size w0 w
theorem S5.below {w0 w w':World}{g:Nat}{c:ClD}(h:S5 w0 g c w)(hb:Below w.heap.size w w'):S5 w0 g c w':=by
 obtain⟨F,z,l,h1,h2,h3⟩:=h;exact⟨F,z,l,h1.below hb,h2,Ad h3 hb⟩
theorem S5.ask {w0 w:World}{g:Nat}{c:ClD}(h:S5 w0 g c w)(hL:G1 w0)(hG:Ds c)(hrl:c.recs.length<=1000000)(a:Ask)(hg:Hk a.call)(step now:Int) :
  Calls Tryz.prog 11 #[.pointer (some ⟨g,0,none⟩),.agg a.vals.toArray,.int .i64 step,.int .i64 now] w fun e w'=>∃A cap,e=.returned (.tuple #[.slice A (c.ask a step now).2.1.length cap,.int .i64 (c.ask a step now).2.2])/\As w' w.heap.size 40 3 (.slice A (c.ask a step now).2.1.length cap) ((c.ask a step now).2.1.map B3.vals)/\S5 w0 g (c.ask a step now).1 w'/\w.heap.size<=w'.heap.size:=by
 obtain⟨F,z,l,h1,h2,h3⟩:=h;refine(Abq F w g c z l (Th g) h1 hG ⟨w0,hL,h3,h2⟩ hrl a hg step now).mono ?_
 rintro e w' ⟨v,rfl,hrow,⟨G,z',l',hC,hGk⟩,ht⟩;obtain⟨A,cap,rfl,-⟩:=hrow.at_;rw[List.length_map]at hrow ⊢;have hs:=h3.size;exact⟨A,cap,rfl,hrow,⟨G,z',l',hC,fun k hk=>by rcases hGk k hk with h|h;exact h2 k h;omega,h3.trans (ht.below (fun k _ hk=>h2 k hk) hs)⟩,ht.size⟩
theorem Aez:Hk ({ Aw with data:=[97,98] }:Call):=⟨By.1,By.2,By.3,By.4,By.5⟩
theorem Abm:Hk ({ Aw with offset:=2,data:=[99] }:Call):=⟨by show (2:Int)<=_;decide,By.2,By.3,By.4,By.5⟩
theorem Agn:(Dc Ig.1.sent.data).1.body.length<=10000:=by decide +kernel
def Aik:Ask:=⟨3,0,0,0,0,0,{ Aw with data:=[97,98] }⟩
def Aij:Ask:=⟨3,0,0,0,0,0,{ Aw with offset:=2,data:=[99] }⟩
def Aii:Ask:=⟨4,0,0,0,0,0,Aw⟩
theorem Wo (w:World)(hL:G1 w):Calls Tryz.prog 7 #[] w fun e w'=>e=.returned (.bool true)/\Below w.heap.size w w':=by
 have g0:=Ds.new 2 5 1 Mn;have ga:=Zr g0 (a:=Aik) Aez 1 0;have gb:=Zr ga (a:=Aij) Abm 2 0;have K0:=Zh (Aa3 2 5 1 w (by decide));have HL:=Zh hL;have HG:=Zh (And.intro g0 (And.intro ga gb));clear g0 ga gb hL;go_enter Tryz.func7,Tryz.ntmps7
 go_wp2_with fail;refine K0.out.mono ?_
 rintro e w1 ⟨g,rfl,hge,hlt,hC,hb⟩;have h1:S5 w g (Wz 2 5 1 Mn) w1:=⟨_,_,_,hC,fun k hk=>by subst hk;exact hge,hb⟩;have H1:=Zh (h1.ask HL.out HG.out.1 (Nat.zero_le _) Aik Aez 1 0);clear hC hb h1 hge hlt;go_wp2_with fail;refine Calls.mono (H1.out) ?_
 rintro e w2 ⟨A,cap,rfl,-,h2,-⟩;have e1:((Wz 2 5 1 Mn).ask Aik 1 0).2=([],0):=Aj2;rw[e1];have h2:S5 w g X5.1 w2:=h2;have H2:=Zh (h2.ask HL.out HG.out.2.1 (by show X5.1.recs.length<=_;decide +kernel) Aij Abm 2 0);clear h2 e1 H1;go_wp2_with fail;refine Calls.mono (H2.out) ?_
 rintro e w3 ⟨A2,cap2,rfl,-,h3,-⟩;have e2:(X5.1.ask Aij 2 0).2=([],0):=Aj1;rw[e2];have h3:S5 w g Uq.1 w3:=h3;have H3:=Zh (h3.ask HL.out HG.out.2.2 (by show Uq.1.recs.length<=_;decide +kernel) Aii By 3 0);clear h3 e2 H2;go_wp2_with fail;refine Calls.mono (H3.out) ?_
 rintro e w4 ⟨A3,cap3,rfl,hrow,h4,-⟩;have e3:(Uq.1.ask Aii 3 0).2.1=[Ig.1.sent]:=Aj0;have e4:(Uq.1.ask Aii 3 0).2.2=0:=R5.1;have h4:S5 w g Ig.1 w4:=h4;rw[e3]at hrow ⊢;rw[e4];have hto:Ig.1.sent.to_=1:=R5.2.2.2.2;have hbz:Ig.1.busy=true:=R5.2.2.1;have hrl:Ig.1.recs.length=1:=R5.2.2.2.1;have hget:=Aj3;have hbody:=Agn;generalize Ig.1=cc at *;clear e3 e4 H3 HG HL K0;obtain⟨b3,o3,hA3,hb3,hc3⟩:=hrow.rows 0 cc.sent.vals rfl;subst hA3;have d1:w4.cell? ⟨b3,o3+1,none⟩=some (.int .i64 1):=by have:=hc3 1 (.int .i64 cc.sent.to_) rfl;rw[hto]at this;simpa using this
 have d2:w4.cell? ⟨b3,o3+2,none⟩=some (.string (bs cc.sent.data)):=by have:=hc3 2 _ rfl;simpa using this
 have H4:=Zh h4;have KG:=Zh (fun W=>Vf cc.sent.data W);have HGet:=Zh (And.intro hget (And.intro hbz (And.intro hrl hbody)));clear hrow hc3 h4 hget hbz hrl hto hbody;go_wp2_with fail;refine(KG.out _).mono ?_
 rintro e w5 ⟨rfl,hb5⟩;rw[Yf];obtain⟨hget,hbz,hrl,hbody⟩:=HGet.out;generalize Dc cc.sent.data=gm at *;obtain⟨m,me⟩:=gm;simp only at hget hbody
 obtain⟨q1,q2,q3,q4⟩:=hget;subst q1;unfold Rp;have h5:=H4.out.below hb5;have KB:=Zh (fun W=>Adq 7 m.body W (by omega));have KZ:=Zh (fun (W:World) (h:Below w5.heap.size w5 W)=>h5.below h);generalize Ah1 7 m.body=dg at *;obtain⟨x,xis⟩:=dg;simp only at q3 q4
 subst q3;have HB5:=Zh (show Below w.heap.size w w5 by obtain⟨_,_,_,_,_,h⟩:=h5;exact h);have KU:=Zh (fun (W:World) (h:Below w5.heap.size w5 W)=>(show Calls Tryz.prog 16 #[.pointer (some ⟨g,0,none⟩)] W fun e w'=>e=.returned (.bool true)/\w'=W by
  obtain⟨F,z,l,h1,-,-⟩:=h5.below h;rw[<-hbz];exact Zk F W g cc z l h1))
 have KR:=Zh (fun (W:World) (h:Below w5.heap.size w5 W)=>(show Calls Tryz.prog 15 #[.pointer (some ⟨g,0,none⟩)] W fun e w'=>(∃A c,e=.returned (.slice A 1 c))/\Below W.heap.size W w' by
  obtain⟨F,z,l,h1,-,-⟩:=h5.below h;refine(Sq F W g cc z l h1 (by omega)).mono ?_
  rintro e w' ⟨v,lk,rfl,hR,hb⟩;obtain⟨A,c,rfl,-⟩:=hR.row.at_;rw[List.length_map,hR.len,hrl];exact⟨⟨A,c,rfl⟩,hb⟩))
 have q4':bs x.data={ data:=#[97,98,99] }:=by rw[q4]
 clear h5 q4 KZ hbz hrl hb5 H4 HGet KG d1 d2 hbody;go_wp2_with fail;refine(KB.out _).mono ?_
 rintro e w6 ⟨rfl,hb6⟩;have c3:w6.cell? ⟨w5.heap.size,3,none⟩=some (.int .i64 7):=by
  rw[hb6.cell (p:=⟨w5.heap.size,3,none⟩) (by simp),(Blk.new w5 81 m.vals).cell 3,<-q2];rfl
 have hb56:Below w5.heap.size w5 w6:=Alk _ hb6;have hl5:w5.heap.size<w6.heap.size:=by have:=hb6.size;simp at this;omega
 have h6:Below w5.heap.size w5 (w6.alloc (.cells x.vals.toArray 36)):=hb56.alloc hb56.size _;have H6:=Zh h6;clear h6 hb6 hb56 KB
 go_wp2_with (first
  |(go_at_call 16;refine(KU.out _ H6.out).mono ?_;rintro e w7 ⟨rfl,hw7⟩;rw[hw7];clear hw7)
  |(go_at_call 15;refine(KR.out _ H6.out).mono ?_;rintro e w8 ⟨⟨A9,c9,rfl⟩,hb8⟩)
  |fail)
 go_ret;exact⟨rfl,Ad HB5.out (Ad H6.out hb8)⟩
end
section
attribute [local go_sem ↓] J1 Gq D6 N9 O3
attribute [local go_sem] Bv Bj Cc Bu Cd Cm C2 Bc Az B7 C5 Bi C6 Bp Dt C8 C7 Dz D5 Cy
attribute [local go_sem low] Cr
attribute [local go_sem] Call.len A8.len B3.len Ic
def Acz (F:Nat->Prop)(g n m:Nat)(w:World)(e:Ending)(w':World):Prop:=(∃v,e=.returned v)/\Ex F g n m w w'
structure OkX (x:Call):Prop where
 proc:0<=x.proc/\x.proc<=21
 may:E2 x (Al x.proc)=true
 g:Hk x
 set:x.set.C9
theorem Rv (p:Int):(Al p).length<=14:=by
 rcases Fv p with hlo|hhi|e|e|e|e|e|e|e|e|e|e|e|e|e|e|e|e|e|e|e|e|e|e
 ·rw[Jc hlo];decide
 ·rw[Hu hhi];decide
 all_goals (rw[e];decide)
theorem OkX.short {x:Call}(h:OkX x):(M0 x (Al x.proc) (Al x.proc).length).length<=9000:=by
 have h1:=Sd x (Al x.proc) h.may (fun k hk=>Hj x.proc hk) _ (Nat.le_refl _);have h2:=Rv x.proc;omega
theorem Ak3 (F G:Nat->Prop)(w W:World)(g bx bc n m:Nat)(z:Co)(t:List C1)(l:List Bz)(x:Call)(k step now:Int)(hA:FAt G W g z t l)(hGk:∀j,G j->F j\/w.heap.size<=j)(hT:Touch F w W)(hG:Iq n m z t l)(hp:L0 z.now)(hl:l≠[])(bX:Blk W bx 36 x.vals)(bC:Blk W bc 63 (A8.mk z.id k z.uid z.gid).vals)(hx:OkX x)(hk:0<=k/\k<=4294967295)(hnw:0<=now/\now<=1099511627776)(y3 y4 y5 y6 y8 jc jd je jf jg jh ji jj jk jl jm jn jo jp jq jr js jt ju jv jw jx jy jz j0 j1 j2 j3 j4 j5 j6 j7 j8 j9 ka kb kc kd ke kf kg kh ki kj kk kl km kn ko kp kq kr ks kt ku kv kw kx ky kz k0 k1 k2 k3 k4 k5 k6 k7 k8 k9 la lb lc ld lf lg lh li lj lk ll lm ln lo lp lq lr ls lu lv lw lx ly lz l0 l1 l2 l3 l4 l5 l6 l7 l8 l9 oa ob oc od oe og oh oi oj ok ol om on oo op oq os ot ou ov ow ox oy oz o0 o1 o2 o3 o4 o5 o6 o7 o8 o9 qa qb qc qd qe qf qg qh qi qj qk ql qm qn qo qp qq qr qs qt qu:Value) :
  Code.wp Tryz.prog (Ja 16 (Tryz.f42.body.getD .ret)) (bodyPost Tryz.prog Tryz.f42 (Acz F g n m w)) ⟨#[.pointer (some ⟨g,0,none⟩),.int .i64 step,.int .i64 now,y3,y4,y5,y6,.pointer (some ⟨bx,0,none⟩),y8,.int .i64 k,.pointer (some ⟨bc,0,none⟩),jc,jd,je,jf,jg,jh,ji,jj,jk,jl,jm,jn,jo,jp,jq,jr,js,jt,ju,jv,jw,jx,jy,jz,j0,j1,j2,j3,j4,j5,j6,j7,j8,j9,ka,kb,kc,kd,ke,kf,kg,kh,ki,kj,kk,kl,km,kn,ko,kp,kq,kr,ks,kt,ku,kv,kw,kx,ky,kz,k0,k1,k2,k3,k4,k5,k6,k7,k8,k9,la,lb,lc,ld,lf,lg,lh,li,lj,lk,ll,lm,ln,lo,lp,lq,lr,ls,lu,lv,lw,lx,ly,lz,l0,l1,l2,l3,l4,l5,l6,l7,l8,l9,oa,ob,oc,od,oe,og,oh,oi,oj,ok,ol,om,on,oo,op,oq,os,ot,ou,ov,ow,ox,oy,oz,o0,o1,o2,o3,o4,o5,o6,o7,o8,o9,qa,qb,qc,qd,qe,qf,qg,qh,qi,qj,qk,ql,qm,qn,qo,qp,qq,qr,qs,qt,qu],[]⟩ W:=by
 change Code.wp _ (Code.seq (Code.region 16 _ _) _) _ _ _;dsimp only;have c1:W.cell? ⟨g,1,none⟩=some (.int .i64 z.self):=hA.blk.cell 1;have c2:W.cell? ⟨g,2,none⟩=some (.int .i64 z.server):=hA.blk.cell 2;have x0:W.cell? ⟨bx,0,none⟩=some (.int .i64 x.proc):=bX.cell 0;have rC:rowOf W bc 0 4=some #[.int .i64 z.id,.int .i64 k,.int .i64 z.uid,.int .i64 z.gid]:=bC.row 0 4 (by rw[A8.len];omega);have rX:rowOf W bx 0 24=some x.vals.toArray:=bX.row 0 24 (by rw[Call.len];omega);have tP:=hA.blk.Ar 48 3 (by rw[Co.len];omega);have hg:=hA.blk.lt;have hbx:=bX.lt;have hbc:=bC.lt;have hxg:bx≠g:=fun e=>by subst e;exact absurd (bX.ne_ hA.blk (by decide)) (fun h=>h rfl)
 have hcg:bc≠g:=fun e=>by subst e;exact absurd (bC.ne_ hA.blk (by decide)) (fun h=>h rfl)
 obtain⟨body,hbody⟩:∃b,b=M0 x (Al x.proc) (Al x.proc).length:=⟨_,rfl⟩;have hbl:body.length<=9000:=by rw[hbody];exact hx.short
 have KB:∀V,Calls Tryz.prog 92 #[.agg x.vals.toArray] V fun e w'=>e=.returned (.string (bs body))/\Below V.heap.size V w':=fun V=>by
  rw[hbody];exact Z5 x V hx.may hx.g.offset hx.g.cookie hx.g.verf hx.set hx.g.guard
 have KM:∀V,Calls Tryz.prog 32 #[.agg #[.int .i64 k,.bool false,.bool false,.int .i64 x.proc,.int .i64 z.id,.int .i64 k,.int .i64 z.uid,.int .i64 z.gid,.int .i64 0,.string (bs body)]] V fun e w'=>e=.returned (.string (bs (Message.mk k false false x.proc ⟨z.id,k,z.uid,z.gid⟩ 0 body).raw))/\Below V.heap.size V w':=fun V=>Sp (Message.mk k false false x.proc ⟨z.id,k,z.uid,z.gid⟩ 0 body) V (by
  have h1:=hG.id;have h2:=hG.uid;have h3:=hG.gid;have h4:=hx.proc
  show ([k,0,2,100003,3,x.proc,1,16,z.id,k,z.uid,z.gid,0,0].all fun n=>decide (0<=n) && decide (n<=4294967295))=true
  simp only[List.all_cons,List.all_nil,Bool.and_eq_true,decide_eq_true_eq,Bool.and_true]
  omega) hbl
 generalize (Message.mk k false false x.proc ⟨z.id,k,z.uid,z.gid⟩ 0 body).raw=raw at *;replace KB:=Zh KB;replace KM:=Zh KM;have HS:=Zh (fun (U:World) (h:Below W.heap.size W U)=>(show U.cell? ⟨g,1,none⟩=some (.int .i64 z.self)/\U.cell? ⟨g,2,none⟩=some (.int .i64 z.server)/\U.cell? ⟨bx,0,none⟩=some (.int .i64 x.proc)/\rowOf U bc 0 4=some #[.int .i64 z.id,.int .i64 k,.int .i64 z.uid,.int .i64 z.gid]/\rowOf U bx 0 24=some x.vals.toArray/\Ar U g 48 3=true from
  ⟨(h.cell (p:=⟨g,1,none⟩) hg).trans c1,(h.cell (p:=⟨g,2,none⟩) hg).trans c2,(h.cell (p:=⟨bx,0,none⟩) hbx).trans x0,(Fu h hbc 0 4).trans rC,(Fu h hbx 0 24).trans rX,Ej tP h⟩))
 have HSp:=Zh (fun (V:World) (cs:List Value) (h:Below W.heap.size W V)=>(show (fun U:World=>U.cell? ⟨g,1,none⟩=some (.int .i64 z.self)/\U.cell? ⟨g,2,none⟩=some (.int .i64 z.server)/\U.cell? ⟨bx,0,none⟩=some (.int .i64 x.proc)/\rowOf U bc 0 4=some #[.int .i64 z.id,.int .i64 k,.int .i64 z.uid,.int .i64 z.gid]/\rowOf U bx 0 24=some x.vals.toArray/\Ar U g 48 3=true) (putsW V g 48 cs) from by
  obtain⟨h1,h2,h3,h4,h5,h6⟩:=HS.out V h;have hv:=h.size;exact⟨(B7 V g 1 48 cs (by omega)).trans h1,(B7 V g 2 48 cs (by omega)).trans h2,(Az V bx 0 g 48 cs hxg (by omega)).trans h3,by rw[Bc _ _ _ _ _ _ _ hcg];exact h4,by rw[Bc _ _ _ _ _ _ _ hxg];exact h5,by rw[Bi];exact h6⟩))
 have hS0:=HS.out W.drew (Below.refl _ _).drew;have HA:=Zh hA;have HT:=Zh hT;have HG:=Zh (And.intro hG (And.intro hp hl));clear c1 c2 x0 rC rX tP hA hT hG hp hl bX bC hx hbody hbl
 go_upto_region 16 with fail;go_region_held3 (fun U=>U.cell? ⟨g,1,none⟩=some (.int .i64 z.self)/\U.cell? ⟨g,2,none⟩=some (.int .i64 z.server)/\U.cell? ⟨bx,0,none⟩=some (.int .i64 x.proc)/\rowOf U bc 0 4=some #[.int .i64 z.id,.int .i64 k,.int .i64 z.uid,.int .i64 z.gid]/\rowOf U bx 0 24=some x.vals.toArray/\Ar U g 48 3=true) (first|with_reducible assumption|exact HSp.out _ _ hB8) (first
  |(go_at_call 92;refine(KB.out _).mono ?_;rintro e w7 ⟨rfl,hb7⟩;have hB7:=Ad (Below.refl _ _).drew hb7;have hS7:=HS.out w7 hB7)
  |(go_at_call 32;refine(KM.out _).mono ?_;rintro e w8 ⟨rfl,hb8⟩;have hB8:=Ad hB7 hb8;have hS8:=HS.out w8 hB8)
  |fail)
 obtain⟨pk,hpk⟩:∃q:B3,q=⟨z.self,z.server,raw⟩:=⟨_,rfl⟩;obtain⟨V1,hV1⟩:∃V,V=putsW w8 g 48 pk.vals:=⟨_,rfl⟩;change Exit.then _ _ _ _ (putsW w8 g 48 (B3.mk z.self z.server raw).vals);rw[<-hpk,<-hV1];have hA8:=HA.out.below hB8;have ht1:Touch (fun j=>j=g) w8 V1:=by rw[hV1];exact(Touch.refl (fun j=>j=g) w8).D2 (.inl rfl)
 have hb1:=hA8.blk.D2 48 pk.vals;rw[show setAt z.vals 48 pk.vals=({ z with sent:=pk }:Co).vals by kernel_rfl,<-hV1]at hb1;have hA1:=hA8.own ht1 hb1 rfl rfl rfl rfl rfl rfl;have ja:V1.cell? ⟨g,47,none⟩=some (.bool z.busy):=hb1.cell 47;have jb:V1.cell? ⟨g,51,none⟩=some (.int .i64 z.due):=hb1.cell 51;have fV:=hb1.frozen;have hnw8:IntKind.i64.wrap (now+8)=now+8:=IntWalk.i64_in _ (by omega);have HT1:=Zh ((Touch.Aq hB8 G).Ay (ht1.mono fun j _ hj=>by subst hj;exact HA.out.fg));have HA1:=Zh hA1;have HB1:=Zh hb1;clear hV1 hpk hA8 ht1 hb1 hA1 hB8 hb8 hS8 hS0 HS HSp KB KM
 go_upto_region 19 with fail;obtain⟨V2,hV2⟩:∃U,U=(V1.setCell ⟨g,47,none⟩ (.bool true)).setCell ⟨g,51,none⟩ (.int .i64 (now+8)):=⟨_,rfl⟩;rw[<-hV2];have ht2:Touch (fun j=>j=g) V1 V2:=by rw[hV2];exact((Touch.refl (fun j=>j=g) V1).setCell (p:=⟨g,47,none⟩) (.inl rfl) _).setCell (p:=⟨g,51,none⟩) (.inl rfl) _
 have hb2:=(HB1.out.Be 47 (.bool true)).Be 51 (.int .i64 (now+8));rw[show ((({ z with sent:=pk }:Co).vals.set 47 (.bool true)).set 51 (.int .i64 (now+8)))=({ z with sent:=pk,busy:=true,due:=now+8 }:Co).vals by kernel_rfl,<-hV2]at hb2;have hA2:=HA1.out.own ht2 hb2 rfl rfl rfl rfl rfl rfl;have r48:rowOf V2 g 48 3=some pk.vals.toArray:=hb2.row 48 3 (by rw[Co.len];omega);have HA2:=Zh hA2;have HT2:=Zh (HT1.out.Ay (ht2.mono fun j _ hj=>by subst hj;exact HA.out.fg));clear hV2 ht2 hb2 hA2 ja jb fV hnw8 HA1 HB1 HT1;go_wp2;go_ret;have hB3:Below V2.heap.size V2 (V2.alloc (.cells pk.vals.toArray 40)):=(Below.refl _ _).alloc (Nat.le_refl _) _;obtain⟨hg,hp,hl⟩:=HG.out;have hTW:=HT2.out.Ay (Touch.Aq hB3 G);refine⟨⟨_,rfl⟩,⟨G,⟨_,t,l,HA2.out.below hB3,⟨hg.ps,hg.parts,fun _=>hp,hg.recs,hg.todo,fun _=>hl,hg.id,hg.uid,hg.gid⟩⟩,hGk⟩,HT.out.trans hTW fun j hj hg2=>?_⟩
 rcases hGk j hg2 with h|h
 ·exact h
 ·omega
end
section
attribute [local go_sem ↓] D6 N9 Pw
attribute [local go_sem] Bv Bj Cc Bu Cd Cj Cm C2 Bc Az B7 C5 Bi C6 Bp Dt C8 C7 Cy
attribute [local go_sem] Call.len A8.len
attribute [local go_sem ↓] Uh
attribute [local go_sem] Kz Ly J3 Pk List.cons_append List.nil_append
theorem Ak4 (F G:Nat->Prop)(w W2:World)(g bx bt bc n m:Nat)(z:Co)(t:List C1)(l:List Bz)(x y:Call)(k step now:Int)(hA2:FAt G W2 g z t l)(hGk:∀j,G j->F j\/w.heap.size<=j)(hT:Touch F w W2)(hG:Iq n m z t l)(hp:L0 z.now)(hn:n<=900000)(bX2:Blk W2 bx 36 x.vals)(bT2:Blk W2 bt 36 y.vals)(bC:Blk W2 bc 63 (A8.mk z.id k z.uid z.gid).vals)(hx:OkX x)(hk2:0<=k/\k<=4294967295)(hnw:0<=now/\now<=1099511627776)(y3 y4 y5 y6 ja jb jc jd je jf jg jh ji jj jk jl jm jn jo jp jq jr js jt ju jv jw jx jy jz j0 j1 j2 j3 j4 j5 j6 j7 j8 j9 ka kb kc kd ke kf kg kh ki kj kk kl km kn ko kp kq kr ks kt ku kv kw kx ky kz k0 k1 k2 k3 k4 k5 k6 k7 k8 k9 la lb lc ld lf lg lh li lj lk ll lm ln lo lp lq lr ls lu lv lw lx ly lz l0 l1 l2 l3 l4 l5 l6 l7 l8 l9 oa ob oc od oe og oh oi oj ol om on oo op oq os ot ou ov ow ox oy oz o0 o1 o2 o3 o4 o5 o6 o7 o8 o9 qa qb qc qd qe qf qg qh qi qj qk ql qm qn qo qp qq qr qs qt:Value) :
  Code.wp Tryz.prog (Ja 15 (Tryz.f42.body.getD .ret)) (bodyPost Tryz.prog Tryz.f42 (Acz F g (n+1) m w)) ⟨#[.pointer (some ⟨g,0,none⟩),.int .i64 step,.int .i64 now,y3,y4,y5,y6,.pointer (some ⟨bx,0,none⟩),.pointer (some ⟨bt,0,none⟩),.int .i64 k,.pointer (some ⟨bc,0,none⟩),ja,jb,jc,jd,je,jf,jg,jh,ji,jj,jk,jl,jm,jn,jo,jp,jq,jr,js,jt,ju,jv,jw,jx,jy,jz,j0,j1,j2,j3,j4,j5,j6,j7,j8,j9,ka,kb,kc,kd,ke,kf,kg,kh,ki,kj,kk,kl,km,kn,ko,kp,kq,kr,ks,kt,ku,kv,kw,kx,ky,kz,k0,k1,k2,k3,k4,k5,k6,k7,k8,k9,la,lb,lc,ld,lf,lg,lh,li,lj,lk,ll,lm,ln,lo,lp,lq,lr,ls,lu,lv,lw,lx,ly,lz,l0,l1,l2,l3,l4,l5,l6,l7,l8,l9,oa,ob,oc,od,oe,og,oh,oi,oj,ol,om,on,oo,op,oq,os,ot,ou,ov,ow,ox,oy,oz,o0,o1,o2,o3,o4,o5,o6,o7,o8,o9,qa,qb,qc,qd,qe,qf,qg,qh,qi,qj,qk,ql,qm,qn,qo,qp,qq,qr,qs,qt],[]⟩ W2:=by
 change Code.wp _ (Code.seq (Code.region 15 _ _) _) _ _ _;dsimp only;have hll:=hG.recs;have HT:=Zh hT;have HG:=Zh (And.intro hG (And.intro hp hx));clear hT hG hp hx;have d54:W2.cell? ⟨g,54,none⟩=some (.slice z.ra z.rn z.rc):=hA2.blk.cell 54;have hg2:g<W2.heap.size:=hA2.blk.lt;have rC:rowOf W2 bc 0 4=some #[.int .i64 z.id,.int .i64 k,.int .i64 z.uid,.int .i64 z.gid]:=bC.row 0 4 (by rw[A8.len];omega);have rT:rowOf W2 bt 0 24=some y.vals.toArray:=bT2.row 0 24 (by rw[Call.len];omega);obtain⟨xp,xf,xn,xg,xm,xo,xc,xh,xd,⟨⟨b1,i1⟩,⟨b2,i2⟩,⟨b3,i3⟩,⟨b4,i4⟩,⟨b5,i5⟩⟩,⟨b6,i6⟩,xk,xv,xt⟩:=y;replace rT:rowOf W2 bt 0 24=some #[.int .i64 xp,.string (bs xf),.string (bs xn),.string (bs xg),.string (bs xm),.int .i64 xo,.int .i64 xc,.int .i64 xh,.string (bs xd),.bool b1,.int .i64 i1,.bool b2,.int .i64 i2,.bool b3,.int .i64 i3,.bool b4,.int .i64 i4,.bool b5,.int .i64 i5,.bool b6,.int .i64 i6,.int .i64 xk,.int .i64 xv,.string (bs xt)]:=rT;have HAp:=Zh (show ∃v' w',(Builtin.append_ #[60,60] 60 #[.slice z.ra z.rn z.rc,.slice (some ⟨W2.heap.size,0,none⟩) 1 1]).run Tryz.prog ((W2.alloc (.cells #[.int .i64 z.id,.int .i64 k,.int .i64 z.uid,.int .i64 z.gid,.int .i64 step,.int .i64 0,.int .i64 xp,.string (bs xf),.string (bs xn),.string (bs xg),.string (bs xm),.int .i64 xo,.int .i64 xc,.int .i64 xh,.string (bs xd),.bool b1,.int .i64 i1,.bool b2,.int .i64 i2,.bool b3,.int .i64 i3,.bool b4,.int .i64 i4,.bool b5,.int .i64 i5,.bool b6,.int .i64 i6,.int .i64 xk,.int .i64 xv,.string (bs xt),.int .i64 0,.string ⟨#[]⟩,.bool false,.int .i64 0,.int .i64 0,.int .i64 0,.int .i64 0,.int .i64 0,.int .i64 0,.int .i64 0,.int .i64 0,.int .i64 0,.int .i64 0,.bool false,.int .i64 0,.int .i64 0,.int .i64 0,.int .i64 0,.int .i64 0,.int .i64 0,.int .i64 0,.int .i64 0,.int .i64 0,.int .i64 0,.bool false,.int .i64 0,.bool false,.int .i64 0,.int .i64 0,.int .i64 0,.int .i64 0,.int .i64 0,.int .i64 0,.int .i64 0,.int .i64 0,.int .i64 0,.int .i64 0,.bool false,.int .i64 0,.bool false,.int .i64 0,.int .i64 0,.int .i64 0,.int .i64 0,.int .i64 0,.int .i64 0,.int .i64 0,.int .i64 0,.int .i64 0,.int .i64 0,.int .i64 0,.int .i64 0,.bool false,.string ⟨#[]⟩,.int .i64 0,.int .i64 0,.slice none 0 0,.slice none 0 0] 65)).drew)=.ok v' w'/\(∃A n2 cc,v'=.slice A n2 cc/\w'.cell? ⟨g,54,none⟩=some (.slice z.ra z.rn z.rc)/\w'.frozen? ⟨g,54,none⟩=false/\(FAt (fun j=>G j\/(W2.heap.size<=j/\j<w'.heap.size)) (w'.setCell ⟨g,54,none⟩ (.slice A n2 cc)) g { z with ra:=A,rn:=n2,rc:=cc } t (l++[⟨⟨z.id,k,z.uid,z.gid⟩,step,0,⟨xp,xf,xn,xg,xm,xo,xc,xh,xd,⟨⟨b1,i1⟩,⟨b2,i2⟩,⟨b3,i3⟩,⟨b4,i4⟩,⟨b5,i5⟩⟩,⟨b6,i6⟩,xk,xv,xt⟩,Bt⟩])/\Touch G W2.drew (w'.setCell ⟨g,54,none⟩ (.slice A n2 cc))/\Blk (w'.setCell ⟨g,54,none⟩ (.slice A n2 cc)) bx 36 x.vals/\Blk (w'.setCell ⟨g,54,none⟩ (.slice A n2 cc)) bc 63 (A8.mk z.id k z.uid z.gid).vals)/\Ip bc bt #[.int .i64 z.id,.int .i64 k,.int .i64 z.uid,.int .i64 z.gid] #[.int .i64 xp,.string (bs xf),.string (bs xn),.string (bs xg),.string (bs xm),.int .i64 xo,.int .i64 xc,.int .i64 xh,.string (bs xd),.bool b1,.int .i64 i1,.bool b2,.int .i64 i2,.bool b3,.int .i64 i3,.bool b4,.int .i64 i4,.bool b5,.int .i64 i5,.bool b6,.int .i64 i6,.int .i64 xk,.int .i64 xv,.string (bs xt)] w'/\Ip bc bt #[.int .i64 z.id,.int .i64 k,.int .i64 z.uid,.int .i64 z.gid] #[.int .i64 xp,.string (bs xf),.string (bs xn),.string (bs xg),.string (bs xm),.int .i64 xo,.int .i64 xc,.int .i64 xh,.string (bs xd),.bool b1,.int .i64 i1,.bool b2,.int .i64 i2,.bool b3,.int .i64 i3,.bool b4,.int .i64 i4,.bool b5,.int .i64 i5,.bool b6,.int .i64 i6,.int .i64 xk,.int .i64 xv,.string (bs xt)] (w'.setCell ⟨g,54,none⟩ (.slice A n2 cc))) from by
  have hd:FAt G W2.drew g z t l:=hA2.Ik (G:=fun _=>False) (w':=W2.drew) (Touch.refl _ _).drew (fun _ _ h=>h);obtain⟨v',w',h1,A,n2,cc,h2,h3,h4,h5,h6,h7⟩:=hd.Asp ⟨⟨z.id,k,z.uid,z.gid⟩,step,0,⟨xp,xf,xn,xg,xm,xo,xc,xh,xd,⟨⟨b1,i1⟩,⟨b2,i2⟩,⟨b3,i3⟩,⟨b4,i4⟩,⟨b5,i5⟩⟩,⟨b6,i6⟩,xk,xv,xt⟩,Bt⟩ (cs:=#[.int .i64 z.id,.int .i64 k,.int .i64 z.uid,.int .i64 z.gid,.int .i64 step,.int .i64 0,.int .i64 xp,.string (bs xf),.string (bs xn),.string (bs xg),.string (bs xm),.int .i64 xo,.int .i64 xc,.int .i64 xh,.string (bs xd),.bool b1,.int .i64 i1,.bool b2,.int .i64 i2,.bool b3,.int .i64 i3,.bool b4,.int .i64 i4,.bool b5,.int .i64 i5,.bool b6,.int .i64 i6,.int .i64 xk,.int .i64 xv,.string (bs xt),.int .i64 0,.string ⟨#[]⟩,.bool false,.int .i64 0,.int .i64 0,.int .i64 0,.int .i64 0,.int .i64 0,.int .i64 0,.int .i64 0,.int .i64 0,.int .i64 0,.int .i64 0,.bool false,.int .i64 0,.int .i64 0,.int .i64 0,.int .i64 0,.int .i64 0,.int .i64 0,.int .i64 0,.int .i64 0,.int .i64 0,.int .i64 0,.bool false,.int .i64 0,.bool false,.int .i64 0,.int .i64 0,.int .i64 0,.int .i64 0,.int .i64 0,.int .i64 0,.int .i64 0,.int .i64 0,.int .i64 0,.int .i64 0,.bool false,.int .i64 0,.bool false,.int .i64 0,.int .i64 0,.int .i64 0,.int .i64 0,.int .i64 0,.int .i64 0,.int .i64 0,.int .i64 0,.int .i64 0,.int .i64 0,.int .i64 0,.int .i64 0,.bool false,.string ⟨#[]⟩,.int .i64 0,.int .i64 0,.slice none 0 0,.slice none 0 0]) rfl (by omega) 1;obtain⟨e1,e2⟩:=h7 bc _ _ bC.drew (by decide) (by decide);obtain⟨e3,e4⟩:=h7 bt _ _ bT2.drew (by decide) (by decide);obtain⟨e5,e6⟩:=h7 bx _ _ bX2.drew (by decide) (by decide);exact⟨v',w',h1,A,n2,cc,h2,h3,h4,⟨h5,h6,e6,e2⟩,⟨e1.row 0 4 (by rw[A8.len];omega),e3.row 0 24 (by rw[Call.len];omega)⟩,⟨e2.row 0 4 (by rw[A8.len];omega),e4.row 0 24 (by rw[Call.len];omega)⟩⟩)
 have hS0:Ip bc bt #[.int .i64 z.id,.int .i64 k,.int .i64 z.uid,.int .i64 z.gid] #[.int .i64 xp,.string (bs xf),.string (bs xn),.string (bs xg),.string (bs xm),.int .i64 xo,.int .i64 xc,.int .i64 xh,.string (bs xd),.bool b1,.int .i64 i1,.bool b2,.int .i64 i2,.bool b3,.int .i64 i3,.bool b4,.int .i64 i4,.bool b5,.int .i64 i5,.bool b6,.int .i64 i6,.int .i64 xk,.int .i64 xv,.string (bs xt)] W2.drew:=⟨rC,rT⟩;have HS0:=Zh hS0;have HSa:=Zh (fun (o:Obj)=>(show Ip bc bt #[.int .i64 z.id,.int .i64 k,.int .i64 z.uid,.int .i64 z.gid] #[.int .i64 xp,.string (bs xf),.string (bs xn),.string (bs xg),.string (bs xm),.int .i64 xo,.int .i64 xc,.int .i64 xh,.string (bs xd),.bool b1,.int .i64 i1,.bool b2,.int .i64 i2,.bool b3,.int .i64 i3,.bool b4,.int .i64 i4,.bool b5,.int .i64 i5,.bool b6,.int .i64 i6,.int .i64 xk,.int .i64 xv,.string (bs xt)] (W2.drew.alloc o) from ⟨(Ab W2.drew o bc 0 4 bC.lt).trans rC,(Ab W2.drew o bt 0 24 bT2.lt).trans rT⟩));have hrv:Da 88 (.agg #[.int .i64 z.id,.int .i64 k,.int .i64 z.uid,.int .i64 z.gid,.int .i64 step,.int .i64 0,.int .i64 xp,.string (bs xf),.string (bs xn),.string (bs xg),.string (bs xm),.int .i64 xo,.int .i64 xc,.int .i64 xh,.string (bs xd),.bool b1,.int .i64 i1,.bool b2,.int .i64 i2,.bool b3,.int .i64 i3,.bool b4,.int .i64 i4,.bool b5,.int .i64 i5,.bool b6,.int .i64 i6,.int .i64 xk,.int .i64 xv,.string (bs xt),.int .i64 0,.string ⟨#[]⟩,.bool false,.int .i64 0,.int .i64 0,.int .i64 0,.int .i64 0,.int .i64 0,.int .i64 0,.int .i64 0,.int .i64 0,.int .i64 0,.int .i64 0,.bool false,.int .i64 0,.int .i64 0,.int .i64 0,.int .i64 0,.int .i64 0,.int .i64 0,.int .i64 0,.int .i64 0,.int .i64 0,.int .i64 0,.bool false,.int .i64 0,.bool false,.int .i64 0,.int .i64 0,.int .i64 0,.int .i64 0,.int .i64 0,.int .i64 0,.int .i64 0,.int .i64 0,.int .i64 0,.int .i64 0,.bool false,.int .i64 0,.bool false,.int .i64 0,.int .i64 0,.int .i64 0,.int .i64 0,.int .i64 0,.int .i64 0,.int .i64 0,.int .i64 0,.int .i64 0,.int .i64 0,.int .i64 0,.int .i64 0,.bool false,.string ⟨#[]⟩,.int .i64 0,.int .i64 0,.slice none 0 0,.slice none 0 0])=true:=rfl;clear hA2 bX2 bT2 bC hS0 rC rT
 go_upto_region 15 with fail;rw[Hs 60 (.tmp 127)];go_region_held3 (fun U=>Ip bc bt #[.int .i64 z.id,.int .i64 k,.int .i64 z.uid,.int .i64 z.gid] #[.int .i64 xp,.string (bs xf),.string (bs xn),.string (bs xg),.string (bs xm),.int .i64 xo,.int .i64 xc,.int .i64 xh,.string (bs xd),.bool b1,.int .i64 i1,.bool b2,.int .i64 i2,.bool b3,.int .i64 i3,.bool b4,.int .i64 i4,.bool b5,.int .i64 i5,.bool b6,.int .i64 i6,.int .i64 xk,.int .i64 xv,.string (bs xt)] U) (first|with_reducible assumption|exact HS0.out|exact HSa.out _) (first
  |(refine Cp (R:=fun v' w'=>(∃A n2 cc,v'=.slice A n2 cc/\w'.cell? ⟨g,54,none⟩=some (.slice z.ra z.rn z.rc)/\w'.frozen? ⟨g,54,none⟩=false/\(FAt (fun j=>G j\/(W2.heap.size<=j/\j<w'.heap.size)) (w'.setCell ⟨g,54,none⟩ (.slice A n2 cc)) g { z with ra:=A,rn:=n2,rc:=cc } t (l++[⟨⟨z.id,k,z.uid,z.gid⟩,step,0,⟨xp,xf,xn,xg,xm,xo,xc,xh,xd,⟨⟨b1,i1⟩,⟨b2,i2⟩,⟨b3,i3⟩,⟨b4,i4⟩,⟨b5,i5⟩⟩,⟨b6,i6⟩,xk,xv,xt⟩,Bt⟩])/\Touch G W2.drew (w'.setCell ⟨g,54,none⟩ (.slice A n2 cc))/\Blk (w'.setCell ⟨g,54,none⟩ (.slice A n2 cc)) bx 36 x.vals/\Blk (w'.setCell ⟨g,54,none⟩ (.slice A n2 cc)) bc 63 (A8.mk z.id k z.uid z.gid).vals)/\Ip bc bt #[.int .i64 z.id,.int .i64 k,.int .i64 z.uid,.int .i64 z.gid] #[.int .i64 xp,.string (bs xf),.string (bs xn),.string (bs xg),.string (bs xm),.int .i64 xo,.int .i64 xc,.int .i64 xh,.string (bs xd),.bool b1,.int .i64 i1,.bool b2,.int .i64 i2,.bool b3,.int .i64 i3,.bool b4,.int .i64 i4,.bool b5,.int .i64 i5,.bool b6,.int .i64 i6,.int .i64 xk,.int .i64 xv,.string (bs xt)] w'/\Ip bc bt #[.int .i64 z.id,.int .i64 k,.int .i64 z.uid,.int .i64 z.gid] #[.int .i64 xp,.string (bs xf),.string (bs xn),.string (bs xg),.string (bs xm),.int .i64 xo,.int .i64 xc,.int .i64 xh,.string (bs xd),.bool b1,.int .i64 i1,.bool b2,.int .i64 i2,.bool b3,.int .i64 i3,.bool b4,.int .i64 i4,.bool b5,.int .i64 i5,.bool b6,.int .i64 i6,.int .i64 xk,.int .i64 xv,.string (bs xt)] (w'.setCell ⟨g,54,none⟩ (.slice A n2 cc)))) (by rfl) (.tmp 128) (.tmp 133) #[60,60] (by rfl) _ _ (by rfl) (by rfl) HAp.out ?_;rintro v' w12 ⟨A,n2,cc,rfl,q54,f54,hK,hS12,hS13⟩)
  |fail)
 all_goals
  obtain⟨hA3,ht3,bX3,bC3⟩:=hK;have hT2:Touch F w W2.drew:=HT.out.drew;have hsz:w.heap.size<=W2.heap.size:=HT.out.size;obtain⟨hg,hp,hx⟩:=HG.out;simp only[Exit.then];apply_assumption;exact Ak3 F _ w _ g bx bc (n+1) m _ t _ x k step now hA3 (fun j hj=>by
   rcases hj with hj|hj
   ·exact hGk j hj
   ·exact .inr (Nat.le_trans hsz hj.1)) (hT2.trans ht3 fun j hj hg2=>by
   rcases hGk j hg2 with h|h
   ·exact h
   ·omega) ⟨hg.ps,hg.parts,hg.now,by rw[List.length_append];exact Nat.succ_le_succ hg.recs,hg.todo,fun _=>by simp,hg.id,hg.uid,hg.gid⟩ hp (by simp) bX3 bC3 hx hk2 hnw _ _ _ _ _ _ _ _ _ _ _ _ _ _ _ _ _ _ _ _ _ _ _ _ _ _ _ _ _ _ _ _ _ _ _ _ _ _ _ _ _ _ _ _ _ _ _ _ _ _ _ _ _ _ _ _ _ _ _ _ _ _ _ _ _ _ _ _ _ _ _ _ _ _ _ _ _ _ _ _ _ _ _ _ _ _ _ _ _ _ _ _ _ _ _ _ _ _ _ _ _ _ _ _ _ _ _ _ _ _ _ _ _ _ _ _ _ _ _ _ _ _ _ _ _ _ _ _ _ _ _ _ _ _ _ _ _ _ _ _ _ _ _ _ _ _ _ _ _ _ _ _ _ _ _ _ _ _ _ _ _ _ _ _
end
section
attribute [local go_sem ↓] Qy D6 N9 Pw
attribute [local go_sem] Bv Bj Cc Bu Cd Cj Cm C2 Bc Az B7 C5 Bi C6 Bp Dt C8 C7 Dz D5 Cy
attribute [local go_sem low] Cr
attribute [local go_sem] P6 Call.len A8.len D0 Adg
attribute [local go_sem ↓] Uh
attribute [local go_sem] Kz Ly J3 Pk List.cons_append List.nil_append
theorem Ak5 (F G:Nat->Prop)(w W:World)(g bx bt n m:Nat)(z:Co)(t:List C1)(l:List Bz)(x y:Call)(step now:Int)(hA:FAt G W g z t l)(hGk:∀j,G j->F j\/w.heap.size<=j)(hT:Touch F w W)(hG:Iq n m z t l)(hp:L0 z.now)(hn:n<=900000)(bX:Blk W bx 36 x.vals)(bT:Blk W bt 36 y.vals)(hx:OkX x)(hnw:0<=now/\now<=1099511627776)(y3 y4 y5 y6 y9 ja jb jc jd je jf jg jh ji jj jk jl jm jn jo jp jq jr js jt ju jv jw jx jy jz j0 j1 j2 j3 j4 j5 j6 j7 j8 j9 ka kb kc kd ke kf kg kh ki kj kk kl km kn ko kp kq kr ks kt ku kv kw kx ky kz k0 k1 k2 k3 k4 k5 k6 k7 k8 k9 la lb lc ld lf lg lh li lj lk ll lm ln lo lp lq lr ls lu lv lw lx ly lz l0 l1 l2 l3 l4 l5 l6 l7 l8 l9 oa ob oc od oe og oh oi oj ok ol om on oo op oq os ot ou ov ow ox oy oz o0 o1 o2 o3 o4 o5 o6 o7 o8 o9 qa qb qc qd qe qf qg qh qi qj qk ql qm qn qo qp qq qr qs qt:Value) :
  Code.wp Tryz.prog (Ja 13 (Tryz.f42.body.getD .ret)) (bodyPost Tryz.prog Tryz.f42 (Acz F g (n+1) m w)) ⟨#[.pointer (some ⟨g,0,none⟩),.int .i64 step,.int .i64 now,y3,y4,y5,y6,.pointer (some ⟨bx,0,none⟩),.pointer (some ⟨bt,0,none⟩),y9,ja,jb,jc,jd,je,jf,jg,jh,ji,jj,jk,jl,jm,jn,jo,jp,jq,jr,js,jt,ju,jv,jw,jx,jy,jz,j0,j1,j2,j3,j4,j5,j6,j7,j8,j9,ka,kb,kc,kd,ke,kf,kg,kh,ki,kj,kk,kl,km,kn,ko,kp,kq,kr,ks,kt,ku,kv,kw,kx,ky,kz,k0,k1,k2,k3,k4,k5,k6,k7,k8,k9,la,lb,lc,ld,lf,lg,lh,li,lj,lk,ll,lm,ln,lo,lp,lq,lr,ls,lu,lv,lw,lx,ly,lz,l0,l1,l2,l3,l4,l5,l6,l7,l8,l9,oa,ob,oc,od,oe,og,oh,oi,oj,ok,ol,om,on,oo,op,oq,os,ot,ou,ov,ow,ox,oy,oz,o0,o1,o2,o3,o4,o5,o6,o7,o8,o9,qa,qb,qc,qd,qe,qf,qg,qh,qi,qj,qk,ql,qm,qn,qo,qp,qq,qr,qs,qt],[]⟩ W:=by
 change Code.wp _ (Code.seq (Code.region 13 _ _) _) _ _ _;dsimp only;have hrn:z.rn=l.length:=by have:=hA.recs.lenOf;rwa [List.length_map]at this
 have hll:=hG.recs;have hgW:=hA.blk.lt;have c54:W.cell? ⟨g,54,none⟩=some (.slice z.ra l.length z.rc):=by rw[hA.blk.cell 54,<-hrn];rfl
 have c0:W.cell? ⟨g,0,none⟩=some (.int .i64 z.id):=hA.blk.cell 0;have c52:W.cell? ⟨g,52,none⟩=some (.int .i64 z.uid):=hA.blk.cell 52;have c53:W.cell? ⟨g,53,none⟩=some (.int .i64 z.gid):=hA.blk.cell 53;have hkw:IntKind.i64.wrap (((l.length:Nat):Int)+1)=((l.length:Nat):Int)+1:=IntWalk.i64_in _ (by omega);have HA:=Zh hA;have HT:=Zh hT;have HG:=Zh (And.intro hG (And.intro hp hx));have HX:=Zh bX;have HTb:=Zh bT;clear hA hT hG hp hx bX bT
 go_upto_region 14 with fail;obtain⟨k,hk⟩:∃k:Int,k=((l.length:Nat):Int)+1:=⟨_,rfl⟩;rw[<-hk];have hk2:0<=k/\k<=4294967295:=by omega
 have HK:=Zh hk;clear hkw c54 hk;go_region;have bC0:=Blk.new W 63 (A8.mk z.id k z.uid z.gid).vals;obtain⟨W2,hW2⟩:∃V,V=(W.alloc (.cells (A8.mk z.id k z.uid z.gid).vals.toArray 63)).drew:=⟨_,rfl⟩;change Exit.then _ _ _ _ (W.alloc (.cells (A8.mk z.id k z.uid z.gid).vals.toArray 63)).drew;rw[<-hW2];have hB2:Below W.heap.size W W2:=by rw[hW2];exact((Below.refl _ _).alloc (Nat.le_refl _) _).drew
 have bC:Blk W2 W.heap.size 63 (A8.mk z.id k z.uid z.gid).vals:=by rw[hW2];exact bC0.drew
 have hA2:=HA.out.below hB2;have bX2:=HX.out.stays hB2;have bT2:=HTb.out.stays hB2;have hT2:=HT.out.Ay (Touch.Aq hB2 F);simp only[Exit.then];apply_assumption;exact Ak4 F G w W2 g bx bt W.heap.size n m z t l x y k step now hA2 hGk hT2 HG.out.1 HG.out.2.1 hn bX2 bT2 bC HG.out.2.2 hk2 hnw _ _ _ _ _ _ _ _ _ _ _ _ _ _ _ _ _ _ _ _ _ _ _ _ _ _ _ _ _ _ _ _ _ _ _ _ _ _ _ _ _ _ _ _ _ _ _ _ _ _ _ _ _ _ _ _ _ _ _ _ _ _ _ _ _ _ _ _ _ _ _ _ _ _ _ _ _ _ _ _ _ _ _ _ _ _ _ _ _ _ _ _ _ _ _ _ _ _ _ _ _ _ _ _ _ _ _ _ _ _ _ _ _ _ _ _ _ _ _ _ _ _ _ _ _ _ _ _ _ _ _ _ _ _ _ _ _ _ _ _ _ _ _ _ _ _ _ _ _ _ _ _ _ _ _ _ _ _ _ _ _ _ _
end
section
theorem Vc (x:Step):Da 94 (.agg x.vals.toArray)=true:=by
 obtain⟨_,⟨⟩,⟨⟩,⟨⟩,_,_⟩:=x;rfl
section
variable {ρ:Operand->Value} {w:World} {dst:Option Tmp} {ty:TypeId} {pos:String} {after:Array Edge} {g:Option (Nat × Bool)} {a b c d:Operand}
end
attribute [local go_sem ↓] Aeh L6 Gq
attribute [local go_sem] Cy Vc Step.len
end
end Go.Proofs.YtfjflkmhhbhceaaGreatDoor
