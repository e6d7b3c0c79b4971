/-
  Layer 33, walks: the document's client is asked: what is put behind its calls (printed by wip/tools/genfarask.py). Condition: numbers within their bounds.
-/
import Derived.Test.YtfjflkmhhbhceaaGreatDoorO39
import Derived.Test.YtfjflkmhhbhceaaGreatDoorO32
import Derived.Test.YtfjflkmhhbhceaaGreatDoorO31
import Derived.Test.YtfjflkmhhbhceaaGreatDoorO30
import Derived.Test.YtfjflkmhhbhceaaGreatDoorO28
set_option maxRecDepth 20000
set_option maxHeartbeats 40000000
namespace Go.Proofs.YtfjflkmhhbhceaaGreatDoor
open Go.RowKit
attribute [local go_sem ↓] Go.wp_at_zero Go.wp_at_succ
attribute [local go_sem] Ai Ag Af Ab Aj
section
attribute [local go_sem ↓] D6 Y9 Ahw Aeu Alb An1
attribute [local go_sem] Bv Bj Cc Bu Cd Cm C2 Bc Az B7 C5 Bi C6 Bp Dt C8 C7 Dz D5 Cy
attribute [local go_sem low] Cr
attribute [local go_sem high] Af3
attribute [local go_sem] Call.len Xg Kz J3
theorem Aip.wr {a:Ask}{step now:Int}{x:Call}(h:Aip a step now x)(hc:Hk a.call)(hk:a.kind=3):0<=x.offset/\x.offset<=9223372036854775807/\x.data.length<=256:=by
 have hp:=h.part hc (d:=0) (t:=0) (p:=0) (by decide) (by decide) (by decide);have hx:x={ Aw with proc:=7,offset:=a.call.offset,data:=a.call.data,how:=2 }:=by rw[h.is];unfold Bq;rw[if_neg (by omega),if_neg (by omega),if_pos hk]
 have h7:x.proc=7:=by rw[hx]
 have hm:=hp.may;rw[show (⟨x,0,0,0⟩:C1).c.proc=7 from h7]at hm;unfold E2 at hm;have m1:=List.all_eq_true.1 hm 100 (by decide);have m2:=List.all_eq_true.1 hm 111 (by decide);have e1:C0 x 100=true:=m1;have e2:C0 x 111=true:=m2;unfold C0 at e1 e2;simp only[reduceIte,decide_eq_true_eq,show ((100:Nat)=102)=False by simp,show ((100:Nat)=70)=False by simp,show ((100:Nat)=110)=False by simp,show ((100:Nat)=78)=False by simp,show ((100:Nat)=116)=False by simp]at e1;simp only[reduceIte,decide_eq_true_eq,show ((111:Nat)=102)=False by simp,show ((111:Nat)=70)=False by simp,show ((111:Nat)=110)=False by simp,show ((111:Nat)=78)=False by simp,show ((111:Nat)=116)=False by simp,show ((111:Nat)=100)=False by simp]at e2;exact⟨e2,by rw[hx];exact hc.offset,e1⟩
theorem Aqu (F:Nat->Prop)(w W:World)(g bA bx bp i n m:Nat)(z:Co)(t:List C1)(l:List Bz)(a:Ask)(x:Call)(p:Gc)(step now:Int)(hA:FAt F W g z t l)(hG:Iq n m z t l)(hT:Touch F w W)(hlt:∀k,F k->k<w.heap.size)(bA1:Blk W bA 38 a.vals)(bX1:Blk W bx 36 x.vals)(bP1:Blk W bp 96 p.vals)(hp:p=z.place i)(hM:Aip a step now x)(hc:Hk a.call)(hi:a.var=(i:Int))(hi4:i<4)(hn:n<=900000)(hm:m<=899990)(hnow:0<=now/\now<=1099511627776)(lA:w.heap.size<=bA)(lx:w.heap.size<=bx)(lp:w.heap.size<=bp)(y1 y4 y6 y7 y8 y9 ja jc jd je jf jg jh ji jj jk jl jm jn jo jp jq jr js jt ju jv jw jx jy jz j0 j1 j2 j3 j4 j5 j6 j7 j8 j9 ka kb kc kd ke kf kg kh ki kj kk kl km kn ko kp kq kr ks kt ku kv kw kx ky kz k0 k2 k4 k6 k7 k8 k9 la lb lc ld lf lg lh li lj lk ll lm ln lo lq lr ls lu lv lw ly lz l0 l1 l2 l3 l4 l5 l6 l7 l8 l9 oa ob oc oe og oh oi oj ok ol om on oo op oq os ot ou ov ow ox oy oz o2 o3 o4 o5 o6 o7 o8 o9 qa qb qc qd qe qf qg qh qi qj qk ql qm qn qo qp qq qr qs qt qu qv qw qx qy qz q0 q1 q4 q5 q6 q7 q8 q9 ra rb rc rd re rf rg rh ri:Value) :
  Code.wp Tryz.prog (Ju 9 (Tryz.f12.body.getD .ret)) (bodyPost Tryz.prog Tryz.f12 (Asl F g (n+1) (m+4) w)) ⟨#[.pointer (some ⟨g,0,none⟩),y1,.int .i64 step,.int .i64 now,y4,.pointer (some ⟨bA,0,none⟩),y6,y7,y8,y9,.pointer (some ⟨bx,0,none⟩),ja,.pointer (some ⟨bp,0,none⟩),jc,jd,je,jf,jg,jh,ji,jj,jk,jl,jm,jn,jo,jp,jq,jr,js,jt,ju,jv,jw,jx,jy,jz,j0,j1,j2,j3,j4,j5,j6,j7,j8,j9,ka,kb,kc,kd,ke,kf,kg,kh,ki,kj,kk,kl,km,kn,ko,kp,kq,kr,ks,kt,ku,kv,kw,kx,ky,kz,k0,k2,k4,k6,k7,k8,k9,la,lb,lc,ld,lf,lg,lh,li,lj,lk,ll,lm,ln,lo,lq,lr,ls,lu,lv,lw,ly,lz,l0,l1,l2,l3,l4,l5,l6,l7,l8,l9,oa,ob,oc,oe,og,oh,oi,oj,ok,ol,om,on,oo,op,oq,os,ot,ou,ov,ow,ox,oy,oz,o2,o3,o4,o5,o6,o7,o8,o9,qa,qb,qc,qd,qe,qf,qg,qh,qi,qj,qk,ql,qm,qn,qo,qp,qq,qr,qs,qt,qu,qv,qw,qx,qy,qz,q0,q1,q4,q5,q6,q7,q8,q9,ra,rb,rc,rd,re,rf,rg,rh,ri],[]⟩ W:=by
 change Code.wp _ (Code.seq (Code.seq (Code.region 9 _ _) _) _) _ _ _;dsimp only;have a0:W.cell? ⟨bA,0,none⟩=some (.int .i64 a.kind):=bA1.cell 0;have a1:W.cell? ⟨bA,1,none⟩=some (.int .i64 (i:Int)):=by rw[bA1.cell 1,<-hi];rfl
 have hgl:=hA.blk.lt;have nA:¬F bA:=fun h=>by have:=hlt _ h;omega
 have nX:¬F bx:=fun h=>by have:=hlt _ h;omega
 have nP:¬F bp:=fun h=>by have:=hlt _ h;omega
 have hv0:=hM.var;rw[hi]at hv0;have KA:=Zh (Ahv F W g n m ⟨z,t,l,hA,hG⟩ (by omega) i hi4);have HD:=Zh (fun V (hT':Touch F W V)=>And.intro (bA1.Ak hT' nA) (And.intro (bX1.Ak hT' nX) (bP1.Ak hT' nP)));have HX:=Zh (And.intro hA (And.intro hG (And.intro hT (And.intro hM (And.intro hc trivial)))));have HI:=Zh hi;have HV:=Zh hv0;have HB:=Zh (And.intro bA1 (And.intro bX1 bP1));have HP:=Zh hp;have hi0:(0:Int)<=(i:Int):=by omega
 have hi1:(i:Int)<4:=by omega
 clear hA hG hT hM hc hv0 nA nX nP hi bA1 bX1 bP1 hp hlt
 go_upto_region 9 with fail
 go_cut [45] from 44 to 44 (fun v wx=>∃κ,v=.int .i64 κ/\κ=a.kind/\wx=W)
 case first=>
  go_wp2;go_meet
  case rel=>exact⟨_,rfl,rfl,rfl⟩
 case rest=>
 obtain⟨κ,rfl,hκ,hw⟩:=hcut;have HKD:=Zh hκ;clear hκ a0;have hw2:=hw.symm;clear hw;subst hw2;apply_assumption
 go_cut [8,9,13] from 46 to 181 (fun _ _ _ wx=>Ex F g n (m+4) W wx)
 case first=>
  by_cases k1:κ=1
  case pos=>
   subst k1;have k1:=Zh HKD.out.symm
   skip
   go_upto_region 14 with (first
    |(go_at_call 40;refine KA.out.mono ?_;rintro e V ⟨rfl,⟨⟨H,⟨z',t',l',hA',hG'⟩,hk⟩,hT'⟩⟩)
    |fail)
   obtain⟨bA2,bX2,bP2⟩:=HD.out V hT';have c19:V.cell? ⟨g,19,none⟩=some (.slice z'.ta z'.tn z'.tc):=hA'.blk.cell 19;have hgV:=hA'.blk.lt;have hlB:=bA2.lt;have hlX:=bX2.lt;have hS0:=Jj.of HI.out bA2 bX2;have hSd:=Jj.of HI.out bA2.drew bX2.drew;have HSa:=Zh (fun (o:Obj)=>(show Jj bA bx a x i (V.alloc o).drew from Jj.of HI.out ((bA2.stays ((Below.refl V.heap.size V).alloc (Nat.le_refl _) o)).drew) ((bX2.stays ((Below.refl V.heap.size V).alloc (Nat.le_refl _) o)).drew)));have HAp:=Zh (Ug hA' hG' hk hT' HI.out bA2 bX2 [⟨{ Aw with proc:=1 },a.dir,0,-1⟩,⟨x,a.dir,0,i⟩,⟨{ Aw with proc:=1 },i,0,-1⟩] (fun q hq=>by
    simp only[List.mem_cons,List.not_mem_nil,or_false]at hq;rcases hq with rfl|rfl|rfl
    ·exact Ze (HX.out.2.2.2.1.dir (.inl k1.out))
    ·exact HX.out.2.2.2.1.part HX.out.2.2.2.2.1 (HX.out.2.2.2.1.dir (.inl k1.out)) (by decide) hi1
    ·exact Ze HV.out) (Nat.le_of_ble_eq_true rfl) (by omega) (k:=3) rfl (cs:=([Value.int .i64 1,.string ⟨#[]⟩,.string ⟨#[]⟩,.string ⟨#[]⟩,.string ⟨#[]⟩,.int .i64 0,.int .i64 0,.int .i64 0,.string ⟨#[]⟩,.bool false,.int .i64 0,.bool false,.int .i64 0,.bool false,.int .i64 0,.bool false,.int .i64 0,.bool false,.int .i64 0,.bool false,.int .i64 0,.int .i64 0,.int .i64 0,.string ⟨#[]⟩,.int .i64 a.dir,.int .i64 0,.int .i64 (-1)]++((x.vals++[Value.int .i64 a.dir,Value.int .i64 0,Value.int .i64 (i:Int)])++[Value.int .i64 1,.string ⟨#[]⟩,.string ⟨#[]⟩,.string ⟨#[]⟩,.string ⟨#[]⟩,.int .i64 0,.int .i64 0,.int .i64 0,.string ⟨#[]⟩,.bool false,.int .i64 0,.bool false,.int .i64 0,.bool false,.int .i64 0,.bool false,.int .i64 0,.bool false,.int .i64 0,.bool false,.int .i64 0,.int .i64 0,.int .i64 0,.string ⟨#[]⟩,.int .i64 (i:Int),.int .i64 0,.int .i64 (-1)])).toArray) rfl 3)
   obtain⟨s1,s2,s3,rX⟩:=hS0;clear hA' hG' hk hT' bA2 bX2 bP2;rw[Hs 98 (.tmp 72)];go_region_held3 (Jj bA bx a x i) (first|with_reducible assumption|exact⟨s1,s2,s3,rX⟩|exact hSd|exact HSa.out _) (first
    |(refine Cp (R:=fun v' w'=>∃A n' cc,v'=.slice A n' cc/\w'.cell? ⟨g,19,none⟩=some (.slice z'.ta z'.tn z'.tc)/\w'.frozen? ⟨g,19,none⟩=false/\Ex F g n ((m+1)+3) W (w'.setCell ⟨g,19,none⟩ (.slice A n' cc))/\Jj bA bx a x i w'/\Jj bA bx a x i (w'.setCell ⟨g,19,none⟩ (.slice A n' cc))) (by rfl) (.tmp 73) (.tmp 88) #[98,98] (by rfl) _ _ (by rfl) (by rfl) HAp.out ?_;rintro v' w12 ⟨A,n',cc,rfl,q19,f19,hK,hS12,hS13⟩)
    |fail)
   all_goals
    have HK:=Zh hK;clear hK q19 f19 hS12 hS13 hSd;go_wp2;go_meet
    case rel=>exact HK.out
  by_cases k3:κ=3
  case pos=>
   subst k3;have k3:=Zh HKD.out.symm
   skip
   obtain⟨o0,o1,od⟩:=HX.out.2.2.2.1.wr HX.out.2.2.2.2.1 k3.out;have x8:W.cell? ⟨bx,8,none⟩=some (.string (bs x.data)):=HB.out.2.1.cell 8;have x5:W.cell? ⟨bx,5,none⟩=some (.int .i64 x.offset):=HB.out.2.1.cell 5;have p2:W.cell? ⟨bp,2,none⟩=some (.int .i64 p.at_):=HB.out.2.2.cell 2;have p3:W.cell? ⟨bp,3,none⟩=some (.string (bs p.bytes)):=HB.out.2.2.cell 3;by_cases hd:x.data=[]
   ·rw[hd]at x8
    go_wp2;go_ret2
    exact⟨⟨_,_,rfl⟩,(Ex.same HX.out.1 HX.out.2.1 (by omega) (by omega) (Below.refl _ _)).from_ HX.out.2.2.1⟩
   have hde:x.data.isEmpty=false:=by simpa using hd
   have hpg:=HX.out.2.1.ps i;rw[<-HP.out]at hpg;obtain⟨-,-,hb1,hb2,hb3⟩:=hpg;have hsx:=Au x.data;have hsp:=Au p.bytes;have hsub:IntKind.i64.wrap (x.offset - p.at_)=x.offset - p.at_:=IntWalk.i64_in _ (by omega);have hadd:IntKind.i64.wrap ((p.bytes.length:Int)+(x.data.length:Int))=(p.bytes.length:Int)+(x.data.length:Int):=IntWalk.i64_in _ (by omega);obtain⟨jb,hjb⟩:∃b:Bool,b=decide (p.bytes≠[]/\x.offset - p.at_=(p.bytes.length:Int)/\(p.bytes.length:Int)+(x.data.length:Int)<=256):=⟨_,rfl⟩
   go_upto_region 18 with fail
   go_cut [120] from 97 to 119 (fun v wx=>v=.bool jb/\wx=W)
   case first=>
    by_cases h1:p.bytes=[]
    ·have hj:jb=false:=by rw[hjb];exact decide_eq_false (fun h=>h.1 h1)
     rw[h1]at p3;clear hjb;go_wp2;go_meet
     case rel=>exact⟨by rw[hj],rfl⟩
    ·have h1e:p.bytes.isEmpty=false:=by simpa using h1
     by_cases h2:x.offset - p.at_=(p.bytes.length:Int)
     ·have h2b:(x.offset - p.at_==(p.bytes.length:Int))=true:=by simpa using h2
      have hj:jb=decide ((p.bytes.length:Int)+(x.data.length:Int)<=256):=by rw[hjb];exact decide_eq_decide.2 ⟨fun h=>h.2.2,fun h=>⟨h1,h2,h⟩⟩
      clear hjb;go_wp2;go_meet
      case rel=>exact⟨by rw[hj],rfl⟩
     ·have h2b:(x.offset - p.at_==(p.bytes.length:Int))=false:=by simpa using h2
      have hj:jb=false:=by rw[hjb];exact decide_eq_false (fun h=>h2 h.2.1)
      clear hjb;go_wp2;go_meet
      case rel=>exact⟨by rw[hj],rfl⟩
   case rest=>
   obtain⟨rfl,hw⟩:=hcut;have hw2:=hw.symm;clear hw;subst hw2;cases jb
   case true=>
    have hy:=of_decide_eq_true hjb.symm;have c3:W.cell? ⟨g,3+i*4+3,none⟩=some (.string (bs (z.place i).bytes)):=by
     obtain⟨-,-,-,q3⟩:=Gj z hi4;exact(HX.out.1.blk.cell _).trans q3
    have fW:=HX.out.1.blk.frozen;have HE:=Zh (show Asl F g (n+1) (m+4) w (.returned (.tuple #[.slice none 0 0,.int .i64 0])) (W.setCell ⟨g,3+i*4+3,none⟩ (.string (bs (p.bytes++x.data)))).drew from by
     have hb3:=(HX.out.1.blk.Be (3+i*4+3) (.string (bs (p.bytes++x.data)))).drew;rw[Aem z hi4]at hb3;have hpg:=HX.out.2.1.ps i;have ht3:=((Touch.refl (fun k=>k=g) W).setCell (p:=⟨g,3+i*4+3,none⟩) (.inl rfl) (.string (bs (p.bytes++x.data)))).drew;exact⟨⟨_,_,rfl⟩,((FIs.place HX.out.1 HX.out.2.1 hi4 (p:={ z.place i with bytes:=p.bytes++x.data }) ⟨hpg.handle,hpg.gen,by show (p.bytes++x.data).length<=256;rw[List.length_append];omega,hpg.at_⟩ ht3 hb3).more (by omega) (by omega)).from_ HX.out.2.2.1⟩)
    rw[<-Bl]at HE;clear hjb hy
    go_upto_region 19 with fail;go_region;simp only[Exit.then];apply_assumption;go_wp2;go_ret2
    exact HE.out
   case false=>
    clear hjb p2 p3
    go_upto_region 22 with (first
     |(go_at_call 40;refine KA.out.mono ?_;rintro e V ⟨rfl,⟨⟨H,⟨z',t',l',hA',hG'⟩,hk⟩,hT'⟩⟩)
     |fail)
    obtain⟨bA2,bX2,bP2⟩:=HD.out V hT';have c2:V.cell? ⟨g,3+i*4+2,none⟩=some (.int .i64 (z'.place i).at_):=by
     obtain⟨-,-,q2,-⟩:=Gj z' hi4;exact(hA'.blk.cell _).trans q2
    have c3:V.cell? ⟨g,3+i*4+3,none⟩=some (.string (bs (z'.place i).bytes)):=by
     obtain⟨-,-,-,q3⟩:=Gj z' hi4;exact(hA'.blk.cell _).trans q3
    have v1:V.cell? ⟨bA,1,none⟩=some (.int .i64 (i:Int)):=by rw[bA2.cell 1,<-HI.out];rfl
    have v5:V.cell? ⟨bx,5,none⟩=some (.int .i64 x.offset):=bX2.cell 5;have v8:V.cell? ⟨bx,8,none⟩=some (.string (bs x.data)):=bX2.cell 8;have fV:=hA'.blk.frozen;have hgV:=hA'.blk.lt;have hag:bA≠g:=fun e=>by subst e;exact absurd (bA2.ne_ hA'.blk (by decide)) (fun h=>h rfl)
    have hxg:bx≠g:=fun e=>by subst e;exact absurd (bX2.ne_ hA'.blk (by decide)) (fun h=>h rfl)
    have HQ:=Zh (And.intro hA' (And.intro hG' (And.intro hk hT')));clear hA' hG' hk hT' bP2;have HE2:=Zh (show Ex F g n (m+4) W ((V.setCell ⟨g,3+i*4+2,none⟩ (.int .i64 x.offset)).drew.setCell ⟨g,3+i*4+3,none⟩ (.string (bs x.data))).drew from by
     obtain⟨hA',hG',hk,hT'⟩:=HQ.out;have hb3:=((hA'.blk.Be (3+i*4+2) (.int .i64 x.offset)).drew.Be (3+i*4+3) (.string (bs x.data))).drew;rw[Qs z' hi4]at hb3;have hpg:=hG'.ps i;have ht3:=(((Touch.refl (fun k=>k=g) V).setCell (p:=⟨g,3+i*4+2,none⟩) (.inl rfl) (.int .i64 x.offset)).drew.setCell (p:=⟨g,3+i*4+3,none⟩) (.inl rfl) (.string (bs x.data))).drew;have p1:Ex F g n (m+1) W V:=⟨⟨H,⟨z',t',l',hA',hG'⟩,hk⟩,hT'⟩;exact(p1.Abv (FIs.place hA' hG' hi4 (p:={ z'.place i with at_:=x.offset,bytes:=x.data }) ⟨hpg.handle,hpg.gen,od,⟨o0,o1⟩⟩ ht3 hb3) hk).more (by omega) (by omega))
    go_region;simp only[Exit.then];apply_assumption;obtain⟨V2,hV2⟩:∃U,U=(V.setCell ⟨g,3+i*4+2,none⟩ (.int .i64 x.offset)).drew:=⟨_,rfl⟩;rw[<-hV2];rw[<-hV2]at HE2;have w1:V2.cell? ⟨bA,1,none⟩=some (.int .i64 (i:Int)):=by rw[hV2];exact((bA2.far (p:=⟨g,3+i*4+2,none⟩) hag _).drew.cell 1).trans (by rw[<-HI.out];rfl)
    have w8:V2.cell? ⟨bx,8,none⟩=some (.string (bs x.data)):=by rw[hV2];exact(bX2.far (p:=⟨g,3+i*4+2,none⟩) hxg _).drew.cell 8
    have hb4:=(HQ.out.1.blk.Be (3+i*4+2) (.int .i64 x.offset)).drew;rw[<-hV2]at hb4;have w3:V2.cell? ⟨g,3+i*4+3,none⟩=some (.string (bs (z'.place i).bytes)):=by
     obtain⟨-,-,-,q3⟩:=Gj z' hi4;rw[hb4.cell (3+i*4+3),List.getElem?_set_ne (by omega)];exact q3
    have f2:=hb4.frozen;have hg2:=hb4.lt;clear hV2 hb4 c2 c3 v1 v5 v8 fV hgV HQ bA2 bX2;go_region;apply_assumption;go_meet
    case rel=>exact HE2.out
  by_cases k5:κ=5
  case pos=>
   subst k5;have k5:=Zh HKD.out.symm
   skip
   have x0:W.cell? ⟨bx,0,none⟩=some (.int .i64 x.proc):=HB.out.2.1.cell 0;have KB:=fun W=>Ak7 x.proc W
   cases hb:Rx x.proc
   case false=>
    rw[hb]at KB
    go_upto_region 29 with (first
     |(go_at_call 41;refine(KB _).mono ?_;rintro e wb ⟨rfl,hwb⟩;rw[hwb];clear hwb)
     |(go_at_call 40;refine KA.out.mono ?_;rintro e V ⟨rfl,⟨⟨H,⟨z',t',l',hA',hG'⟩,hk⟩,hT'⟩⟩;have v1:V.cell? ⟨bA,1,none⟩=some (.int .i64 (i:Int)):=(by rw[(HD.out V hT').1.cell 1,<-HI.out];rfl))
     |fail)
    have hTr:=Touch.refl F W;have c19:W.cell? ⟨g,19,none⟩=some (.slice z.ta z.tn z.tc):=HX.out.1.blk.cell 19;have hgV:=HX.out.1.blk.lt;have hlB:=HB.out.1.lt;have hlX:=HB.out.2.1.lt;have hS0:=Jj.of HI.out HB.out.1 HB.out.2.1;have hSd:=Jj.of HI.out HB.out.1.drew HB.out.2.1.drew;have HSa:=Zh (fun (o:Obj)=>(show Jj bA bx a x i (W.alloc o).drew from Jj.of HI.out ((HB.out.1.stays ((Below.refl W.heap.size W).alloc (Nat.le_refl _) o)).drew) ((HB.out.2.1.stays ((Below.refl W.heap.size W).alloc (Nat.le_refl _) o)).drew)));have HAp:=Zh (Ug HX.out.1 HX.out.2.1 (fun k hk=>.inl hk) hTr HI.out HB.out.1 HB.out.2.1 [⟨x,a.dir,a.to_,(-1)⟩] (fun q hq=>by rw[List.mem_singleton]at hq;subst hq;exact HX.out.2.2.2.1.part HX.out.2.2.2.2.1 (HX.out.2.2.2.1.dir (.inr k5.out)) (HX.out.2.2.2.1.to_ k5.out) (by decide)) (Nat.le_of_ble_eq_true rfl) (by omega) (k:=1) rfl (cs:=(x.vals++[Value.int .i64 a.dir,Value.int .i64 a.to_,Value.int .i64 (-1)]).toArray) rfl 1);obtain⟨s1,s2,s3,rX⟩:=hS0;clear hTr;rw[Hs 98 (.tmp 169)];go_region_held3 (Jj bA bx a x i) (first|with_reducible assumption|exact⟨s1,s2,s3,rX⟩|exact hSd|exact HSa.out _) (first
     |(refine Cp (R:=fun v' w'=>∃A n' cc,v'=.slice A n' cc/\w'.cell? ⟨g,19,none⟩=some (.slice z.ta z.tn z.tc)/\w'.frozen? ⟨g,19,none⟩=false/\Ex F g n (m+3) W (w'.setCell ⟨g,19,none⟩ (.slice A n' cc))/\Jj bA bx a x i w'/\Jj bA bx a x i (w'.setCell ⟨g,19,none⟩ (.slice A n' cc))) (by rfl) (.tmp 170) (.tmp 178) #[98,98] (by rfl) _ _ (by rfl) (by rfl) HAp.out ?_;rintro v' w12 ⟨A,n',cc,rfl,q19,f19,hK,hS12,hS13⟩)
     |fail)
    all_goals
     have HK:=Zh hK;clear hK q19 f19 hS12 hS13 hSd;go_wp2;go_meet
     case rel=>exact HK.out.more (Nat.le_refl _) (by omega)
   case true=>
    rw[hb]at KB
    go_upto_region 29 with (first
     |(go_at_call 41;refine(KB _).mono ?_;rintro e wb ⟨rfl,hwb⟩;rw[hwb];clear hwb)
     |(go_at_call 40;refine KA.out.mono ?_;rintro e V ⟨rfl,⟨⟨H,⟨z',t',l',hA',hG'⟩,hk⟩,hT'⟩⟩;have v1:V.cell? ⟨bA,1,none⟩=some (.int .i64 (i:Int)):=(by rw[(HD.out V hT').1.cell 1,<-HI.out];rfl))
     |fail)
    obtain⟨bA2,bX2,bP2⟩:=HD.out V hT';have c19:V.cell? ⟨g,19,none⟩=some (.slice z'.ta z'.tn z'.tc):=hA'.blk.cell 19;have hgV:=hA'.blk.lt;have hlB:=bA2.lt;have hlX:=bX2.lt;have hS0:=Jj.of HI.out bA2 bX2;have hSd:=Jj.of HI.out bA2.drew bX2.drew;have HSa:=Zh (fun (o:Obj)=>(show Jj bA bx a x i (V.alloc o).drew from Jj.of HI.out ((bA2.stays ((Below.refl V.heap.size V).alloc (Nat.le_refl _) o)).drew) ((bX2.stays ((Below.refl V.heap.size V).alloc (Nat.le_refl _) o)).drew)));have HAp:=Zh (Ug hA' hG' hk hT' HI.out bA2 bX2 [⟨x,a.dir,a.to_,i⟩] (fun q hq=>by rw[List.mem_singleton]at hq;subst hq;exact HX.out.2.2.2.1.part HX.out.2.2.2.2.1 (HX.out.2.2.2.1.dir (.inr k5.out)) (HX.out.2.2.2.1.to_ k5.out) hi1) (Nat.le_of_ble_eq_true rfl) (by omega) (k:=1) rfl (cs:=(x.vals++[Value.int .i64 a.dir,Value.int .i64 a.to_,Value.int .i64 i]).toArray) rfl 1);obtain⟨s1,s2,s3,rX⟩:=hS0;clear hA' hG' hk hT' bA2 bX2 bP2;rw[Hs 98 (.tmp 169)];go_region_held3 (Jj bA bx a x i) (first|with_reducible assumption|exact⟨s1,s2,s3,rX⟩|exact hSd|exact HSa.out _) (first
     |(refine Cp (R:=fun v' w'=>∃A n' cc,v'=.slice A n' cc/\w'.cell? ⟨g,19,none⟩=some (.slice z'.ta z'.tn z'.tc)/\w'.frozen? ⟨g,19,none⟩=false/\Ex F g n ((m+1)+3) W (w'.setCell ⟨g,19,none⟩ (.slice A n' cc))/\Jj bA bx a x i w'/\Jj bA bx a x i (w'.setCell ⟨g,19,none⟩ (.slice A n' cc))) (by rfl) (.tmp 170) (.tmp 178) #[98,98] (by rfl) _ _ (by rfl) (by rfl) HAp.out ?_;rintro v' w12 ⟨A,n',cc,rfl,q19,f19,hK,hS12,hS13⟩)
     |fail)
    all_goals
     have HK:=Zh hK;clear hK q19 f19 hS12 hS13 hSd;go_wp2;go_meet
     case rel=>exact HK.out
  skip
  go_upto_region 11 with (first
   |(go_at_call 40;refine KA.out.mono ?_;rintro e V ⟨rfl,⟨⟨H,⟨z',t',l',hA',hG'⟩,hk⟩,hT'⟩⟩)
   |fail)
  obtain⟨bA2,bX2,bP2⟩:=HD.out V hT';have c19:V.cell? ⟨g,19,none⟩=some (.slice z'.ta z'.tn z'.tc):=hA'.blk.cell 19;have hgV:=hA'.blk.lt;have hlB:=bA2.lt;have hlX:=bX2.lt;have hS0:=Jj.of HI.out bA2 bX2;have hSd:=Jj.of HI.out bA2.drew bX2.drew;have HSa:=Zh (fun (o:Obj)=>(show Jj bA bx a x i (V.alloc o).drew from Jj.of HI.out ((bA2.stays ((Below.refl V.heap.size V).alloc (Nat.le_refl _) o)).drew) ((bX2.stays ((Below.refl V.heap.size V).alloc (Nat.le_refl _) o)).drew)));have HAp:=Zh (Ug hA' hG' hk hT' HI.out bA2 bX2 [⟨x,i,0,-1⟩] (fun q hq=>by rw[List.mem_singleton]at hq;subst hq;exact HX.out.2.2.2.1.part HX.out.2.2.2.2.1 HV.out (by decide) (by decide)) (Nat.le_of_ble_eq_true rfl) (by omega) (k:=1) rfl (cs:=(x.vals++[Value.int .i64 (i:Int),Value.int .i64 0,Value.int .i64 (-1)]).toArray) rfl 1);obtain⟨s1,s2,s3,rX⟩:=hS0;clear hA' hG' hk hT' bA2 bX2 bP2;rw[Hs 98 (.tmp 53)];go_region_held3 (Jj bA bx a x i) (first|with_reducible assumption|exact⟨s1,s2,s3,rX⟩|exact hSd|exact HSa.out _) (first
   |(refine Cp (R:=fun v' w'=>∃A n' cc,v'=.slice A n' cc/\w'.cell? ⟨g,19,none⟩=some (.slice z'.ta z'.tn z'.tc)/\w'.frozen? ⟨g,19,none⟩=false/\Ex F g n ((m+1)+3) W (w'.setCell ⟨g,19,none⟩ (.slice A n' cc))/\Jj bA bx a x i w'/\Jj bA bx a x i (w'.setCell ⟨g,19,none⟩ (.slice A n' cc))) (by rfl) (.tmp 54) (.tmp 59) #[98,98] (by rfl) _ _ (by rfl) (by rfl) HAp.out ?_;rintro v' w12 ⟨A,n',cc,rfl,q19,f19,hK,hS12,hS13⟩)
   |fail)
  all_goals
   have HK:=Zh hK;clear hK q19 f19 hS12 hS13 hSd;go_wp2;go_meet
   case rel=>exact HK.out
 case rest=>
 skip
 obtain⟨⟨H,⟨z',t',l',hA',hG'⟩,hk⟩,hT'⟩:=hcut;have HP1:=Zh (show Ex F g n (m+4) W _ from ⟨⟨H,⟨z',t',l',hA',hG'⟩,hk⟩,hT'⟩);have KN:=Zh (Abj H _ g n (m+4) ⟨z',t',l',hA',hG'⟩ hn (by omega) step now hnow);have HK:=Zh hk;clear hA' hG' hk hT' a1 hgl
 go_wp2_with (first
  |(go_at_call 42;refine KN.out.mono ?_;rintro e w6 ⟨⟨v,rfl⟩,hpost⟩)
  |fail)
 go_ret2
 exact⟨⟨_,_,rfl⟩,((HP1.out.Abv hpost HK.out)).from_ HX.out.2.2.1⟩
end
section
attribute [local go_sem ↓] S9 Y1 F1 D6 L6
attribute [local go_sem] Bv Bj Cc Bu Cd Cj Cm C2 Bc Az B7 C5 Bi C6 Bp Dt C8 C7 Dz D5 Cy
attribute [local go_sem low] Cr
attribute [local go_sem] F4 T3 Call.len Ask.len Gc.len D0 Nr O9
theorem An0 (F:Nat->Prop)(w:World)(g n m:Nat)(hI:FIs F w g n m)(hn:n<=900000)(hm:m<=899990)(a:Ask)(hc:Hk a.call)(step now:Int) :
  Calls Tryz.prog 12 #[.pointer (some ⟨g,0,none⟩),.agg a.vals.toArray,.int .i64 step,.int .i64 now] w (Asl F g (n+1) (m+4) w):=by
 obtain⟨z,t,l,hA,hG⟩:=hI;have bA:=Blk.new w 38 a.vals;have hB:Below w.heap.size w (w.alloc (.cells a.vals.toArray 38)):=(Below.refl _ _).alloc (Nat.le_refl _) _;obtain⟨w1,hw1⟩:∃V,V=w.alloc (.cells a.vals.toArray 38):=⟨_,rfl⟩;rw[<-hw1]at bA hB;have hA1:=hA.below hB;have c47:w1.cell? ⟨g,47,none⟩=some (.bool z.busy):=hA1.blk.cell 47;have rA:rowOf w1 w.heap.size 0 30=some a.vals.toArray:=bA.row 0 30 (by rw[Ask.len];decide);have HW1:=Zh hw1;have KM:=Zh (Anu a step now w1);have hgl:=hA1.blk.lt;have hag:w.heap.size≠g:=by have:=hA.blk.lt;omega
 have HS:=Zh (And.intro hA1 (And.intro hG (And.intro hB (And.intro bA (And.intro hA.lt hA.fg)))));have hE:∀V,Below w1.heap.size w1 V->Ex F g (n+1) (m+4) w V:=fun V hb=>(Ex.same hA1 hG (Nat.le_succ n) (by omega) hb).from_ (Touch.Aq hB F)
 have HE:=Zh hE;clear hw1 hA hA1 hG hB bA hE;go_enter Tryz.func12,Tryz.ntmps12
 go_upto_region 1 with fail;change Code.wp _ _ _ _ (w.alloc (.cells a.vals.toArray 38));rw[<-HW1.out];cases hb:z.busy
 case true=>
  rw[hb]at c47;go_wp2;go_ret2
  exact⟨⟨_,_,rfl⟩,HE.out _ (Below.refl _ _)⟩
 case false=>
 rw[hb]at c47;clear hb
 go_upto_region 4 with (first
  |(go_at_call 39;refine KM.out.mono ?_;rintro e wt ⟨x,b,rfl,hMx,hbt⟩)
  |fail)
 change Code.wp _ _ _ _ (wt.alloc (.cells x.vals.toArray 36));have bX0:=Blk.new wt 36 x.vals;have hb0:Below w1.heap.size w1 (wt.alloc (.cells x.vals.toArray 36)):=hbt.alloc hbt.size _;obtain⟨W0,hW0⟩:∃V,V=wt.alloc (.cells x.vals.toArray 36):=⟨_,rfl⟩;rw[<-hW0];rw[<-hW0]at bX0 hb0;have hts:=hbt.size;clear hW0 hbt c47 rA KM HW1;cases b
 case false=>
  go_wp2;go_ret2
  exact⟨⟨_,_,rfl⟩,HE.out _ hb0⟩
 case true=>
 have hM:=hMx rfl;clear hMx;obtain⟨i,hi,hi4⟩:=P9 hM.var;have hA0:=HS.out.1.below hb0;have bA0:=HS.out.2.2.2.1.stays hb0;have a4:W0.cell? ⟨w.heap.size,4,none⟩=some (.int .i64 a.uid):=bA0.cell 4;have a5:W0.cell? ⟨w.heap.size,5,none⟩=some (.int .i64 a.gid):=bA0.cell 5;have g52:W0.cell? ⟨g,52,none⟩=some (.int .i64 z.uid):=hA0.blk.cell 52;have g53:W0.cell? ⟨g,53,none⟩=some (.int .i64 z.gid):=hA0.blk.cell 53;have fg0:=hA0.blk.frozen;have hg0:=hA0.blk.lt;have hxg:wt.heap.size≠g:=by have:=HS.out.1.blk.lt;omega
 obtain⟨hA3,hT3⟩:=hA0.who a.uid a.gid;have bA3:=(bA0.far (p:=⟨g,52,none⟩) hag (.int .i64 a.uid)).far (p:=⟨g,53,none⟩) hag (.int .i64 a.gid);have bX3:=(bX0.far (p:=⟨g,52,none⟩) hxg (.int .i64 a.uid)).far (p:=⟨g,53,none⟩) hxg (.int .i64 a.gid);have H0:=Zh (And.intro hM (And.intro hb0 (And.intro hA3 (And.intro hT3 (And.intro bA3 bX3)))));clear hM hA0 bA0 hA3 hT3 bA3 bX3 bX0
 go_upto_region 8 with fail;obtain⟨hM,hb0,hA3,hT3,bA3,bX3⟩:=H0.out;obtain⟨W,hW⟩:∃V,V=(W0.setCell ⟨g,52,none⟩ (.int .i64 a.uid)).setCell ⟨g,53,none⟩ (.int .i64 a.gid):=⟨_,rfl⟩;rw[<-hW];rw[<-hW]at hA3 hT3 bA3 bX3;obtain⟨z3,hz3⟩:∃q,q=({ z with uid:=a.uid,gid:=a.gid }:Co):=⟨_,rfl⟩;rw[<-hz3]at hA3;obtain⟨p,hp⟩:∃q,q=z3.place i:=⟨_,rfl⟩;have q1:W.cell? ⟨w.heap.size,1,none⟩=some (.int .i64 (i:Int)):=by rw[bA3.cell 1,<-hi];rfl
 have rP:rowOf W g (3+i*4) 4=some p.vals.toArray:=by
  have h:=hA3.blk.row (3+i*4) 4 (by rw[Co.len];omega);rw[Y6 z3 hi4,<-hp]at h;exact h
 have hgW:=hA3.blk.lt;have hi0:(0:Int)<=(i:Int):=by omega
 have hi1:(i:Int)<4:=by omega
 have HW:=Zh (And.intro hA3 (And.intro hT3 (And.intro bA3 (And.intro bX3 (And.intro hz3 (And.intro hp hi))))));have HM:=Zh (And.intro hM hb0);have hlA:=bA3.lt;have hlX:=bX3.lt;clear hW hA3 hT3 bA3 bX3 hz3 hp hM hb0 H0 a4 a5 g52 g53 fg0 hg0;go_region;simp only[Exit.then];apply_assumption;obtain⟨hA3,hT3,bA3,bX3,hz3,hp,hi⟩:=HW.out;obtain⟨hM,hb0⟩:=HM.out;have hb9:Below W.heap.size W (W.alloc (.cells p.vals.toArray 96)).drew:=((Below.refl _ _).alloc (Nat.le_refl _) _).drew;have hT9:Touch F w (W.alloc (.cells p.vals.toArray 96)).drew:=((Touch.Aq (Ad HS.out.2.2.1 hb0) F).Ay (hT3.mono fun k _ hk=>by subst hk;exact HS.out.2.2.2.2.2)).Ay (Touch.Aq hb9 F);have hgd:=HS.out.2.1;have hwho:=hM.who;unfold Ac4 at hwho;simp only[Bool.and_eq_true,decide_eq_true_eq]at hwho;have hnw:=hM.now;unfold Fo at hnw;simp only[Bool.and_eq_true,decide_eq_true_eq]at hnw;have hG3:Iq n m z3 t l:=by
  rw[hz3];exact⟨hgd.ps,hgd.parts,hgd.now,hgd.recs,hgd.todo,hgd.busy,hgd.id,by show 0<=a.uid/\a.uid<=4294967295;omega,by show 0<=a.gid/\a.gid<=4294967295;omega⟩
 have hs1:=HS.out.2.2.1.size;have hs2:=hb0.size;have hs3:=hT3.size;exact Aqu F w _ g w.heap.size wt.heap.size W.heap.size i n m z3 t l a x p step now (hA3.below hb9) hG3 hT9 HS.out.2.2.2.2.1 (bA3.stays hb9) (bX3.stays hb9) (Blk.new W 96 p.vals).drew hp hM hc hi hi4 hn hm hnw (Nat.le_refl _) (by omega) (by omega) _ _ _ _ _ _ _ _ _ _ _ _ _ _ _ _ _ _ _ _ _ _ _ _ _ _ _ _ _ _ _ _ _ _ _ _ _ _ _ _ _ _ _ _ _ _ _ _ _ _ _ _ _ _ _ _ _ _ _ _ _ _ _ _ _ _ _ _ _ _ _ _ _ _ _ _ _ _ _ _ _ _ _ _ _ _ _ _ _ _ _ _ _ _ _ _ _ _ _ _ _ _ _ _ _ _ _ _ _ _ _ _ _ _ _ _ _ _ _ _ _ _ _ _ _ _ _ _ _ _ _ _ _ _ _ _ _ _ _ _ _ _ _ _ _ _ _ _ _ _ _ _ _ _ _ _ _ _ _ _ _ _ _ _ _ _ _ _ _ _ _ _ _ _ _ _ _ _ _ _
end
section
section
variable {F:Nat->Prop} {w:World} {g:Nat} {z:Co} {t:List C1} {l:List Bz}
theorem FAt.As7 (h:FAt F w g z t l)(hn:l.length<=1000000)(hne:l≠[])(c0:Nat) :
  ∃v' w',(Builtin.append_ #[60,60] 60 #[.slice (some ⟨w.heap.size,0,none⟩) 0 0,.slice z.ra z.rn c0]).run Tryz.prog (w.alloc (.cells #[] 65))=.ok v' w' /\
   ∃A n cc,v'=.slice A n cc/\w'.cell? ⟨g,54,none⟩=some (.slice z.ra z.rn z.rc)/\w'.frozen? ⟨g,54,none⟩=false /\
    FAt (fun k=>F k\/(w.heap.size<=k/\k<w'.heap.size)) (w'.setCell ⟨g,54,none⟩ (.slice A n cc)) g { z with ra:=A,rn:=n,rc:=cc } t l/\Touch F w (w'.setCell ⟨g,54,none⟩ (.slice A n cc)):=by
 obtain⟨b,hb⟩:∃b,z.ra=some ⟨b,0,none⟩:=by
  rcases h.recs.2.2 with ⟨h1,h2⟩|⟨g',cap,cur,h1,_⟩
  ·simp only[List.length_map]at h2
   exact absurd (List.length_eq_zero_iff.1 h2) hne
  ·injection h1 with h1 _ _
   exact⟨g',h1⟩
 have hnl:z.rn=l.length:=by have:=h.recs.lenOf;rwa [List.length_map]at this
 have hB:Below w.heap.size w (w.alloc (.cells #[] 65)):=(Below.refl _ _).alloc (Nat.le_refl _) _;have hrow:=As.Arr w w.heap.size 65 88 (Nat.le_refl _);have hsz:(w.alloc (.cells #[] 65)).heap.size=w.heap.size+1:=by simp
 generalize w.alloc (.cells #[] 65)=w3 at *;have h3:=h.below hB;have hat:=h3.recs;rw[hb]at hat ⊢;have hcell:∀j u,(l.map Bz.vals).flatten[j]?=some u->w3.cell? ((⟨b,0,none⟩:Addr).add j)=some u:=(hat.rows).flat (sz:=88) (Pr _) (by decide);obtain⟨v',w',hrun,hR,hgr,hat2⟩:=As.Zs (k:=z.rn) (ty:=60) (news:=l.map Bz.vals) Tryz.underlying60 Lm rfl (by decide) (by decide) hrow (by omega) ⟨b,0,none⟩ hcell (Pr _) (fun q hq u hu=>by obtain⟨y,_,rfl⟩:=List.mem_map.1 hq;exact Bz.one y u hu) (by rw[List.length_map];simp;omega) (by rw[List.length_map];exact hnl) c0;rw[List.nil_append]at hR;obtain⟨A,cc,hv,-⟩:=hR.at_;refine⟨v',w',hrun,A,_,cc,hv,?_⟩
 rw[hv]at hR hat2;generalize (List.map Bz.vals l).length=n at *;have htr:Touch (fun k=>k=w.heap.size) w3 w':=Touch.Mq hgr fun k hk=>by
  have:w.heap.size=k:=by simpa[Value.ownBlock] using hk
  exact this.symm
 have hgl:∀k,F k->k<w.heap.size:=h.lt;have hwl:w3.heap.size<=w'.heap.size:=htr.size;have hg:=h.fg;have hAw:=h3.Ik htr (fun k hk e=>by have:=hgl k hk;omega);have hbg:=hAw.blk;obtain⟨q1,q2⟩:=hAw.Ait (G:=fun k=>F k\/(w.heap.size<=k/\k<w'.heap.size)) (Touch.refl _ _) (Touch.refl _ _) hR (fun k hk=>.inr (hR.lt k hk)) (fun k hk=>.inl hk) (fun k hk=>by
  rcases hk with hk|hk
  ·have:=hgl k hk;omega
  ·exact hk.2)
 refine⟨by rw[<-hb];exact hbg.cell 54,hbg.frozen 54,q1,?_⟩
 have e1:Touch F w w3:=Touch.Aq hB F;have e2:Touch F w w':=e1.trans htr fun k hk e=>by omega
 exact e2.setCell (p:=⟨g,54,none⟩) (.inl hg) _
theorem FAt.Ani (h:FAt F w g z t l)(hne:l≠[]):∃b m,z.ra=some ⟨b,0,none⟩/\z.rn=m+1/\l.length=m+1/\F b/\b≠g/\Ar w b (m*88+5) 1=true/\Ar w b (m*88+30) 58=true/\(∃v,w.cell? ⟨b,m*88+5,none⟩=some v)/\w.frozen? ⟨b,m*88+5,none⟩=false/\Gb w [65] b:=by
 have hrow:=h.recs;have hn:z.rn=l.length:=by have:=hrow.lenOf;rwa [List.length_map]at this
 obtain⟨m,hm⟩:∃m,l.length=m+1:=⟨l.length - 1,by
  have h1:0<l.length:=by cases l with
   |nil=>exact absurd rfl hne
   |cons _ _=>simp
  omega⟩
 rcases hrow.2.2 with ⟨h1,h2⟩|⟨b,cap,cur,h1,h2,h3,h4,h5,h6,h7⟩
 ·simp only[List.length_map]at h2
  omega
 ·injection h1 with h1 h1n h1c
  simp only[List.length_map]at h4 h1n;have ht:w.heap[b]?=some (.cells cur 65 (0,0)):=h3;have hsz:(m+1)*88<=cur.size:=by
   have:(m+1)*88<=cap*88:=Nat.mul_le_mul_right _ (by omega);omega
  have hin:m*88+88<=cur.size:=by omega
  have htB:∀o k,o+k<=cur.size->Ar w b o k=true:=fun o k hk=>by
   unfold Ar;rw[ht]
   simpa using hk
  have hty:Gb w [65] b:=⟨_,_,_,ht,by decide⟩;refine⟨b,m,h1,by omega,hm,h.orecs b (by rw[h1];rfl),fun e=>?_,htB _ _ (by omega),htB _ _ (by omega),?_,?_,hty⟩
  ·subst e
   have h8:=h.blk;unfold Blk at h8;rw[ht]at h8;injection h8 with h8;injection h8 with _ h8;exact absurd h8 (by decide)
  ·have:=(Jf (htB (m*88+5) 1 (by omega)) 0 (by omega)).1
   exact Option.isSome_iff_exists.1 this
  ·exact(Jf (htB (m*88+5) 1 (by omega)) 0 (by omega)).2
theorem FAt.Aqd (h:FAt F w g z t l){b m:Nat}(hb:z.ra=some ⟨b,0,none⟩)(hm:l.length=m+1)(step:Int) :
  (∃l',FAt F (w.setCell ⟨b,m*88+5,none⟩ (.int .i64 step)) g z t l'/\l'.length=m+1)/\Touch (fun k=>k=b) w (w.setCell ⟨b,m*88+5,none⟩ (.int .i64 step)):=by
 obtain⟨b',m',q1,q2,q3,q4,q5,q6,q7,-,-,q8⟩:=h.Ani (by intro e;rw[e]at hm;cases hm);rw[hb]at q1;injection q1 with q1;injection q1 with q1 _ _;subst q1;obtain rfl:m'=m:=by omega
 obtain⟨l0,y,rfl⟩:∃l0 y,l=l0++[y]:=by
  rcases List.eq_nil_or_concat l with rfl|⟨l0,y,h⟩
  ·cases hm
  ·exact⟨l0,y,by rw[h,List.concat_eq_append]⟩
 have hl0:l0.length=m':=by simpa using hm
 have hrow:=h.recs;rw[hb]at hrow;rw[q2]at hrow;have hT:Touch (fun k=>k=b) w (w.setCell ⟨b,m'*88+5,none⟩ (.int .i64 step)):=(Touch.refl (fun k=>k=b) w).setCell (p:=⟨b,m'*88+5,none⟩) (.inl rfl) _;have hty:Touch (Gb w [65]) w (w.setCell ⟨b,m'*88+5,none⟩ (.int .i64 step)):=hT.mono fun k _ hk=>by subst hk;exact q8
 have e1:∀x:Bz,x.vals=x.vals.take 5++([.int .i64 x.end_]++x.vals.drop 6):=fun x=>rfl
 have h1:=hrow;rw[List.map_append,List.map_cons,List.map_nil,e1 y]at h1;have h2:=As.Td (r:=[.int .i64 step]) h1 rfl (by rw[<-e1 y];simp[hl0]);rw[List.length_map,hl0,show (y.vals.take 5).length=5 from rfl]at h2;rw[show y.vals.take 5++([Value.int .i64 step]++y.vals.drop 6)=({ y with end_:=step }:Bz).vals from rfl]at h2;have h4:As (w.setCell ⟨b,m'*88+5,none⟩ (.int .i64 step)) 0 65 88 (.slice z.ra z.rn z.rc) ((l0++[({ y with end_:=step }:Bz)]).map Bz.vals):=by
  rw[hb,q2,List.map_append,List.map_cons,List.map_nil];exact h2
 have hsz:=hT.size;exact⟨⟨l0++[{ y with end_:=step }],⟨h.blk.Ak hT (Ne.symm q5),h.todo.tou hty (by decide),h.otodo,h4,h.orecs,h.fg,fun k hk=>Nat.lt_of_lt_of_le (h.lt k hk) hsz⟩,by simp[hl0]⟩,hT⟩
theorem FAt.Aqb (h:FAt F w g z t l){b m:Nat}(hb:z.ra=some ⟨b,0,none⟩)(hm:l.length=m+1)(r:Aa) :
  (∃l',FAt F (putsW w b (m*88+30) r.vals) g z t l'/\l'.length=m+1)/\Touch (fun k=>k=b) w (putsW w b (m*88+30) r.vals):=by
 obtain⟨b',m',q1,q2,q3,q4,q5,q6,q7,-,-,q8⟩:=h.Ani (by intro e;rw[e]at hm;cases hm);rw[hb]at q1;injection q1 with q1;injection q1 with q1 _ _;subst q1;obtain rfl:m'=m:=by omega
 obtain⟨l0,y,rfl⟩:∃l0 y,l=l0++[y]:=by
  rcases List.eq_nil_or_concat l with rfl|⟨l0,y,h⟩
  ·cases hm
  ·exact⟨l0,y,by rw[h,List.concat_eq_append]⟩
 have hl0:l0.length=m':=by simpa using hm
 have hrow:=h.recs;rw[hb]at hrow;rw[q2]at hrow;have hT:Touch (fun k=>k=b) w (putsW w b (m'*88+30) r.vals):=(Touch.refl (fun k=>k=b) w).D2 (.inl rfl);have hty:Touch (Gb w [65]) w (putsW w b (m'*88+30) r.vals):=hT.mono fun k _ hk=>by subst hk;exact q8
 have e2:∀x:Bz,x.vals=x.vals.take 30++(x.Il.vals++[]):=fun x=>by rw[List.append_nil];rfl
 have h1:=hrow;rw[List.map_append,List.map_cons,List.map_nil,e2 y]at h1;have h3:=As.Td (r:=r.vals) h1 (by rw[Aa.len,Aa.len]) (by rw[<-e2 y];simp[hl0]);rw[List.length_map,hl0,show (y.vals.take 30).length=30 from rfl,<-B9]at h3;rw[show y.vals.take 30++(r.vals++[])=({ y with Il:=r }:Bz).vals by rw[List.append_nil];rfl]at h3;have h4:As (putsW w b (m'*88+30) r.vals) 0 65 88 (.slice z.ra z.rn z.rc) ((l0++[({ y with Il:=r }:Bz)]).map Bz.vals):=by
  rw[hb,q2,List.map_append,List.map_cons,List.map_nil];exact h3
 have hsz:=hT.size;exact⟨⟨l0++[{ y with Il:=r }],⟨h.blk.Ak hT (Ne.symm q5),h.todo.tou hty (by decide),h.otodo,h4,h.orecs,h.fg,fun k hk=>Nat.lt_of_lt_of_le (h.lt k hk) hsz⟩,by simp[hl0]⟩,hT⟩
theorem FAt.none_ (h:FAt F w g z t l):FAt F (w.setCell ⟨g,19,none⟩ (.slice none 0 0)) g { z with ta:=none,tn:=0,tc:=0 } [] l/\Touch (fun k=>k=g) w (w.setCell ⟨g,19,none⟩ (.slice none 0 0)):=by
 have ht:Touch (fun k=>k=g) w (w.setCell ⟨g,19,none⟩ (.slice none 0 0)):=(Touch.refl (fun k=>k=g) w).setCell (p:=⟨g,19,none⟩) (.inl rfl) _;obtain⟨h1,-⟩:=h.Abz (G:=F) (t2:=[]) (A:=none) (n:=0) (c:=0) (w1:=w) (Touch.refl _ _) (Touch.refl _ _) (As.none_ (B:=0)) (fun k hk=>by cases hk) (fun k hk=>hk) h.lt;exact⟨h1,ht⟩
theorem Co.Aso (z:Co)(b:Bool):z.vals.set 47 (.bool b)=({ z with busy:=b }:Co).vals:=rfl
theorem Aen (z:Co){n:Nat}(hn:n<4)(h:List UInt8)(k:Int):(z.vals.set (3+n*4) (.string (bs h))).set (3+n*4+1) (.int .i64 k)=(z.Cq n { z.place n with handle:=h,gen:=k }).vals:=by
 rcases (show n=0\/n=1\/n=2\/n=3 by omega) with rfl|rfl|rfl|rfl
 all_goals exact rfl
end
theorem Adt (n:Nat)(r:Rs):(En n r).1.length<=n:=by
 unfold En
 repeat' split
 all_goals first|exact Nat.zero_le _|(simp only[List.length_take];omega)
theorem Adu (r:Rs):(Ao 64 r).1.length<=64:=by
 unfold Ao;split
 ·exact Nat.zero_le _
 ·split
  ·exact Nat.zero_le _
  ·have:=Adt (Am r).1 (Am r).2;omega
theorem Ar0 {c:Nat}{d:Dd}{r:Rs}(h:d.f.fh.length<=64):(pTk c d r).1.f.fh.length<=64:=by
 unfold pTk;refine G0 (fun (x:Dd × Rs)=>x.1.f.fh.length<=64) (Adu r) ?_
 iterate 13 refine G0 (fun (x:Dd × Rs)=>x.1.f.fh.length<=64) h ?_
 exact h
theorem Amv {l:List UInt8}{d:Dd}{r:Rs}(h:d.f.fh.length<=64):∀k,k<=l.length->(pSt l d r k).1.f.fh.length<=64
 |0,_=>h
 |k+1,hk=>by
  rw[Ps l d r k hk];exact Ar0 (Amv h k (by omega))
theorem Apx {p:Int}{s:List UInt8}{d:Dd}(h:Ok p s=some d):d.f.fh.length<=64:=by
 unfold Ok at h;generalize Am ⟨s,0⟩=y at *;obtain⟨n,q⟩:=y;simp only at *
 split at h
 ·cases h
 ·split at h
  ·have hd:=Option.some.inj h
   rw[<-hd];exact Amv (Nat.zero_le _) _ (Nat.le_refl _)
  ·cases h
end
section
theorem Ai5 (gen:Int)(w:World)(hg:gen<=9223372036854775807):Calls Tryz.prog 154 #[.int .i64 gen] w fun e w'=>(∃s,e=.returned (.string (bs s)))/\w'=w:=by
  by_cases h:gen<1
  · go_enter Tryz.func154,Tryz.ntmps154
    go_wp2;go_ret;exact⟨⟨[],rfl⟩,rfl⟩
  · obtain⟨n,rfl⟩:∃n:Nat,gen=n:=⟨gen.toNat,by omega⟩
    go_enter Tryz.func154,Tryz.ntmps154
    go_wp2_with fail;refine(Wx n _ hg).mono ?_
    rintro e w' ⟨rfl,rfl⟩;go_wp2;go_ret;exact⟨⟨_,rfl⟩,rfl⟩
theorem Wp:(Tryz.prog.info? 126).map (fun i=>(i.zero,i.size,i.bytes))=some (some (.agg (Entry.mk 0 [] 0 Db []).vals.toArray),15,136):=by kernel_rfl
section
variable {ρ:Operand->Value} {w:World} {dst:Option Tmp} {ty:TypeId} {pos:String} {after:Array Edge} {g:Option (Nat × Bool)} {a:Operand}
theorem Ahy (h:Da 15 (ρ a)=true):(execOp ρ ⟨dst,.buildSlice 48 1 #[(0,a)],ty,pos,after,g⟩).run Tryz.prog w=.ok (.value (.slice (some ⟨w.heap.size,0,none⟩) 1 1)) (w.alloc (.cells (cellsOf (ρ a)).toArray 126)):=by
  have hr:=F2 (s:=15) (n:=1) Tryz.underlying48 Wp (by decide) (by decide) [ρ a] rfl (by decide) (by decide) (fun v hv=>by rw[List.mem_singleton]at hv;subst hv;exact E4 h) w;rw[show [ρ a].flatMap cellsOf=cellsOf (ρ a) by simp]at hr;unfold execOp;simp only[List.map_toArray,List.map_cons,List.map_nil];rw[Sem.run_bind];rw[show (#[(0,ρ a)]:Array (Nat × Value))=(([ρ a].zipIdx 0).map fun x=>(x.2,x.1)).toArray from rfl,hr];rfl
end
attribute [local go_sem ↓] Le Ji Aan Abc Po Ahy
attribute [local go_sem] Bv Bj Cc Bu Cd Bp Cj Vj Dt C8 C7 Dz D5 Cy
attribute [local go_sem low] Cr
attribute [local go_sem] Aa.len Entry.len Ho T1
structure O5 (w:World) (r:Aa) (es:List Entry) (k:Nat) (v:Value) (W:World):Prop where
  a:Blk W w.heap.size 51 r.vals
  b:Blk W (w.heap.size+1) 51 Bt.vals
  src:At W 15 r.ea (es.map Entry.vals)
  row:∃rows:List Entry,rows.length=k/\As W (w.heap.size+2) 126 15 v (rows.map Entry.vals)
  l:Below w.heap.size w W
  old:∀b off,r.ea=some ⟨b,off,none⟩->es≠[]->b<w.heap.size
theorem O5.below {w:World}{r:Aa}{es:List Entry}{k:Nat}{v:Value}{W W':World}(h:O5 w r es k v W)(hb:Below W.heap.size W W'):O5 w r es k v W':=by
  obtain⟨rows,h1,h2⟩:=h.row;exact⟨h.a.stays hb,h.b.stays hb,h.src.below hb,⟨rows,h1,h2.stays hb⟩,Ad h.l hb,h.old⟩
theorem Abt (x:Qv)(w:World)(hx:x.Kk w)(h1:x.es.length<=1000000)(hg:x.r.obj.attr.gen<=9223372036854775807)(hgs:∀e∈x.es,e.gen<=9223372036854775807) :
    Calls Tryz.prog 106 #[.agg x.r.vals.toArray] w fun e w'=>(∃r:Aa,e=.returned (.agg r.vals.toArray))/\Below w.heap.size w w':=by
  obtain⟨bA,bR,hB,hs⟩:=A7 w x.r.vals Bt.vals 51 51;obtain⟨w1,hw1⟩:∃V,V=(w.alloc (.cells x.r.vals.toArray 51)).alloc (.cells Bt.vals.toArray 51):=⟨_,rfl⟩;rw[<-hw1]at bA bR hB hs;have HW1:=Zh hw1;have c1:w1.cell? ⟨w.heap.size,1,none⟩=some (.string (bs x.r.fh)):=bA.cell 1;have c10:w1.cell? ⟨w.heap.size,10,none⟩=some (.int .i64 x.r.obj.attr.gen):=bA.cell 10;have tA:=bA.Ar 1 1 (by rw[Aa.len];decide);have hs1:w1.heap.size=w.heap.size+2:=hs;have hold:∀b off,x.r.ea=some ⟨b,off,none⟩->x.es≠[]->b<w.heap.size:=fun b off h3 h4=>by
    obtain⟨y,ys,hy⟩:∃y ys,x.es=y::ys:=by
      cases h:x.es with
      | nil=>exact absurd h h4
      | cons y ys=>exact⟨y,ys,rfl⟩
    obtain⟨b2,o2,h5,h6,-⟩:=hx.e 0 y.vals (by rw[hy];rfl);rw[h3]at h5;injection h5 with h5;injection h5 with h5 _ _;omega
  have hWn:O5 w x.r x.es 0 (.slice none 0 0) w1:=⟨bA,bR,hx.e.below hB,⟨[],rfl,As.none_⟩,hB,hold⟩;have hWs:∀(V:World) (hb:Below w1.heap.size w1 V) (s:List UInt8),O5 w { x.r with fh:=s } x.es 0 (.slice none 0 0) (putsW V w.heap.size 1 [.string (bs s)]):=fun V hb s=>by
    have hBV:=Ad hB hb;have hBp:Below w.heap.size w (putsW V w.heap.size 1 [.string (bs s)]):=by rw[B9];exact Below.setCells (Nat.le_refl _) _ _ _ hBV
    have q1:=(bA.stays hb).D2 1 [.string (bs s)];rw[X8]at q1;exact⟨q1,(bR.stays hb).Jh (by omega),hx.e.below hBp,⟨[],rfl,As.none_⟩,hBp,hold⟩
  have HWn:=Zh (And.intro hWn hWs);have HEn:=Zh hx.ne;have HXe:=Zh hx.e;have HGs:=Zh hgs;have KD:=fun V=>Ai5 x.r.obj.attr.gen V hg
  clear hw1 bA bR hB hs hold hWn hWs hx hgs;go_enter Tryz.func106,Tryz.ntmps106
  go_upto_region 1 with fail;change Code.wp _ _ _ _ ((w.alloc (.cells x.r.vals.toArray 51)).alloc (.cells Bt.vals.toArray 51));rw[<-HW1.out]
  go_upto_if 8 with fail;generalize (!x.r.fh.isEmpty)=bm at *
  go_cut [] from 9 to 14 (fun wx=>∃r:Aa,r.ea=x.r.ea/\r.en=x.r.en/\r.ec=x.r.ec/\O5 w r x.es 0 (.slice none 0 0) wx)
  case first=>
    cases bm
    case false=>
      go_wp2;go_meet
      case rel=>exact⟨x.r,rfl,rfl,rfl,HWn.out.1⟩
    case true=>
      go_wp2_with (first
        | (go_at_call 154;refine(KD _).mono ?_;rintro e wt ⟨⟨s,rfl⟩,hwt⟩;rw[hwt];clear hwt)
        | fail)
      go_meet
      case rel=>exact⟨{ x.r with fh:=s },rfl,rfl,rfl,HWn.out.2 _ (Below.refl _ _) s⟩
  case rest=>
  obtain⟨r,hea,hen,hec,hW⟩:=hcut;have hen2:r.en=x.es.length:=hen.trans HEn.out;obtain⟨A,hA⟩:∃A,r.ea=A:=⟨_,rfl⟩;have HC:=Zh hW;have HX:=Zh (show At w 15 r.ea (x.es.map Entry.vals) from by rw[hea];exact HXe.out);have HA:=Zh (And.intro hA hen2);clear c1 c10 tA hea hen hec hW hA hen2 HWn KD;go_wp2
  go_loopw [3,4] (fun v i wr=>∃k:Nat,k<=x.es.length/\i=.int .i64 k/\O5 w r x.es k v wr) (fun _ i _=>x.es.length - (intOf i).toNat)
  case atStart=>exact⟨0,Nat.zero_le _,rfl,HC.out⟩
  case round=>
    obtain⟨k,hk,rfl,hT⟩:=hrel;have c56:wr.cell? ⟨w.heap.size,56,none⟩=some (.slice A x.es.length r.ec):=by rw[hT.a.cell 56,<-HA.out.1,<-HA.out.2];rfl
    by_cases hlt:k<x.es.length
    · have hk0:(0:Int)<=(k:Int):=Int.natCast_nonneg _
      have hk1:(k:Int)<(x.es.length:Int):=by omega
      have hkw:IntKind.i64.wrap ((k:Int)+1)=((k+1:Nat):Int):=by rw[IntWalk.i64_in _ (by omega)];omega
      obtain⟨b1,o1,hna,hb1,rE,-⟩:=Hw Entry.len (by decide) hT.src hlt;rw[HA.out.1]at hna;subst hna;have hgen:=HGs.out _ (List.getElem_mem hlt);generalize x.es[k]=ek at *;have bE:=Blk.new wr 126 ek.vals;have hb5:Below wr.heap.size wr (wr.alloc (.cells ek.vals.toArray 126)):=(Below.refl _ _).alloc (Nat.le_refl _) _;obtain⟨w5,hw5⟩:∃V,V=wr.alloc (.cells ek.vals.toArray 126):=⟨_,rfl⟩;rw[<-hw5]at bE hb5;have HW5:=Zh hw5;have HT:=Zh (hT.below hb5);have HT0:=Zh hT;have HB5:=Zh hb5;have e0:w5.cell? ⟨wr.heap.size,0,none⟩=some (.int .i64 ek.gen):=bE.cell 0;have e14:w5.cell? ⟨wr.heap.size,14,none⟩=some (.string (bs ek.fh)):=bE.cell 14;have tE:=bE.Ar 14 1 (by rw[Entry.len];decide);have HE:=Zh bE;have hww:w.heap.size+2<=wr.heap.size:=by have:=hT.b.lt;omega
      have KD:=fun V=>Ai5 ek.gen V hgen
      clear hw5 hT bE hb5
      go_upto_region 8 with fail;change Code.wp _ _ _ _ (wr.alloc (.cells ek.vals.toArray 126));rw[<-HW5.out]
      go_upto_if 29 with fail;generalize (!ek.fh.isEmpty)=bq at *
      go_cut [] from 30 to 33 (fun wx=>∃y:Entry,Blk wx wr.heap.size 126 y.vals/\O5 w r x.es k u3 wx)
      case first=>
        cases bq
        case false=>
          go_wp2;go_meet
          case rel=>exact⟨ek,HE.out,HT.out⟩
        case true=>
          go_wp2_with (first
            | (go_at_call 154;refine(KD _).mono ?_;rintro e wt ⟨⟨s,rfl⟩,hwt⟩;rw[hwt];clear hwt)
            | fail)
          go_meet
          case rel=>
            have h14:=HE.out.D2 14 [.string (bs s)];exact⟨{ ek with fh:=s },h14,HT0.out.below (by rw[B9];exact Below.setCells (Nat.le_refl _) _ _ _ HB5.out)⟩
      case rest=>
        obtain⟨y,hy,hT2⟩:=hcut;obtain⟨rows,hrl,hrow⟩:=hT2.row;have ry:rowOf wc wr.heap.size 0 15=some y.vals.toArray:=hy.row 0 15 (by rw[Entry.len];decide);have h2c:=hT2.b.lt;have HAp:=Zh (As.P0 (k:=1) (ty:=48) (news:=[y].map Entry.vals) Tryz.underlying48 Wp rfl (by decide) (by decide) (hrow.stays ((Below.refl wc.heap.size wc).alloc (Nat.le_refl _) (.cells y.vals.toArray 126))) (by simp;omega) (by simpa using Blk.new wc 126 y.vals) (fun q hq=>by obtain⟨y,_,rfl⟩:=List.mem_map.1 hq;exact Entry.len y) (fun q hq u hu=>by obtain⟨y,_,rfl⟩:=List.mem_map.1 hq;exact Entry.one y u hu) (by rw[List.length_map];simp;omega) rfl 1);apply_assumption
        go_wp2_with (first
          | (refine Fy (by rfl) (.tmp 34) (.tmp 36) #[48,48] (by rfl) _ _ (by rfl) (by rfl) HAp.out ?_;rintro v' w' ⟨hR',hg',ha'⟩)
          | fail)
        all_goals
          have hB':Below (w.heap.size+2) wc w':=Below.grown ((Below.refl _ _).alloc (by omega) _) hg' (by simp;omega) fun k hk=>(hrow.lt k hk).1
          refine⟨⟨k+1,hlt,by rw[Int.natCast_succ],⟨hT2.a.below hB' (by omega),hT2.b.below hB' (by omega),HX.out.below (hT2.l.trans (hB'.mono (by omega))),⟨rows++[y],by rw[List.length_append,hrl];rfl,by rw[List.map_append];exact hR'⟩,hT2.l.trans (hB'.mono (by omega)),hT2.old⟩⟩,?_⟩
          simp[intOf];omega
    · obtain rfl:k=x.es.length:=by omega
      have h2c:=hT.b.lt;obtain⟨rows,hrl,hrow⟩:=hT.row;obtain⟨A',c',rfl,-⟩:=hrow.at_;generalize (List.map Entry.vals rows).length=n' at *;have fA:=hT.a.frozen 56;have q1:Blk (wr.setCell ⟨w.heap.size,56,none⟩ (.slice A' n' c')) w.heap.size 51 ({ r with ea:=A',en:=n',ec:=c' }:Aa).vals:=hT.a.Be 56 (.slice A' n' c');have rA:rowOf (wr.setCell ⟨w.heap.size,56,none⟩ (.slice A' n' c')) w.heap.size 0 58=some ({ r with ea:=A',en:=n',ec:=c' }:Aa).vals.toArray:=q1.row 0 58 (by rw[Aa.len];decide);have q2:=hT.b.far (p:=⟨w.heap.size,56,none⟩) (by show w.heap.size+1≠w.heap.size;omega) (.slice A' n' c');have tB:=q2.Ar 0 58 (by rw[Aa.len];decide);have q3:=q2.D2 0 ({ r with ea:=A',en:=n',ec:=c' }:Aa).vals;rw[Lg]at q3;have q4:Below w.heap.size w (putsW (wr.setCell ⟨w.heap.size,56,none⟩ (.slice A' n' c')) (w.heap.size+1) 0 ({ r with ea:=A',en:=n',ec:=c' }:Aa).vals):=by
        rw[B9];exact Below.setCells (Nat.le_succ _) _ _ _ (hT.l.setCell (Nat.le_refl _) _)
      have HF:=Zh (And.intro q3 q4);clear hT q1 q2 q3 q4;go_wp2;refine Cz (w.heap.size+1) 0 ({ r with ea:=A',en:=n',ec:=c' }:Aa).vals Tryz.results106 Tryz.underlying51 rfl (by kernel_rfl) rfl HF.out.1.range rfl ?_
      exact⟨⟨_,rfl⟩,HF.out.2⟩
theorem Al3 (x:Qv)(w:World)(hx:x.Kk w)(h1:x.es.length<=1000000)(hg:x.r.obj.attr.gen<=9223372036854775807)(hgs:∀e∈x.es,e.gen<=9223372036854775807) :
    Calls Tryz.prog 48 #[.agg x.r.vals.toArray] w fun e w'=>(∃r:Aa,e=.returned (.agg r.vals.toArray))/\Below w.heap.size w w':=by
  obtain⟨bA,bR,hB,hs⟩:=A7 w x.r.vals Bt.vals 51 51;obtain⟨w1,hw1⟩:∃V,V=(w.alloc (.cells x.r.vals.toArray 51)).alloc (.cells Bt.vals.toArray 51):=⟨_,rfl⟩;rw[<-hw1]at bA bR hB hs;have HW1:=Zh hw1;have rA:rowOf w1 w.heap.size 0 58=some x.r.vals.toArray:=bA.row 0 58 (by rw[Aa.len];decide);have KT:=Abt x w1 (hx.below hB) h1 hg hgs;have HB:=Zh hB;have HR:=Zh bR;have hs1:w1.heap.size=w.heap.size+2:=hs;clear hw1 bA bR hB hs hgs hg hx;go_enter Tryz.func48,Tryz.ntmps48
  go_upto_region 1 with fail;change Code.wp _ _ _ _ ((w.alloc (.cells x.r.vals.toArray 51)).alloc (.cells Bt.vals.toArray 51));rw[<-HW1.out]
  go_wp2_with (first
    | (go_at_call 106;refine KT.mono ?_;rintro e wt ⟨⟨r,rfl⟩,hwt⟩
       have q2:=HR.out.stays hwt;have tB:=q2.Ar 0 58 (by rw[Aa.len];decide);have q3:=q2.D2 0 r.vals;rw[Lg]at q3;have q4:Below w.heap.size w (putsW wt (w.heap.size+1) 0 r.vals):=by
         rw[B9];exact Below.setCells (Nat.le_succ _) _ _ _ (Ad HB.out hwt)
       have HF:=Zh (And.intro q3 q4);clear q2 q3 q4 hwt)
    | fail)
  refine Cz (w.heap.size+1) 0 r.vals Tryz.results48 Tryz.underlying51 rfl (by kernel_rfl) rfl HF.out.1.range rfl ?_
  exact⟨⟨_,rfl⟩,HF.out.2⟩
end
end Go.Proofs.YtfjflkmhhbhceaaGreatDoor
