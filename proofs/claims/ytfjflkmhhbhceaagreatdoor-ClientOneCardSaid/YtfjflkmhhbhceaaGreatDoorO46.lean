/-
  Layer 8, walks: the document's Check of results, any: what is known where they may be (printed by wip/tools/farask/gencheck8any.py). Condition: machine lengths.
-/
import Derived.Test.YtfjflkmhhbhceaaGreatDoorO45
import Derived.Test.YtfjflkmhhbhceaaGreatDoorO32
import Derived.Deep.CutRange
import Derived.Test.YtfjflkmhhbhceaaGreatDoorO27
import Derived.Test.YtfjflkmhhbhceaaGreatDoorO31
import Derived.Test.YtfjflkmhhbhceaaGreatDoorO43
import Derived.Test.YtfjflkmhhbhceaaGreatDoorO36
set_option maxRecDepth 20000
set_option maxHeartbeats 40000000
namespace Go.Proofs.YtfjflkmhhbhceaaGreatDoor
open Go.RowKit
attribute [local go_sem ↓] Go.wp_at_zero Go.wp_at_succ
attribute [local go_sem] Ai Ag Af Ab Aj
section
attribute [local go_sem ↓] Fq Lb Iv
attribute [local go_sem ↓] Rl
structure Ac0 (z:Aa):Prop where
 st:Ih z.status=true
 oks:z.obj.ok=true/\z.dir.ok=true/\z.wcc.ok=true/\z.wcc2.ok=true
def Uj (is:Bool)(n most:Int):Prop:=is=true->0<=n/\n<=most
structure Als (L:List UInt8) (z:Aa) (es:List Entry) (us:List Int):Prop where
 pre:Ac0 z
 texts:z.fh.length<=64/\z.data.length<=256/\us.length<=16
 us:∀u∈us,0<=u
 ints:Uj (inL L 120) z.access 4294967295/\Uj (inL L 99) z.count 4294967295/\Uj (inL L 115) z.stable 4294967295/\Uj (inL L 118) z.verf 9223372036854775807
 ents:es.length<=64/\∀x∈es,Af7 x
def J5 (L:List UInt8)(z:Aa)(es:List Entry)(us:List Int)(w:World)(e:Ending)(w':World):Prop:=(∃r,e=.returned (.bool r)/\(r=true->Als L z es us))/\Below w.heap.size w w'
theorem J5.no {L:List UInt8}{z:Aa}{es:List Entry}{us:List Int}{w w':World}(hb:Below w.heap.size w w'):J5 L z es us w (.returned (.bool false)) w':=⟨⟨false,rfl,fun h=>by cases h⟩,hb⟩
def Vp (is:Bool)(n most:Int):Bool:=if is then decide (0<=n) && decide (n<=most) else n==0
theorem T7 {is:Bool}{n most:Int}(h:true=Vp is n most):Uj is n most:=by
 intro hi;subst hi;unfold Vp at h
 simpa using h.symm
theorem Aer (L:List UInt8)(z:Aa)(es:List Entry)(us:List Int)(w W:World)(b:Nat)(hbZ:Blk W b 51 z.vals)(hB:Below w.heap.size w W)(hen:z.en=es.length)(hun:z.un=us.length)(hE:At W 15 z.ea (es.map Entry.vals))(hU:At W 1 z.ua (us.map Fz))(hel:es.length<=9223372036854775807)(hL:L.length<=1000)(hP:Ac0 z)(hT:z.fh.length<=64/\z.data.length<=256/\us.length<=16)(y0 y1 y2 y4 y8 y9 ja jb jc jd je jf jg jh ji jj jk jl jm jn jo jp jq jr js jt ju jv jw jx jy jz j0 j1 j2 j3 j4 j5 j6 j7 j8 j9 ka kb kc kd ke kf kg kh ki kj kk kl km kn ko kp kq kr ks kt ku kv kw kx ky kz k0 k1 k2 k3 k4 k5 k6 k7 k8 k9 la lb lc ld lf lg lh li lj lk ll lm ln lo lp lq lr ls lu lv lw lx ly lz l0 l1 l2 l3 l4 l5 l6 l7 l8 l9 oa ob oc od oe og oh oi oj ol om on oo op oq os ot ou ov ow ox oy oz o0 o1 o2 o3 o4 o5 o6 o7 o8 o9 qa qb qc qd qe qf qg qh qi qj qk ql qm qn qo qp qq qr qs qt qu qv qw qx qy qz q0 q1 q2 q3 q4 q5 q6 q7 q8 q9 ra rb rc rd re:Value) :
  Code.wp Tryz.prog (Ju 12 (Tryz.f29.body.getD .ret)) (bodyPost Tryz.prog Tryz.f29 (J5 L z es us w)) ⟨#[y0,y1,y2,.pointer (some ⟨b,0,none⟩),y4,.string (bs L),.int .i64 4294967295,.int .i64 9223372036854775807,y8,y9,ja,jb,jc,jd,je,jf,jg,jh,ji,jj,jk,jl,jm,jn,jo,jp,jq,jr,js,jt,ju,jv,jw,jx,jy,jz,j0,j1,j2,j3,j4,j5,j6,j7,j8,j9,ka,kb,kc,kd,ke,kf,kg,kh,ki,kj,kk,kl,km,kn,ko,kp,kq,kr,ks,kt,ku,kv,kw,kx,ky,kz,k0,k1,k2,k3,k4,k5,k6,k7,k8,k9,la,lb,lc,ld,lf,lg,lh,li,lj,lk,ll,lm,ln,lo,lp,lq,lr,ls,lu,lv,lw,lx,ly,lz,l0,l1,l2,l3,l4,l5,l6,l7,l8,l9,oa,ob,oc,od,oe,og,oh,oi,oj,ol,om,on,oo,op,oq,os,ot,ou,ov,ow,ox,oy,oz,o0,o1,o2,o3,o4,o5,o6,o7,o8,o9,qa,qb,qc,qd,qe,qf,qg,qh,qi,qj,qk,ql,qm,qn,qo,qp,qq,qr,qs,qt,qu,qv,qw,qx,qy,qz,q0,q1,q2,q3,q4,q5,q6,q7,q8,q9,ra,rb,rc,rd,re],[]⟩ W:=by
 change Code.wp _ (Code.seq (Code.seq (Code.region 12 _ _) _) _) _ _ _;dsimp only;obtain⟨hB8,hhB⟩:∃f:Int->Bool,∀n,f n=inL L (UInt8.ofNat n.toNat):=⟨_,fun _=>rfl⟩;have KH:=Zh (fun (n:Int) (h0:0<=n) (h1:n<256) W=>(show Calls Tryz.prog 65 #[.string (bs L),.int .u8 n] W fun e w'=>e=.returned (.bool (hB8 n))/\W=w' by
  have h:=Rb L (UInt8.ofNat n.toNat) W hL;have e:((UInt8.ofNat n.toNat).toNat:Int)=n:=by
   rw[UInt8.toNat_ofNat'];omega
  rw[e]at h;rw[hhB];exact h))
 have e120:inL L 120=hB8 120:=(hhB 120).symm;have e99:inL L 99=hB8 99:=(hhB 99).symm;have e115:inL L 115=hB8 115:=(hhB 115).symm;have e118:inL L 118=hB8 118:=(hhB 118).symm;have HY:=Zh (fun (h1:∀u∈us,0<=u) (h2:Uj (hB8 120) z.access 4294967295/\Uj (hB8 99) z.count 4294967295/\Uj (hB8 115) z.stable 4294967295/\Uj (hB8 118) z.verf 9223372036854775807) (h3:es.length<=64/\∀x∈es,Af7 x)=>(show Als L z es us from ⟨hP,hT,h1,by rw[e120,e99,e115,e118];exact h2,h3⟩));clear e120 e99 e115 e118 hhB;have HX:=Zh (And.intro hbZ (And.intro hB hU));have f57:W.cell? ⟨b,57,none⟩=some (.slice z.ua us.length z.uc):=by rw[hbZ.cell 57,<-hun];rfl
 have g50:W.cell? ⟨b,50,none⟩=some (.int .i64 z.access):=hbZ.cell 50;have g51:W.cell? ⟨b,51,none⟩=some (.int .i64 z.count):=hbZ.cell 51;have g54:W.cell? ⟨b,54,none⟩=some (.int .i64 z.stable):=hbZ.cell 54;have g55:W.cell? ⟨b,55,none⟩=some (.int .i64 z.verf):=hbZ.cell 55;have g56:W.cell? ⟨b,56,none⟩=some (.slice z.ea es.length z.ec):=by rw[hbZ.cell 56,<-hen];rfl
 have KE:=Zh (fun V (h:Below W.heap.size W V)=>Ahr z.ea z.ec es (hB8 108) (hB8 112) V hel (hE.below h));have hlw:=hbZ.lt;have hul16:=hT.2.2;clear hbZ hB hen hun hE hU hel hL hP hT;generalize z.access=na at *;generalize z.count=nc at *;generalize z.stable=nt at *;generalize z.verf=nv at *;go_wp2
 go_loopw [8] (fun i wr=>∃k:Nat,k<=us.length/\i=.int .i64 k/\(∀u∈us.take k,0<=u)/\wr=W) (fun i _=>us.length - (intOf i).toNat)
 case atStart=>exact⟨0,Nat.zero_le _,rfl,(by simp),rfl⟩
 case round=>
  obtain⟨k,hk,rfl,hok,hwr⟩:=hrel;subst wr;have hk0:(0:Int)<=(k:Int):=Int.natCast_nonneg _;by_cases hlt:k<us.length
  ·have hk1:(k:Int)<(us.length:Int):=by omega
   have hiw:IntKind.i64.wrap ((k:Int)+1)=((k+1:Nat):Int):=by rw[IntWalk.i64_in _ (by omega)];omega
   obtain⟨b2,off,hua,hb1,-,cc⟩:=Hw (vals:=Fz) (fun _=>rfl) (by decide) HX.out.2.2 hlt;have cu:World.cell? _ ⟨b2,off+k*1,none⟩=some (.int .i64 us[k]):=cc 0 _ rfl;rw[Nat.mul_one]at cu;rw[hua]at f57;have HNX:=Zh (fun (h:0<=us[k])=>(show ∀u∈us.take (k+1),0<=u by
    intro q hq;rw[Pn _ _ hlt]at hq;rcases List.mem_append.1 hq with hq|hq
    ·exact hok q hq
    ·simp only[List.mem_singleton]at hq
     subst hq;exact h))
   generalize us[k]=u at *;clear cc hua hok g50 g51 g54 g55 g56;by_cases hu:u<0
   ·have hud:decide (u<0)=true:=decide_eq_true hu
    go_wp2;go_ret;exact J5.no HX.out.2.1
   ·have hud:decide (u<0)=false:=decide_eq_false hu
    go_wp2;go_roundw
    case rel=>exact⟨k+1,by omega,by first|rfl|go_num,HNX.out (by omega),by first|rfl|trivial⟩
    case measure=>simp[intOf];omega
  ·obtain rfl:k=us.length:=by omega
   have hlm:¬(us.length:Int)<(us.length:Int):=by omega
   have HU:=Zh (show ∀u∈us,0<=u by rwa [List.take_of_length_le (Nat.le_refl _)]at hok);clear hok;have QH:=Zh (fun (n:Int) (h0:0<=n) (h1:n<256) V=>((KH.out n h0 h1 V).mono (by rintro e w' ⟨rfl,rfl⟩;exact⟨rfl,0,rfl⟩):Calls Tryz.prog 65 #[.string (bs L),.int .u8 n] V fun e w'=>e=.returned (.bool (hB8 n))/\∃n,w'=V.drewN n));have KN:=Zh (fun (is:Bool) (n most:Int) V=>(show Calls Tryz.prog 66 #[.bool is,.int .i64 n,.int .i64 most] V fun e w'=>e=.returned (.bool (Vp is n most))/\V=w' from Adm is n most V));have QN:=Zh (fun (is:Bool) (n most:Int) V=>((KN.out is n most V).mono (by rintro e w' ⟨rfl,rfl⟩;exact⟨rfl,0,rfl⟩):Calls Tryz.prog 66 #[.bool is,.int .i64 n,.int .i64 most] V fun e w'=>e=.returned (.bool (Vp is n most))/\∃n,w'=V.drewN n))
   go_upto_region 17 with fail;have t1:∃x,Vp (hB8 120) na 4294967295=x:=⟨_,rfl⟩;have t2:∃x,Vp (hB8 99) nc 4294967295=x:=⟨_,rfl⟩;have t3:∃x,Vp (hB8 115) nt 4294967295=x:=⟨_,rfl⟩;have t4:∃x,Vp (hB8 118) nv 9223372036854775807=x:=⟨_,rfl⟩;obtain⟨n1,hn1⟩:=t1;obtain⟨n2,hn2⟩:=t2;obtain⟨n3,hn3⟩:=t3;obtain⟨n4,hn4⟩:=t4;have QN1:=QN.out (hB8 120) na 4294967295;have QN2:=QN.out (hB8 99) nc 4294967295;have QN3:=QN.out (hB8 115) nt 4294967295;have QN4:=QN.out (hB8 118) nv 9223372036854775807;have KN1:=KN.out (hB8 120) na 4294967295;have KN2:=KN.out (hB8 99) nc 4294967295;have KN3:=KN.out (hB8 115) nt 4294967295;have KN4:=KN.out (hB8 118) nv 9223372036854775807;rw[hn1]at QN1 KN1;rw[hn2]at QN2 KN2;rw[hn3]at QN3 KN3;rw[hn4]at QN4 KN4;have HQ:=Zh (And.intro QN1 (And.intro QN2 (And.intro QN3 QN4)));have HK:=Zh (And.intro KN1 (And.intro KN2 (And.intro KN3 KN4)));have HNV:=Zh (And.intro hn1 (And.intro hn2 (And.intro hn3 hn4)));clear QN1 QN2 QN3 QN4 KN1 KN2 KN3 KN4 hn1 hn2 hn3 hn4 QN KN f57 hk hlm;by_cases hall:n1=true/\n2=true/\n3=true/\n4=true
   case neg=>
    have HNA:=Zh hall;clear hall HNV HK KH;cases n1
    case false=>
     go_quiet (first
      |(go_at_call 65;refine Calls.quiet_of (QH.out _ (by decide) (by decide) _))
      |(go_at_call_of 66 (na);refine Calls.quiet_of (HQ.out.1 _))
      |(go_at_call_of 66 (nc);refine Calls.quiet_of (HQ.out.2.1 _))
      |(go_at_call_of 66 (nt);refine Calls.quiet_of (HQ.out.2.2.1 _))
      |(go_at_call_of 66 (nv);refine Calls.quiet_of (HQ.out.2.2.2 _))
      |fail)
     all_goals
      go_wp2;go_ret;exact J5.no (bdN HX.out.2.1 _)
    case true=>
    cases n2
    case false=>
     go_quiet (first
      |(go_at_call 65;refine Calls.quiet_of (QH.out _ (by decide) (by decide) _))
      |(go_at_call_of 66 (na);refine Calls.quiet_of (HQ.out.1 _))
      |(go_at_call_of 66 (nc);refine Calls.quiet_of (HQ.out.2.1 _))
      |(go_at_call_of 66 (nt);refine Calls.quiet_of (HQ.out.2.2.1 _))
      |(go_at_call_of 66 (nv);refine Calls.quiet_of (HQ.out.2.2.2 _))
      |fail)
     all_goals
      go_wp2;go_ret;exact J5.no (bdN HX.out.2.1 _)
    case true=>
    cases n3
    case false=>
     go_quiet (first
      |(go_at_call 65;refine Calls.quiet_of (QH.out _ (by decide) (by decide) _))
      |(go_at_call_of 66 (na);refine Calls.quiet_of (HQ.out.1 _))
      |(go_at_call_of 66 (nc);refine Calls.quiet_of (HQ.out.2.1 _))
      |(go_at_call_of 66 (nt);refine Calls.quiet_of (HQ.out.2.2.1 _))
      |(go_at_call_of 66 (nv);refine Calls.quiet_of (HQ.out.2.2.2 _))
      |fail)
     all_goals
      go_wp2;go_ret;exact J5.no (bdN HX.out.2.1 _)
    case true=>
    cases n4
    case false=>
     go_quiet (first
      |(go_at_call 65;refine Calls.quiet_of (QH.out _ (by decide) (by decide) _))
      |(go_at_call_of 66 (na);refine Calls.quiet_of (HQ.out.1 _))
      |(go_at_call_of 66 (nc);refine Calls.quiet_of (HQ.out.2.1 _))
      |(go_at_call_of 66 (nt);refine Calls.quiet_of (HQ.out.2.2.1 _))
      |(go_at_call_of 66 (nv);refine Calls.quiet_of (HQ.out.2.2.2 _))
      |fail)
     all_goals
      go_wp2;go_ret;exact J5.no (bdN HX.out.2.1 _)
    case true=>exact absurd ⟨rfl,rfl,rfl,rfl⟩ HNA.out
   case pos=>
    obtain⟨rfl,rfl,rfl,rfl⟩:=hall;go_region_held3 (fun V=>Stb W V) (first|exact Stb.start|assumption|(exact Stb.alloc (by assumption) _)|(exact Stb.call (by assumption) (by assumption))) (first
     |(go_at_call 65;refine(KH.out _ (by decide) (by decide) _).mono ?_;rintro e V ⟨rfl,rfl⟩)
     |(go_at_call_of 66 (na);refine(HK.out.1 _).mono ?_;rintro e V ⟨rfl,rfl⟩)
     |(go_at_call_of 66 (nc);refine(HK.out.2.1 _).mono ?_;rintro e V ⟨rfl,rfl⟩)
     |(go_at_call_of 66 (nt);refine(HK.out.2.2.1 _).mono ?_;rintro e V ⟨rfl,rfl⟩)
     |(go_at_call_of 66 (nv);refine(HK.out.2.2.2 _).mono ?_;rintro e V ⟨rfl,rfl⟩)
     |(go_at_call 67;refine(KE.out _ (Stb.below (by assumption))).mono ?_;rintro e we ⟨⟨r,rfl,hr⟩,hbe⟩)
     |fail)
    all_goals
     have hst:=(by assumption:Stb W _);have HF:=Zh (And.intro (Ad HX.out.2.1 hst.below) hr);clear hst hr;go_wp2;go_ret;exact⟨⟨_,rfl,fun h=>HY.out HU.out ⟨T7 HNV.out.1.symm,T7 HNV.out.2.1.symm,T7 HNV.out.2.2.1.symm,T7 HNV.out.2.2.2.symm⟩ (HF.out.2 h)⟩,HF.out.1⟩
end
section
attribute [local go_sem ↓] Fq Lb Iv
attribute [local go_sem ↓] Rl
theorem Aes (L:List UInt8)(z:Aa)(es:List Entry)(us:List Int)(w W:World)(b:Nat)(hbZ:Blk W b 51 z.vals)(hB:Below w.heap.size w W)(hen:z.en=es.length)(hun:z.un=us.length)(hE:At W 15 z.ea (es.map Entry.vals))(hU:At W 1 z.ua (us.map Fz))(hel:es.length<=9223372036854775807)(hL:L.length<=1000)(hP:Ac0 z)(y0 y1 y2 y4 y8 y9 kf kg kh ki kj kk kl km kn ko kp kq kr ks kt ku kv kw kx ky kz k0 k1 k2 k3 k4 k5 k6 k7 k8 k9 la lb lc ld lf lg lh li lj lk ll lm ln lo lp lq lr ls lt lu lv lw lx ly lz l0 l1 l2 l3 l4 l5 l6 l7 l8 l9 oa ob oc od oe og oh oi oj ok ol om on oo op oq os ot ou ov ow ox oy oz o0 o1 o2 o3 o4 o5 o6 o7 o8 o9 qa qb qc qd qe qf qg qh qi qj qk ql qm qn qo qp qq qr qs qt qu qv qw qx qy qz q0 q1 q2 q3 q4 q5 q6 q7 q8 q9 ra rb rc rd re rf rg rh ri rj rk rl rm rn ro rp rq rr rs rt ru rv rx ry rz r0 r1 r2 r3 r4 r5 r6 r7 r8 r9 ub ud ue uf ug uh ui uj uk:Value) :
  Code.wp Tryz.prog (Ju 10 (Tryz.f29.body.getD .ret)) (bodyPost Tryz.prog Tryz.f29 (J5 L z es us w)) ⟨#[y0,y1,y2,.pointer (some ⟨b,0,none⟩),y4,.string (bs L),.int .i64 4294967295,.int .i64 9223372036854775807,y8,y9,kf,kg,kh,ki,kj,kk,kl,km,kn,ko,kp,kq,kr,ks,kt,ku,kv,kw,kx,ky,kz,k0,k1,k2,k3,k4,k5,k6,k7,k8,k9,la,lb,lc,ld,lf,lg,lh,li,lj,lk,ll,lm,ln,lo,lp,lq,lr,ls,lt,lu,lv,lw,lx,ly,lz,l0,l1,l2,l3,l4,l5,l6,l7,l8,l9,oa,ob,oc,od,oe,og,oh,oi,oj,ok,ol,om,on,oo,op,oq,os,ot,ou,ov,ow,ox,oy,oz,o0,o1,o2,o3,o4,o5,o6,o7,o8,o9,qa,qb,qc,qd,qe,qf,qg,qh,qi,qj,qk,ql,qm,qn,qo,qp,qq,qr,qs,qt,qu,qv,qw,qx,qy,qz,q0,q1,q2,q3,q4,q5,q6,q7,q8,q9,ra,rb,rc,rd,re,rf,rg,rh,ri,rj,rk,rl,rm,rn,ro,rp,rq,rr,rs,rt,ru,rv,rx,ry,rz,r0,r1,r2,r3,r4,r5,r6,r7,r8,r9,ub,ud,ue,uf,ug,uh,ui,uj,uk],[]⟩ W:=by
 change Code.wp _ (Code.seq (Code.seq (Code.region 10 _ _) _) _) _ _ _;dsimp only;have HX:=Zh (And.intro hbZ (And.intro hB (And.intro hen (And.intro hun (And.intro hE (And.intro hU (And.intro hel (And.intro hL hP))))))));have f1:W.cell? ⟨b,1,none⟩=some (.string (bs z.fh)):=hbZ.cell 1;have f53:W.cell? ⟨b,53,none⟩=some (.string (bs z.data)):=hbZ.cell 53;have f52:W.cell? ⟨b,52,none⟩=some (.bool z.eof):=hbZ.cell 52;have f57:W.cell? ⟨b,57,none⟩=some (.slice z.ua us.length z.uc):=by rw[hbZ.cell 57,<-hun];rfl
 have hsf:=Au z.fh;have hsd:=Au z.data;obtain⟨hB8,hhB⟩:∃f:Int->Bool,∀n,f n=inL L (UInt8.ofNat n.toNat):=⟨_,fun _=>rfl⟩;have KH:=Zh (fun (n:Int) (h0:0<=n) (h1:n<256) W=>(show Calls Tryz.prog 65 #[.string (bs L),.int .u8 n] W fun e w'=>e=.returned (.bool (hB8 n))/\W=w' by
  have h:=Rb L (UInt8.ofNat n.toNat) W hL;have e:((UInt8.ofNat n.toNat).toNat:Int)=n:=by
   rw[UInt8.toNat_ofNat'];omega
  rw[e]at h;rw[hhB];exact h))
 clear hbZ hB hen hun hE hU hel hL hP hhB
 go_upto_region 10 with fail
 go_cut [137] from 82 to 136 (fun v wx=>BIf (z.fh.length<=64/\z.data.length<=256/\us.length<=16) v/\wx=W)
 case first=>
  apply wp_region_lit
  obtain⟨N0,hN0⟩:∃N:Act->World->Prop,∀a' w',N a' w' ↔ (w'=W/\∃(c:Bool) (ja jb jc jd je jf jg jh ji jj jk jl jm jn:Value),a'=⟨#[y0,y1,y2,.pointer (some ⟨b,0,none⟩),y4,.string (bs L),.int .i64 4294967295,.int .i64 9223372036854775807,y8,y9,kf,kg,kh,ki,kj,kk,kl,km,kn,ko,kp,kq,kr,ks,kt,ku,kv,kw,kx,ky,kz,k0,k1,k2,k3,k4,k5,k6,k7,k8,k9,la,lb,lc,ld,lf,lg,lh,li,lj,lk,ll,lm,ln,lo,lp,lq,lr,ls,lt,lu,lv,lw,lx,ly,lz,l0,l1,l2,l3,l4,l5,l6,l7,l8,l9,oa,ob,oc,od,oe,og,ja,jb,jc,jd,je,jf,jg,jh,ji,jj,jk,jl,jm,jn,.bool c,ox,oy,oz,o0,o1,o2,o3,o4,o5,o6,o7,o8,o9,qa,qb,qc,qd,qe,qf,qg,qh,qi,qj,qk,ql,qm,qn,qo,qp,qq,qr,qs,qt,qu,qv,qw,qx,qy,qz,q0,q1,q2,q3,q4,q5,q6,q7,q8,q9,ra,rb,rc,rd,re,rf,rg,rh,ri,rj,rk,rl,rm,rn,ro,rp,rq,rr,rs,rt,ru,rv,rx,ry,rz,r0,r1,r2,r3,r4,r5,r6,r7,r8,r9,ub,ud,ue,uf,ug,uh,ui,uj,uk],[]⟩/\(c=false->z.fh.length<=64)):=⟨_,fun _ _=>Iff.rfl⟩;have HN0:=Zh hN0;clear hN0;refine J6 15 N0 ?_ ?_
  ·change wpList _ _ _ [_,_,_,_,_,_,_,_,_,_,_,_,_,_,_] _ _
   by_cases hi:(64:Int)<(z.fh.length:Int)
   case pos=>
    have hib:decide ((64:Int)<(z.fh.length:Int))=true:=decide_eq_true hi;have hin:decide (64<z.fh.length)=true:=decide_eq_true (by omega);go_wp2;exact(HN0.out _ _).2 ⟨rfl,_,_,_,_,_,_,_,_,_,_,_,_,_,_,_,rfl,fun h=>by cases h⟩
   case neg=>
    have hib:decide ((64:Int)<(z.fh.length:Int))=false:=decide_eq_false hi;have hin:decide (64<z.fh.length)=false:=decide_eq_false (by omega);have H0:=Zh (show z.fh.length<=64 by omega);cases hh:hB8 104
    case true=>
     go_wp2_with (first|(go_at_call 65;refine(KH.out _ (by decide) (by decide) _).mono ?_;rintro e W ⟨rfl,rfl⟩)|fail)
     exact(HN0.out _ _).2 ⟨rfl,_,_,_,_,_,_,_,_,_,_,_,_,_,_,_,rfl,fun _=>H0.out⟩
    case false=>
     by_cases hf:z.fh=[]
     case pos=>
      rw[hf]at f1
      go_wp2_with (first|(go_at_call 65;refine(KH.out _ (by decide) (by decide) _).mono ?_;rintro e W ⟨rfl,rfl⟩)|fail)
      exact(HN0.out _ _).2 ⟨rfl,_,_,_,_,_,_,_,_,_,_,_,_,_,_,_,rfl,fun _=>H0.out⟩
     case neg=>
      have hfe:z.fh.isEmpty=false:=by simpa using hf
      go_wp2_with (first|(go_at_call 65;refine(KH.out _ (by decide) (by decide) _).mono ?_;rintro e W ⟨rfl,rfl⟩)|fail)
      exact(HN0.out _ _).2 ⟨rfl,_,_,_,_,_,_,_,_,_,_,_,_,_,_,_,rfl,fun _=>H0.out⟩
  intro ax wx hx;obtain⟨hw,c0,ja,jb,jc,jd,je,jf,jg,jh,ji,jj,jk,jl,jm,jn,hax,hc0⟩:=(HN0.out _ _).1 hx;clear hx;subst wx;subst ax;clear HN0;change wpList _ _ _ [_,_,_,_,_,_,_,_,_,_,_,_,_,_,_,_,_,_,_,_,_,_,_,_,_,_,_,_,_,_,_,_,_,_,_,_,_,_,_,_,_] _ _;obtain⟨N1,hN1⟩:∃N:Act->World->Prop,∀a' w',N a' w' ↔ (w'=W/\∃(c:Bool) (jo jp jq jr js:Value),a'=⟨#[y0,y1,y2,.pointer (some ⟨b,0,none⟩),y4,.string (bs L),.int .i64 4294967295,.int .i64 9223372036854775807,y8,y9,kf,kg,kh,ki,kj,kk,kl,km,kn,ko,kp,kq,kr,ks,kt,ku,kv,kw,kx,ky,kz,k0,k1,k2,k3,k4,k5,k6,k7,k8,k9,la,lb,lc,ld,lf,lg,lh,li,lj,lk,ll,lm,ln,lo,lp,lq,lr,ls,lt,lu,lv,lw,lx,ly,lz,l0,l1,l2,l3,l4,l5,l6,l7,l8,l9,oa,ob,oc,od,oe,og,ja,jb,jc,jd,je,jf,jg,jh,ji,jj,jk,jl,jm,jn,.bool c0,jo,jp,jq,jr,js,.bool c,o3,o4,o5,o6,o7,o8,o9,qa,qb,qc,qd,qe,qf,qg,qh,qi,qj,qk,ql,qm,qn,qo,qp,qq,qr,qs,qt,qu,qv,qw,qx,qy,qz,q0,q1,q2,q3,q4,q5,q6,q7,q8,q9,ra,rb,rc,rd,re,rf,rg,rh,ri,rj,rk,rl,rm,rn,ro,rp,rq,rr,rs,rt,ru,rv,rx,ry,rz,r0,r1,r2,r3,r4,r5,r6,r7,r8,r9,ub,ud,ue,uf,ug,uh,ui,uj,uk],[]⟩/\(c=false->z.fh.length<=64/\z.data.length<=256)):=⟨_,fun _ _=>Iff.rfl⟩;have HN1:=Zh hN1;clear hN1;refine J6 6 N1 ?_ ?_
  ·change wpList _ _ _ [_,_,_,_,_,_] _ _
   cases c0
   case true=>
    go_wp2;exact(HN1.out _ _).2 ⟨rfl,_,_,_,_,_,_,rfl,fun h=>by cases h⟩
   case false=>
    have H1:=Zh (hc0 rfl);clear hc0;by_cases hi:(256:Int)<(z.data.length:Int)
    case pos=>
     have hib:decide ((256:Int)<(z.data.length:Int))=true:=decide_eq_true hi;have hin:decide (256<z.data.length)=true:=decide_eq_true (by omega);go_wp2;exact(HN1.out _ _).2 ⟨rfl,_,_,_,_,_,_,rfl,fun h=>by cases h⟩
    case neg=>
     have hib:decide ((256:Int)<(z.data.length:Int))=false:=decide_eq_false hi;have hin:decide (256<z.data.length)=false:=decide_eq_false (by omega);go_wp2;exact(HN1.out _ _).2 ⟨rfl,_,_,_,_,_,_,rfl,fun _=>⟨H1.out,by omega⟩⟩
  intro ax wx hx;obtain⟨hw,c1,jo,jp,jq,jr,js,hax,hc1⟩:=(HN1.out _ _).1 hx;clear hx;subst wx;subst ax;clear HN1;change wpList _ _ _ [_,_,_,_,_,_,_,_,_,_,_,_,_,_,_,_,_,_,_,_,_,_,_,_,_,_,_,_,_,_,_,_,_,_,_] _ _;obtain⟨N2,hN2⟩:∃N:Act->World->Prop,∀a' w',N a' w' ↔ (w'=W/\∃(c:Bool) (jt ju jv jw jx jy jz j0 j1:Value),a'=⟨#[y0,y1,y2,.pointer (some ⟨b,0,none⟩),y4,.string (bs L),.int .i64 4294967295,.int .i64 9223372036854775807,y8,y9,kf,kg,kh,ki,kj,kk,kl,km,kn,ko,kp,kq,kr,ks,kt,ku,kv,kw,kx,ky,kz,k0,k1,k2,k3,k4,k5,k6,k7,k8,k9,la,lb,lc,ld,lf,lg,lh,li,lj,lk,ll,lm,ln,lo,lp,lq,lr,ls,lt,lu,lv,lw,lx,ly,lz,l0,l1,l2,l3,l4,l5,l6,l7,l8,l9,oa,ob,oc,od,oe,og,ja,jb,jc,jd,je,jf,jg,jh,ji,jj,jk,jl,jm,jn,.bool c0,jo,jp,jq,jr,js,.bool c1,jt,ju,jv,jw,jx,jy,jz,j0,j1,.bool c,qd,qe,qf,qg,qh,qi,qj,qk,ql,qm,qn,qo,qp,qq,qr,qs,qt,qu,qv,qw,qx,qy,qz,q0,q1,q2,q3,q4,q5,q6,q7,q8,q9,ra,rb,rc,rd,re,rf,rg,rh,ri,rj,rk,rl,rm,rn,ro,rp,rq,rr,rs,rt,ru,rv,rx,ry,rz,r0,r1,r2,r3,r4,r5,r6,r7,r8,r9,ub,ud,ue,uf,ug,uh,ui,uj,uk],[]⟩/\(c=false->z.fh.length<=64/\z.data.length<=256)):=⟨_,fun _ _=>Iff.rfl⟩;have HN2:=Zh hN2;clear hN2;refine J6 10 N2 ?_ ?_
  ·change wpList _ _ _ [_,_,_,_,_,_,_,_,_,_] _ _
   cases c1
   case true=>
    go_wp2;exact(HN2.out _ _).2 ⟨rfl,_,_,_,_,_,_,_,_,_,_,rfl,fun h=>by cases h⟩
   case false=>
    have H2:=Zh (hc1 rfl);clear hc1;cases hh:hB8 100
    case true=>
     go_wp2_with (first|(go_at_call 65;refine(KH.out _ (by decide) (by decide) _).mono ?_;rintro e W ⟨rfl,rfl⟩)|fail)
     exact(HN2.out _ _).2 ⟨rfl,_,_,_,_,_,_,_,_,_,_,rfl,fun _=>H2.out⟩
    case false=>
     by_cases hf:z.data=[]
     case pos=>
      rw[hf]at f53
      go_wp2_with (first|(go_at_call 65;refine(KH.out _ (by decide) (by decide) _).mono ?_;rintro e W ⟨rfl,rfl⟩)|fail)
      exact(HN2.out _ _).2 ⟨rfl,_,_,_,_,_,_,_,_,_,_,rfl,fun _=>H2.out⟩
     case neg=>
      have hfe:z.data.isEmpty=false:=by simpa using hf
      go_wp2_with (first|(go_at_call 65;refine(KH.out _ (by decide) (by decide) _).mono ?_;rintro e W ⟨rfl,rfl⟩)|fail)
      exact(HN2.out _ _).2 ⟨rfl,_,_,_,_,_,_,_,_,_,_,rfl,fun _=>H2.out⟩
  intro ax wx hx;obtain⟨hw,c2,jt,ju,jv,jw,jx,jy,jz,j0,j1,hax,hc2⟩:=(HN2.out _ _).1 hx;clear hx;subst wx;subst ax;clear HN2;change wpList _ _ _ [_,_,_,_,_,_,_,_,_,_,_,_,_,_,_,_,_,_,_,_,_,_,_,_,_] _ _;obtain⟨N3,hN3⟩:∃N:Act->World->Prop,∀a' w',N a' w' ↔ (w'=W/\∃(c:Bool) (j2 j3 j4 j5 j6 j7 j8 j9:Value),a'=⟨#[y0,y1,y2,.pointer (some ⟨b,0,none⟩),y4,.string (bs L),.int .i64 4294967295,.int .i64 9223372036854775807,y8,y9,kf,kg,kh,ki,kj,kk,kl,km,kn,ko,kp,kq,kr,ks,kt,ku,kv,kw,kx,ky,kz,k0,k1,k2,k3,k4,k5,k6,k7,k8,k9,la,lb,lc,ld,lf,lg,lh,li,lj,lk,ll,lm,ln,lo,lp,lq,lr,ls,lt,lu,lv,lw,lx,ly,lz,l0,l1,l2,l3,l4,l5,l6,l7,l8,l9,oa,ob,oc,od,oe,og,ja,jb,jc,jd,je,jf,jg,jh,ji,jj,jk,jl,jm,jn,.bool c0,jo,jp,jq,jr,js,.bool c1,jt,ju,jv,jw,jx,jy,jz,j0,j1,.bool c2,j2,j3,j4,j5,j6,j7,j8,j9,.bool c,qm,qn,qo,qp,qq,qr,qs,qt,qu,qv,qw,qx,qy,qz,q0,q1,q2,q3,q4,q5,q6,q7,q8,q9,ra,rb,rc,rd,re,rf,rg,rh,ri,rj,rk,rl,rm,rn,ro,rp,rq,rr,rs,rt,ru,rv,rx,ry,rz,r0,r1,r2,r3,r4,r5,r6,r7,r8,r9,ub,ud,ue,uf,ug,uh,ui,uj,uk],[]⟩/\(c=false->z.fh.length<=64/\z.data.length<=256)):=⟨_,fun _ _=>Iff.rfl⟩;have HN3:=Zh hN3;clear hN3;refine J6 9 N3 ?_ ?_
  ·change wpList _ _ _ [_,_,_,_,_,_,_,_,_] _ _
   cases c2
   case true=>
    go_wp2;exact(HN3.out _ _).2 ⟨rfl,_,_,_,_,_,_,_,_,_,rfl,fun h=>by cases h⟩
   case false=>
    have H3:=Zh (hc2 rfl);clear hc2;cases hh:hB8 101
    case true=>
     go_wp2_with (first|(go_at_call 65;refine(KH.out _ (by decide) (by decide) _).mono ?_;rintro e W ⟨rfl,rfl⟩)|fail)
     exact(HN3.out _ _).2 ⟨rfl,_,_,_,_,_,_,_,_,_,rfl,fun _=>H3.out⟩
    case false=>
     cases he:z.eof
     all_goals
      rw[he]at f52
      go_wp2_with (first|(go_at_call 65;refine(KH.out _ (by decide) (by decide) _).mono ?_;rintro e W ⟨rfl,rfl⟩)|fail)
      exact(HN3.out _ _).2 ⟨rfl,_,_,_,_,_,_,_,_,_,rfl,fun _=>H3.out⟩
  intro ax wx hx;obtain⟨hw,c3,j2,j3,j4,j5,j6,j7,j8,j9,hax,hc3⟩:=(HN3.out _ _).1 hx;clear hx;subst wx;subst ax;clear HN3;change wpList _ _ _ [_,_,_,_,_,_,_,_,_,_,_,_,_,_,_,_] _ _;obtain⟨N4,hN4⟩:∃N:Act->World->Prop,∀a' w',N a' w' ↔ (w'=W/\∃(c:Bool) (ka kb kc kd ke:Value),a'=⟨#[y0,y1,y2,.pointer (some ⟨b,0,none⟩),y4,.string (bs L),.int .i64 4294967295,.int .i64 9223372036854775807,y8,y9,kf,kg,kh,ki,kj,kk,kl,km,kn,ko,kp,kq,kr,ks,kt,ku,kv,kw,kx,ky,kz,k0,k1,k2,k3,k4,k5,k6,k7,k8,k9,la,lb,lc,ld,lf,lg,lh,li,lj,lk,ll,lm,ln,lo,lp,lq,lr,ls,lt,lu,lv,lw,lx,ly,lz,l0,l1,l2,l3,l4,l5,l6,l7,l8,l9,oa,ob,oc,od,oe,og,ja,jb,jc,jd,je,jf,jg,jh,ji,jj,jk,jl,jm,jn,.bool c0,jo,jp,jq,jr,js,.bool c1,jt,ju,jv,jw,jx,jy,jz,j0,j1,.bool c2,j2,j3,j4,j5,j6,j7,j8,j9,.bool c3,ka,kb,kc,kd,ke,.bool c,qs,qt,qu,qv,qw,qx,qy,qz,q0,q1,q2,q3,q4,q5,q6,q7,q8,q9,ra,rb,rc,rd,re,rf,rg,rh,ri,rj,rk,rl,rm,rn,ro,rp,rq,rr,rs,rt,ru,rv,rx,ry,rz,r0,r1,r2,r3,r4,r5,r6,r7,r8,r9,ub,ud,ue,uf,ug,uh,ui,uj,uk],[]⟩/\(c=false->z.fh.length<=64/\z.data.length<=256/\us.length<=16)):=⟨_,fun _ _=>Iff.rfl⟩;have HN4:=Zh hN4;clear hN4;refine J6 6 N4 ?_ ?_
  ·change wpList _ _ _ [_,_,_,_,_,_] _ _
   cases c3
   case true=>
    go_wp2;exact(HN4.out _ _).2 ⟨rfl,_,_,_,_,_,_,rfl,fun h=>by cases h⟩
   case false=>
    have H4:=Zh (hc3 rfl);clear hc3;by_cases hi:(16:Int)<(us.length:Int)
    case pos=>
     have hib:decide ((16:Int)<(us.length:Int))=true:=decide_eq_true hi;have hin:decide (16<us.length)=true:=decide_eq_true (by omega);go_wp2;exact(HN4.out _ _).2 ⟨rfl,_,_,_,_,_,_,rfl,fun h=>by cases h⟩
    case neg=>
     have hib:decide ((16:Int)<(us.length:Int))=false:=decide_eq_false hi;have hin:decide (16<us.length)=false:=decide_eq_false (by omega);go_wp2;exact(HN4.out _ _).2 ⟨rfl,_,_,_,_,_,_,rfl,fun _=>⟨H4.out.1,H4.out.2,by omega⟩⟩
  intro ax wx hx;obtain⟨hw,c4,ka,kb,kc,kd,ke,hax,hc4⟩:=(HN4.out _ _).1 hx;clear hx;subst wx;subst ax;clear HN4;change wpList _ _ _ [_,_,_,_,_,_,_,_,_,_] _ _;cases c4
  case true=>
   go_wp2;go_meet
   case rel=>exact⟨BIf.t _,rfl⟩
  case false=>
   have H5:=Zh (hc4 rfl);clear hc4;cases hh:hB8 110
   case true=>
    go_wp2_with (first|(go_at_call 65;refine(KH.out _ (by decide) (by decide) _).mono ?_;rintro e W ⟨rfl,rfl⟩)|fail)
    go_meet
    case rel=>exact⟨⟨_,rfl,fun _=>H5.out⟩,rfl⟩
   case false=>
    by_cases hf:us=[]
    case pos=>
     subst hf
     go_wp2_with (first|(go_at_call 65;refine(KH.out _ (by decide) (by decide) _).mono ?_;rintro e W ⟨rfl,rfl⟩)|fail)
     go_meet
     case rel=>exact⟨⟨_,rfl,fun _=>H5.out⟩,rfl⟩
    case neg=>
     have hfe:decide ((0:Int)<(us.length:Int))=true:=decide_eq_true (by have:us.length≠0:=fun h=>hf (List.length_eq_zero_iff.1 h);omega);have hfi:(0:Int)<(us.length:Int):=of_decide_eq_true hfe
     go_wp2_with (first|(go_at_call 65;refine(KH.out _ (by decide) (by decide) _).mono ?_;rintro e W ⟨rfl,rfl⟩)|fail)
     go_meet
     case rel=>exact⟨⟨_,rfl,fun _=>H5.out⟩,rfl⟩
 case rest=>
 obtain⟨⟨c,rfl,hc⟩,hw⟩:=hcut;have hw2:=hw.symm;clear hw;subst hw2;have HC:=Zh hc;clear hc
 go_upto_if 137 with fail
 go_cut [] from 4 to 4 (fun wx=>(z.fh.length<=64/\z.data.length<=256/\us.length<=16)/\wx=W)
 case first=>
  cases c
  case true=>
   go_wp2;go_ret;exact J5.no HX.out.2.1
  case false=>
   go_wp2;go_meet
   case rel=>exact⟨HC.out (by trivial),rfl⟩
 case rest=>
 obtain⟨hc,hw⟩:=hcut;have hw2:=hw.symm;clear hw;subst hw2;obtain⟨hbZ,hB,hen,hun,hE,hU,hel,hL,hP⟩:=HX.out;apply_assumption;exact Aer L z es us w W b hbZ hB hen hun hE hU hel hL hP hc _ _ _ _ _ _ _ _ _ _ _ _ _ _ _ _ _ _ _ _ _ _ _ _ _ _ _ _ _ _ _ _ _ _ _ _ _ _ _ _ _ _ _ _ _ _ _ _ _ _ _ _ _ _ _ _ _ _ _ _ _ _ _ _ _ _ _ _ _ _ _ _ _ _ _ _ _ _ _ _ _ _ _ _ _ _ _ _ _ _ _ _ _ _ _ _ _ _ _ _ _ _ _ _ _ _ _ _ _ _ _ _ _ _ _ _ _ _ _ _ _ _ _ _ _ _ _ _ _ _ _ _ _ _ _ _ _ _ _ _ _ _ _ _ _ _ _ _ _ _ _ _ _ _ _ _ _ _ _ _ _ _ _ _ _ _ _ _ _ _ _ _ _ _ _ _ _ _ _ _ _ _ _ _ _ _
end
section
attribute [local go_sem ↓] Fq Lb Iv
attribute [local go_sem ↓] Rl
theorem Aht (L:List UInt8)(z:Aa)(es:List Entry)(us:List Int)(w W:World)(b:Nat)(hbZ:Blk W b 51 z.vals)(hB:Below w.heap.size w W)(hen:z.en=es.length)(hun:z.un=us.length)(hE:At W 15 z.ea (es.map Entry.vals))(hU:At W 1 z.ua (us.map Fz))(hel:es.length<=9223372036854775807)(hL:L.length<=1000)(hP:Ac0 z)(y0 y1 y2 y4 y8 y9 j3 j4 j5 j6 j7 j8 j9 ka kb kc kd ke kf kg kh ki kj kk kl km kn ko kp kq kr ks kt ku kv kw kx ky kz k0 k1 k2 k3 k4 k5 k6 k7 k8 k9 la lb lc ld lf lg lh li lj lk ll lm ln lo lp lq lr ls lt lu lv lw lx ly lz l0 l1 l2 l3 l4 l5 l6 l7 l8 l9 oa ob oc od oe og oh oi oj ok ol om on oo op oq os ot ou ov ow ox oy oz o0 o1 o2 o3 o4 o5 o6 o7 o8 o9 qa qb qc qd qe qf qg qh qi qj qk ql qm qn qo qp qq qr qs qt qu qv qw qx qy qz q0 q1 q2 q3 q4 q5 q6 q7 q8 q9 ra rb rc rd re rf rg rh ri rj rk rl rm rn ro rp rq rr rs rt ru rv rx ry rz r0 r5 r6 r7 r8 r9 ub:Value) :
  Code.wp Tryz.prog (Ju 8 (Tryz.f29.body.getD .ret)) (bodyPost Tryz.prog Tryz.f29 (J5 L z es us w)) ⟨#[y0,y1,y2,.pointer (some ⟨b,0,none⟩),y4,.string (bs L),.int .i64 4294967295,.int .i64 9223372036854775807,y8,y9,j3,j4,j5,j6,j7,j8,j9,ka,kb,kc,kd,ke,kf,kg,kh,ki,kj,kk,kl,km,kn,ko,kp,kq,kr,ks,kt,ku,kv,kw,kx,ky,kz,k0,k1,k2,k3,k4,k5,k6,k7,k8,k9,la,lb,lc,ld,lf,lg,lh,li,lj,lk,ll,lm,ln,lo,lp,lq,lr,ls,lt,lu,lv,lw,lx,ly,lz,l0,l1,l2,l3,l4,l5,l6,l7,l8,l9,oa,ob,oc,od,oe,og,oh,oi,oj,ok,ol,om,on,oo,op,oq,os,ot,ou,ov,ow,ox,oy,oz,o0,o1,o2,o3,o4,o5,o6,o7,o8,o9,qa,qb,qc,qd,qe,qf,qg,qh,qi,qj,qk,ql,qm,qn,qo,qp,qq,qr,qs,qt,qu,qv,qw,qx,qy,qz,q0,q1,q2,q3,q4,q5,q6,q7,q8,q9,ra,rb,rc,rd,re,rf,rg,rh,ri,rj,rk,rl,rm,rn,ro,rp,rq,rr,rs,rt,ru,rv,rx,ry,rz,r0,r5,r6,r7,r8,r9,ub],[]⟩ W:=by
 change Code.wp _ (Code.seq (Code.seq (Code.region 8 _ _) _) _) _ _ _;dsimp only;have HX:=Zh (And.intro hbZ (And.intro hB (And.intro hen (And.intro hun (And.intro hE (And.intro hU (And.intro hel (And.intro hL hP))))))));have r1:rowOf W b 2 11=some z.obj.vals.toArray:=hbZ.row 2 11 (by rw[Aa.len];omega);have r2:rowOf W b 13 11=some z.dir.vals.toArray:=hbZ.row 13 11 (by rw[Aa.len];omega);have r3:rowOf W b 24 13=some z.wcc.vals.toArray:=hbZ.row 24 13 (by rw[Aa.len];omega);have r4:rowOf W b 37 13=some z.wcc2.vals.toArray:=hbZ.row 37 13 (by rw[Aa.len];omega);obtain⟨hB8,hhB⟩:∃f:Int->Bool,∀n,f n=inL L (UInt8.ofNat n.toNat):=⟨_,fun _=>rfl⟩;have KH:=Zh (fun (n:Int) (h0:0<=n) (h1:n<256) W=>(show Calls Tryz.prog 65 #[.string (bs L),.int .u8 n] W fun e w'=>e=.returned (.bool (hB8 n))/\W=w' by
  have h:=Rb L (UInt8.ofNat n.toNat) W hL;have e:((UInt8.ofNat n.toNat).toNat:Int)=n:=by
   rw[UInt8.toNat_ofNat'];omega
  rw[e]at h;rw[hhB];exact h))
 clear hbZ hB hen hun hE hU hel hL hP hhB
 go_upto_region 8 with fail
 go_cut [81] from 40 to 80 (fun v wx=>BIf True v/\wx=W)
 case first=>
  apply wp_region_lit
  obtain⟨N0,hN0⟩:∃N:Act->World->Prop,∀a' w',N a' w' ↔ (w'=W/\∃(c:Bool) (ja jb jc jd je jf jg jh ji:Value),a'=⟨#[y0,y1,y2,.pointer (some ⟨b,0,none⟩),y4,.string (bs L),.int .i64 4294967295,.int .i64 9223372036854775807,y8,y9,j3,j4,j5,j6,j7,j8,j9,ka,kb,kc,kd,ke,kf,kg,kh,ki,kj,kk,kl,km,kn,ko,kp,kq,kr,ks,kt,ku,kv,kw,ja,jb,jc,jd,je,jf,jg,jh,ji,.bool c,k7,k8,k9,la,lb,lc,ld,lf,lg,lh,li,lj,lk,ll,lm,ln,lo,lp,lq,lr,ls,lt,lu,lv,lw,lx,ly,lz,l0,l1,l2,l3,l4,l5,l6,l7,l8,l9,oa,ob,oc,od,oe,og,oh,oi,oj,ok,ol,om,on,oo,op,oq,os,ot,ou,ov,ow,ox,oy,oz,o0,o1,o2,o3,o4,o5,o6,o7,o8,o9,qa,qb,qc,qd,qe,qf,qg,qh,qi,qj,qk,ql,qm,qn,qo,qp,qq,qr,qs,qt,qu,qv,qw,qx,qy,qz,q0,q1,q2,q3,q4,q5,q6,q7,q8,q9,ra,rb,rc,rd,re,rf,rg,rh,ri,rj,rk,rl,rm,rn,ro,rp,rq,rr,rs,rt,ru,rv,rx,ry,rz,r0,r5,r6,r7,r8,r9,ub],[]⟩/\(c=false->True)):=⟨_,fun _ _=>Iff.rfl⟩;have HN0:=Zh hN0;clear hN0;refine J6 10 N0 ?_ ?_
  ·change wpList _ _ _ [_,_,_,_,_,_,_,_,_,_] _ _
   cases hh:hB8 97
   case true=>
    go_wp2_with (first|(go_at_call 65;refine(KH.out _ (by decide) (by decide) _).mono ?_;rintro e W ⟨rfl,rfl⟩)|fail)
    exact(HN0.out _ _).2 ⟨rfl,_,_,_,_,_,_,_,_,_,_,rfl,fun _=>trivial⟩
   case false=>
    go_wp2_with (first|(go_at_call 65;refine(KH.out _ (by decide) (by decide) _).mono ?_;rintro e W ⟨rfl,rfl⟩)|fail)
    exact(HN0.out _ _).2 ⟨rfl,_,_,_,_,_,_,_,_,_,_,rfl,fun _=>trivial⟩
  intro ax wx hx;obtain⟨hw,c0,ja,jb,jc,jd,je,jf,jg,jh,ji,hax,hc0⟩:=(HN0.out _ _).1 hx;clear hx;subst wx;subst ax;clear HN0;change wpList _ _ _ [_,_,_,_,_,_,_,_,_,_,_,_,_,_,_,_,_,_,_,_,_,_,_,_,_,_,_,_,_,_,_,_] _ _;obtain⟨N1,hN1⟩:∃N:Act->World->Prop,∀a' w',N a' w' ↔ (w'=W/\∃(c:Bool) (jj jk jl jm jn jo jp jq jr js:Value),a'=⟨#[y0,y1,y2,.pointer (some ⟨b,0,none⟩),y4,.string (bs L),.int .i64 4294967295,.int .i64 9223372036854775807,y8,y9,j3,j4,j5,j6,j7,j8,j9,ka,kb,kc,kd,ke,kf,kg,kh,ki,kj,kk,kl,km,kn,ko,kp,kq,kr,ks,kt,ku,kv,kw,ja,jb,jc,jd,je,jf,jg,jh,ji,.bool c0,jj,jk,jl,jm,jn,jo,jp,jq,jr,js,.bool c,lj,lk,ll,lm,ln,lo,lp,lq,lr,ls,lt,lu,lv,lw,lx,ly,lz,l0,l1,l2,l3,l4,l5,l6,l7,l8,l9,oa,ob,oc,od,oe,og,oh,oi,oj,ok,ol,om,on,oo,op,oq,os,ot,ou,ov,ow,ox,oy,oz,o0,o1,o2,o3,o4,o5,o6,o7,o8,o9,qa,qb,qc,qd,qe,qf,qg,qh,qi,qj,qk,ql,qm,qn,qo,qp,qq,qr,qs,qt,qu,qv,qw,qx,qy,qz,q0,q1,q2,q3,q4,q5,q6,q7,q8,q9,ra,rb,rc,rd,re,rf,rg,rh,ri,rj,rk,rl,rm,rn,ro,rp,rq,rr,rs,rt,ru,rv,rx,ry,rz,r0,r5,r6,r7,r8,r9,ub],[]⟩/\(c=false->True)):=⟨_,fun _ _=>Iff.rfl⟩;have HN1:=Zh hN1;clear hN1;refine J6 11 N1 ?_ ?_
  ·change wpList _ _ _ [_,_,_,_,_,_,_,_,_,_,_] _ _
   cases c0
   case true=>
    go_wp2;exact(HN1.out _ _).2 ⟨rfl,_,_,_,_,_,_,_,_,_,_,_,rfl,fun h=>by cases h⟩
   case false=>
    have H1:=Zh (hc0 rfl);clear hc0;cases hh:hB8 68
    case true=>
     go_wp2_with (first|(go_at_call 65;refine(KH.out _ (by decide) (by decide) _).mono ?_;rintro e W ⟨rfl,rfl⟩)|fail)
     exact(HN1.out _ _).2 ⟨rfl,_,_,_,_,_,_,_,_,_,_,_,rfl,fun _=>trivial⟩
    case false=>
     go_wp2_with (first|(go_at_call 65;refine(KH.out _ (by decide) (by decide) _).mono ?_;rintro e W ⟨rfl,rfl⟩)|fail)
     exact(HN1.out _ _).2 ⟨rfl,_,_,_,_,_,_,_,_,_,_,_,rfl,fun _=>trivial⟩
  intro ax wx hx;obtain⟨hw,c1,jj,jk,jl,jm,jn,jo,jp,jq,jr,js,hax,hc1⟩:=(HN1.out _ _).1 hx;clear hx;subst wx;subst ax;clear HN1;change wpList _ _ _ [_,_,_,_,_,_,_,_,_,_,_,_,_,_,_,_,_,_,_,_,_] _ _;obtain⟨N2,hN2⟩:∃N:Act->World->Prop,∀a' w',N a' w' ↔ (w'=W/\∃(c:Bool) (jt ju jv jw jx jy jz j0 j1 j2:Value),a'=⟨#[y0,y1,y2,.pointer (some ⟨b,0,none⟩),y4,.string (bs L),.int .i64 4294967295,.int .i64 9223372036854775807,y8,y9,j3,j4,j5,j6,j7,j8,j9,ka,kb,kc,kd,ke,kf,kg,kh,ki,kj,kk,kl,km,kn,ko,kp,kq,kr,ks,kt,ku,kv,kw,ja,jb,jc,jd,je,jf,jg,jh,ji,.bool c0,jj,jk,jl,jm,jn,jo,jp,jq,jr,js,.bool c1,jt,ju,jv,jw,jx,jy,jz,j0,j1,j2,.bool c,lu,lv,lw,lx,ly,lz,l0,l1,l2,l3,l4,l5,l6,l7,l8,l9,oa,ob,oc,od,oe,og,oh,oi,oj,ok,ol,om,on,oo,op,oq,os,ot,ou,ov,ow,ox,oy,oz,o0,o1,o2,o3,o4,o5,o6,o7,o8,o9,qa,qb,qc,qd,qe,qf,qg,qh,qi,qj,qk,ql,qm,qn,qo,qp,qq,qr,qs,qt,qu,qv,qw,qx,qy,qz,q0,q1,q2,q3,q4,q5,q6,q7,q8,q9,ra,rb,rc,rd,re,rf,rg,rh,ri,rj,rk,rl,rm,rn,ro,rp,rq,rr,rs,rt,ru,rv,rx,ry,rz,r0,r5,r6,r7,r8,r9,ub],[]⟩/\(c=false->True)):=⟨_,fun _ _=>Iff.rfl⟩;have HN2:=Zh hN2;clear hN2;refine J6 11 N2 ?_ ?_
  ·change wpList _ _ _ [_,_,_,_,_,_,_,_,_,_,_] _ _
   cases c1
   case true=>
    go_wp2;exact(HN2.out _ _).2 ⟨rfl,_,_,_,_,_,_,_,_,_,_,_,rfl,fun h=>by cases h⟩
   case false=>
    have H2:=Zh (hc1 rfl);clear hc1;cases hh:hB8 119
    case true=>
     go_wp2_with (first|(go_at_call 65;refine(KH.out _ (by decide) (by decide) _).mono ?_;rintro e W ⟨rfl,rfl⟩)|fail)
     exact(HN2.out _ _).2 ⟨rfl,_,_,_,_,_,_,_,_,_,_,_,rfl,fun _=>trivial⟩
    case false=>
     go_wp2_with (first|(go_at_call 65;refine(KH.out _ (by decide) (by decide) _).mono ?_;rintro e W ⟨rfl,rfl⟩)|fail)
     exact(HN2.out _ _).2 ⟨rfl,_,_,_,_,_,_,_,_,_,_,_,rfl,fun _=>trivial⟩
  intro ax wx hx;obtain⟨hw,c2,jt,ju,jv,jw,jx,jy,jz,j0,j1,j2,hax,hc2⟩:=(HN2.out _ _).1 hx;clear hx;subst wx;subst ax;clear HN2;change wpList _ _ _ [_,_,_,_,_,_,_,_,_,_] _ _;cases c2
  case true=>
   go_wp2;go_meet
   case rel=>exact⟨BIf.t _,rfl⟩
  case false=>
   have H3:=Zh (hc2 rfl);clear hc2;cases hh:hB8 87
   case true=>
    go_wp2_with (first|(go_at_call 65;refine(KH.out _ (by decide) (by decide) _).mono ?_;rintro e W ⟨rfl,rfl⟩)|fail)
    go_meet
    case rel=>exact⟨⟨_,rfl,fun _=>trivial⟩,rfl⟩
   case false=>
    go_wp2_with (first|(go_at_call 65;refine(KH.out _ (by decide) (by decide) _).mono ?_;rintro e W ⟨rfl,rfl⟩)|fail)
    go_meet
    case rel=>exact⟨⟨_,rfl,fun _=>trivial⟩,rfl⟩
 case rest=>
 obtain⟨⟨c,rfl,-⟩,hw⟩:=hcut;have hw2:=hw.symm;clear hw;subst hw2
 go_upto_if 81 with fail
 go_cut [] from 4 to 4 (fun wx=>wx=W)
 case first=>
  cases c
  case true=>
   go_wp2;go_ret;exact J5.no HX.out.2.1
  case false=>
   go_wp2;go_meet
   case rel=>rfl
 case rest=>
 have hw2:=hcut.symm;clear hcut;subst hw2;obtain⟨hbZ,hB,hen,hun,hE,hU,hel,hL,hP⟩:=HX.out;apply_assumption;exact Aes L z es us w W b hbZ hB hen hun hE hU hel hL hP _ _ _ _ _ _ _ _ _ _ _ _ _ _ _ _ _ _ _ _ _ _ _ _ _ _ _ _ _ _ _ _ _ _ _ _ _ _ _ _ _ _ _ _ _ _ _ _ _ _ _ _ _ _ _ _ _ _ _ _ _ _ _ _ _ _ _ _ _ _ _ _ _ _ _ _ _ _ _ _ _ _ _ _ _ _ _ _ _ _ _ _ _ _ _ _ _ _ _ _ _ _ _ _ _ _ _ _ _ _ _ _ _ _ _ _ _ _ _ _ _ _ _ _ _ _ _ _ _ _ _ _ _ _ _ _ _ _ _ _ _ _ _ _ _ _ _ _ _ _ _ _ _ _ _ _ _ _ _ _ _ _ _ _ _ _ _ _ _ _ _ _ _ _ _ _ _ _ _ _ _ _ _ _ _ _
end
section
attribute [local go_sem ↓] Fq Lb Iv
attribute [local go_sem ↓] Rl
theorem Aet (p:Int)(z:Aa)(es:List Entry)(us:List Int)(w:World)(hen:z.en=es.length)(hun:z.un=us.length)(hE:At w 15 z.ea (es.map Entry.vals))(hU:At w 1 z.ua (us.map Fz))(hel:es.length<=9223372036854775807) :
  Calls Tryz.prog 29 #[.int .i64 p,.agg z.vals.toArray] w (J5 (Bg p (z.status==0)) z es us w):=by
 have bZ:=Blk.new w 51 z.vals;have hB:Below w.heap.size w (w.alloc (.cells z.vals.toArray 51)):=(Below.refl _ _).alloc (Nat.le_refl _) _;obtain⟨w1,hw1⟩:∃V,V=w.alloc (.cells z.vals.toArray 51):=⟨_,rfl⟩;rw[<-hw1]at bZ hB;have HW1:=Zh hw1;have HB:=Zh hB;have HE:=Zh (And.intro (hE.below hB) (And.intro (hU.below hB) (And.intro hen (And.intro hun hel))));have c0:w1.cell? ⟨w.heap.size,0,none⟩=some (.int .i64 z.status):=bZ.cell 0;have HbZ:=Zh bZ;have KK:=Zh (fun W=>Sm z.status W);have KF:=Zh (fun W=>Nt p (z.status==0) W);have KP1:=Zh (fun W=>Ku z.obj W);have KP2:=Zh (fun W=>Ku z.dir W);have KP3:=Zh (fun W=>Q8 z.wcc W);have KP4:=Zh (fun W=>Q8 z.wcc2 W);have hLl:(Bg p (z.status==0)).length<=1000:=by
  rcases Pc p with h|h|h|h|h|h|h|h|h|h|h|h|h|h|h|h|h|h|h|h|h|h|h|h
  ·rw[O0 h];exact Nat.zero_le _
  ·rw[Na h];exact Nat.zero_le _
  all_goals
   subst h;cases (z.status==0)<;>decide
 generalize Bg p (z.status==0)=L at *;have HLl:=Zh hLl;clear hw1 hB hE hU bZ hLl hen hun hel;go_enter Tryz.func29,Tryz.ntmps29
 go_upto_region 1 with fail;change Code.wp _ _ _ _ (w.alloc (.cells z.vals.toArray 51));rw[<-HW1.out];cases hst:Ih z.status
 case false=>
  rw[hst]at KK
  go_wp2_with (first
   |(go_at_call 61;refine(KK.out _).mono ?_;rintro e w2 ⟨rfl,hb⟩)
   |fail)
  go_ret;exact J5.no (Ad HB.out hb)
 case true=>
 rw[hst]at KK;have HST:=Zh hst;clear hst;go_wp2_with fail;refine(KK.out _).mono ?_
 rintro e w2 ⟨rfl,hb⟩;replace c0:w2.cell? ⟨w.heap.size,0,none⟩=some (.int .i64 z.status):=(HbZ.out.stays hb).cell 0;have HbZ2:=Zh (HbZ.out.stays hb);have H2:=Zh hb;clear hb KK;go_wp2_with fail;refine(KF.out _).mono ?_
 rintro e w3 ⟨rfl,hb⟩;have bZ3:=HbZ2.out.stays hb;have r1:rowOf w3 w.heap.size 2 11=some z.obj.vals.toArray:=bZ3.row 2 11 (by rw[Aa.len];omega);have HbZ3:=Zh bZ3;have H3:=Zh (Ad H2.out hb);clear hb KF c0 bZ3 HbZ2
 go_upto_region 6 with fail
 go_cut [39] from 18 to 38 (fun v wx=>BIf (z.obj.ok=true/\z.dir.ok=true/\z.wcc.ok=true/\z.wcc2.ok=true) v/\Below w3.heap.size w3 wx)
 case first=>
  cases o1:z.obj.ok
  case false=>
   rw[o1]at KP1
   go_wp2_with (first
    |(go_at_call 63;refine(KP1.out _).mono ?_;rintro e w4 ⟨rfl,hb⟩)
    |fail)
   go_meet
   case rel=>exact⟨BIf.t _,hb⟩
  case true=>
  rw[o1]at KP1;go_wp2_with fail;refine(KP1.out _).mono ?_
  rintro e w4 ⟨rfl,hb⟩;have bZ4:=HbZ3.out.stays hb;have r2:rowOf w4 w.heap.size 13 11=some z.dir.vals.toArray:=bZ4.row 13 11 (by rw[Aa.len];omega);have H4:=Zh hb;have HbZ4:=Zh bZ4;have HO1:=Zh o1;clear hb KP1 r1 bZ4 o1;cases o2:z.dir.ok
  case false=>
   rw[o2]at KP2
   go_wp2_with (first
    |(go_at_call 63;refine(KP2.out _).mono ?_;rintro e w5 ⟨rfl,hb⟩)
    |fail)
   go_meet
   case rel=>exact⟨BIf.t _,Ad H4.out hb⟩
  case true=>
  rw[o2]at KP2;go_wp2_with fail;refine(KP2.out _).mono ?_
  rintro e w5 ⟨rfl,hb⟩;have bZ5:=HbZ4.out.stays hb;have r3:rowOf w5 w.heap.size 24 13=some z.wcc.vals.toArray:=bZ5.row 24 13 (by rw[Aa.len];omega);have H5:=Zh (Ad H4.out hb);have HbZ5:=Zh bZ5;have HO2:=Zh o2;clear hb KP2 r2 bZ5 HbZ4 o2;cases o3:z.wcc.ok
  case false=>
   rw[o3]at KP3
   go_wp2_with (first
    |(go_at_call 64;refine(KP3.out _).mono ?_;rintro e w6 ⟨rfl,hb⟩)
    |fail)
   go_meet
   case rel=>exact⟨BIf.t _,Ad H5.out hb⟩
  case true=>
  rw[o3]at KP3;go_wp2_with fail;refine(KP3.out _).mono ?_
  rintro e w6 ⟨rfl,hb⟩;have bZ6:=HbZ5.out.stays hb;have r4:rowOf w6 w.heap.size 37 13=some z.wcc2.vals.toArray:=bZ6.row 37 13 (by rw[Aa.len];omega);have H6:=Zh (Ad H5.out hb);have HO3:=Zh o3;clear hb KP3 r3 bZ6 HbZ5 o3;cases o4:z.wcc2.ok
  all_goals
   rw[o4]at KP4;have HO4:=Zh o4;clear o4
   go_wp2_with (first
    |(go_at_call 64;refine(KP4.out _).mono ?_;rintro e w7 ⟨rfl,hb⟩)
    |fail)
   go_meet
  case rel=>exact⟨BIf.t _,Ad H6.out hb⟩
  case rel=>exact⟨BIf.f _ ⟨HO1.out,HO2.out,HO3.out,HO4.out⟩,Ad H6.out hb⟩
 case rest=>
 obtain⟨⟨c,rfl,hc⟩,hb⟩:=hcut;have HB7:=Zh (And.intro (Ad (Ad HB.out H3.out) hb) (And.intro (HbZ3.out.stays hb) (Ad H3.out hb)));have HC:=Zh hc;clear hc hb r1 KP1 KP2 KP3 KP4 HbZ3
 go_upto_if 39 with fail
 go_cut [] from 4 to 4 (fun wx=>(z.obj.ok=true/\z.dir.ok=true/\z.wcc.ok=true/\z.wcc2.ok=true)/\wx=wc)
 case first=>
  cases c
  case true=>
   go_wp2;go_ret;exact J5.no HB7.out.1
  case false=>
   go_wp2;go_meet
   case rel=>exact⟨HC.out (by trivial),rfl⟩
 case rest=>
 obtain⟨hok,hw⟩:=hcut;rw[hw];obtain⟨hE,hU,hen,hun,hel⟩:=HE.out;apply_assumption;exact Aht L z es us w _ w.heap.size HB7.out.2.1 HB7.out.1 hen hun (hE.below HB7.out.2.2) (hU.below HB7.out.2.2) hel HLl.out ⟨HST.out,hok⟩ _ _ _ _ _ _ _ _ _ _ _ _ _ _ _ _ _ _ _ _ _ _ _ _ _ _ _ _ _ _ _ _ _ _ _ _ _ _ _ _ _ _ _ _ _ _ _ _ _ _ _ _ _ _ _ _ _ _ _ _ _ _ _ _ _ _ _ _ _ _ _ _ _ _ _ _ _ _ _ _ _ _ _ _ _ _ _ _ _ _ _ _ _ _ _ _ _ _ _ _ _ _ _ _ _ _ _ _ _ _ _ _ _ _ _ _ _ _ _ _ _ _ _ _ _ _ _ _ _ _ _ _ _ _ _ _ _ _ _ _ _ _ _ _ _ _ _ _ _ _ _ _ _ _ _ _ _ _ _ _ _ _ _ _ _ _ _ _ _ _ _ _ _ _ _ _ _ _ _ _ _ _ _ _ _ _
end
section
attribute [local go_sem ↓] Mk J1 Mx Ji Gq
attribute [local go_sem] Bv Bj Cc Bu Cd Cj Cm C2 Bc Az B7 C5 Bi C6 Bp Dt C8 C7 Dz D5 Cy
attribute [local go_sem low] Cr
attribute [local go_sem] Aa.len Message.len B3.len Ho Ks Ic
theorem Ak0 {L:List UInt8}{c:UInt8}(h:c∈L):inL L c=true:=by
 unfold inL;exact List.contains_iff_mem.2 h
theorem Aoz {c:UInt8}{n:Nat}(h:c.toNat=n)(hn:n<256):c=UInt8.ofNat n:=by
 apply UInt8.toNat_inj.1
 rw[h,UInt8.toNat_ofNat'];omega
theorem Aro {L:List UInt8}{z:Aa}{es:List Entry}{us:List Int}(h:Als L z es us)(hg:Af5 ⟨z,es,us⟩){c:UInt8}(hc:c∈L)(hl:Hp c.toNat):rM8 ⟨z.bare,es,us⟩ c.toNat:=by
 have hin:=Ak0 hc;rcases hl with e|e|e|e|e|e|e|e|e|e|e|e|e|e
 all_goals
  have e2:=Aoz e (by decide);rw[e2]at hin;rw[e]
 ·exact h.texts.1
 ·exact⟨h.pre.oks.1,hg.obj⟩
 ·exact⟨h.pre.oks.2.1,hg.dir⟩
 ·exact⟨h.pre.oks.2.2.1,hg.wcc⟩
 ·exact⟨h.pre.oks.2.2.2,hg.wcc2⟩
 ·have:=h.ints.1 hin
  exact⟨this.1,hg.access⟩
 ·have:=h.ints.2.1 hin
  exact⟨this.1,hg.count⟩
 ·have:=h.ints.2.2.1 hin
  exact⟨this.1,hg.stable⟩
 ·have:=h.ints.2.2.2 hin
  exact⟨this.1,hg.verf⟩
 ·exact trivial
 ·exact h.texts.2.1
 ·exact⟨h.texts.2.2,fun n hn=>⟨h.us n hn,hg.us n hn⟩⟩
 ·exact⟨h.ents.1,fun x hx=>⟨⟨(h.ents.2 x hx).gen,Ol (hg.es x hx).1⟩,(h.ents.2 x hx).name,⟨(h.ents.2 x hx).cookie,Ol (hg.es x hx).2.2.1⟩,fun h=>by cases h⟩⟩
 ·exact⟨h.ents.1,fun x hx=>⟨⟨(h.ents.2 x hx).gen,Ol (hg.es x hx).1⟩,(h.ents.2 x hx).name,⟨(h.ents.2 x hx).cookie,Ol (hg.es x hx).2.2.1⟩,fun _=>⟨(h.ents.2 x hx).ok,(hg.es x hx).2.2.2.1,(h.ents.2 x hx).fh⟩⟩⟩
theorem Abe {n:Int}(h:Ih n=true):0<=n/\n<=4294967295:=
 (by decide:∀n∈Kq,(0:Int)<=n/\n<=4294967295) n (List.contains_iff_mem.1 h)
theorem Oz (x y:B3):setAt x.vals 0 y.vals=y.vals:=by
 have h:=J8 y.vals x.vals [] [] (by rw[B3.len,B3.len])
 simpa using h
theorem Am9 (x y:Message):setAt x.vals 0 y.vals=y.vals:=by
 have h:=J8 y.vals x.vals [] [] (by rw[Message.len,Message.len])
 simpa using h
theorem Anw {m:Message}(h:m.fit=true):m.body.length<=2048:=by
 unfold Message.fit at h;simp only[Bool.and_eq_true,decide_eq_true_eq]at h;exact h.2.1
def Aou (w:World)(e:Ending)(w':World):Prop:=(∃(x:B3) (b:Bool),e=.returned (.tuple #[.agg x.vals.toArray,.bool b]))/\Below w.heap.size w w'
theorem Aeo (F:Nat->Prop)(w:World)(g n m:Nat)(hI:FIs F w g n m)(hn:n<=900000)(s:Fw)(hs:s.rep.Kk w)(hg:Af5 s.rep) :
  Calls Tryz.prog 10 #[.pointer (some ⟨g,0,none⟩),.agg s.vals.toArray] w (Aou w):=by
 obtain⟨z,t,l,hA,hG⟩:=hI;obtain⟨bS,bP,hB,hsz⟩:=A7 w s.vals G4.vals 53 40;obtain⟨w1,hw1⟩:∃V,V=(w.alloc (.cells s.vals.toArray 53)).alloc (.cells G4.vals.toArray 40):=⟨_,rfl⟩;rw[<-hw1]at bS bP hB hsz;have hA1:=hA.below hB;have hlr:z.rn=l.length:=by have:=hA.recs.lenOf;rwa [List.length_map]at this
 have hls:l.length<=900000:=by have:=hG.recs;omega
 have HW1:=Zh hw1;have s0:w1.cell? ⟨w.heap.size,0,none⟩=some (.int .i64 s.s.kind):=bS.cell 0;have rP:rowOf w1 w.heap.size 31 3=some s.s.p.vals.toArray:=bS.row 31 3 (by rw[Fw.len];decide);have tP:=bP.Ar 0 3 (Nat.le_refl _);have HX:=Zh (And.intro bS (And.intro bP (And.intro hB (And.intro hA1 (And.intro (hs.below hB) (And.intro hg hlr))))));have hRet:=Zh (fun (V:World) (x:B3) (h:Below w.heap.size w V) (q:Blk V (w.heap.size+1) 40 x.vals) (bb:Bool) (act:Act) (h1:act.tmps.getD 4 undef=.pointer (some ⟨w.heap.size+1,0,none⟩)) (h2:act.tmps.getD 5 undef=.bool bb) (h3:act.defers=[])=>(show bodyPost Tryz.prog Tryz.f10 (Aou w) .ret act V from
  Ap (w.heap.size+1) 0 x.vals (.bool bb) Tryz.results10 Tryz.underlying40 rfl (by kernel_rfl) h1 h2 q.range h3 ⟨⟨x,bb,rfl⟩,h⟩))
 clear hw1 bS bP hB hA hA1 hG hs hg hlr;go_enter Tryz.func10,Tryz.ntmps10
 go_upto_region 1 with fail;change Code.wp _ _ _ _ ((w.alloc (.cells s.vals.toArray 53)).alloc (.cells G4.vals.toArray 40));rw[<-HW1.out];by_cases hk:s.s.kind=2
 case pos=>
  rw[hk]at s0;go_wp2_with fail;have q:=HX.out.2.1.D2 0 s.s.p.vals;rw[Oz]at q;exact hRet.out _ _ (by rw[B9];exact Below.setCells (by omega) _ _ _ HX.out.2.2.1) q true _ rfl rfl rfl
 case neg=>
 have hkb:(s.s.kind==2)=false:=by simpa using hk
 have c54:w1.cell? ⟨g,54,none⟩=some (.slice z.ra l.length z.rc):=by rw[HX.out.2.2.2.1.blk.cell 54,<-HX.out.2.2.2.2.2.2];rfl
 have c20:w1.cell? ⟨g,20,none⟩=some (.int .i64 z.now.c.proc):=HX.out.2.2.2.1.blk.cell 20;have c1:w1.cell? ⟨g,1,none⟩=some (.int .i64 z.self):=HX.out.2.2.2.1.blk.cell 1;have s92:w1.cell? ⟨w.heap.size,92,none⟩=some (.int .i64 s.s.from_):=HX.out.1.cell 92;have rR:rowOf w1 w.heap.size 34 58=some s.s.r.vals.toArray:=HX.out.1.row 34 58 (by rw[Fw.len];decide);have hgl:=HX.out.2.2.2.1.blk.lt;have hsl:=HX.out.1.lt;have hpl:=HX.out.2.1.lt;have hs:=HX.out.2.2.2.2.1;generalize z.now.c.proc=pr at *;generalize z.self=self at *;have KC:=Zh (fun V (h:Below w1.heap.size w1 V)=>Aet pr s.s.r s.es s.us V hs.ne hs.nu (hs.e.below h) (hs.u.below h) hs.le);have KB:=Zh (fun (hY:Als (Bg pr (s.s.r.status==0)) s.s.r s.es s.us) V (h:Below w1.heap.size w1 V)=>Z4 pr s.s.r s.es s.us V hs.ne hs.nu (hs.e.below h) (hs.u.below h) (Abe hY.pre.st).1 (Abe hY.pre.st).2 (fun k hk=>Aro hY HX.out.2.2.2.2.2.1 (List.getElem_mem hk) (G5 pr _ hk).2));have HBL:=Zh (fun (hY:Als (Bg pr (s.s.r.status==0)) s.s.r s.es s.us)=>(show (num s.s.r.status.toNat 4++La ⟨s.s.r.bare,s.es,s.us⟩ (Bg pr (s.s.r.status==0)) (Bg pr (s.s.r.status==0)).length).length<=9223372036854775807 from by
  have h1:=Aa1 ⟨s.s.r.bare,s.es,s.us⟩ (Bg pr (s.s.r.status==0)) (fun k hk=>(G5 pr _ hk).2) (fun k hk=>Aro hY HX.out.2.2.2.2.2.1 (List.getElem_mem hk) (G5 pr _ hk).2) _ (Nat.le_refl _);have h2:=Pb pr (s.s.r.status==0);rw[List.length_append,Ce]
  omega))
 have HS:=Zh (fun (V:World) (h:Below w1.heap.size w1 V)=>(show V.cell? ⟨g,54,none⟩=some (.slice z.ra l.length z.rc)/\V.cell? ⟨g,20,none⟩=some (.int .i64 pr)/\rowOf V w.heap.size 34 58=some s.s.r.vals.toArray from ⟨(h.cell (p:=⟨g,54,none⟩) hgl).trans c54,(h.cell (p:=⟨g,20,none⟩) hgl).trans c20,(Fu h hsl 34 58).trans rR⟩));have HS2:=Zh (fun (V:World) (h:Below w1.heap.size w1 V)=>(show V.cell? ⟨g,1,none⟩=some (.int .i64 self)/\V.cell? ⟨w.heap.size,92,none⟩=some (.int .i64 s.s.from_)/\Ar V (w.heap.size+1) 0 3=true from ⟨(h.cell (p:=⟨g,1,none⟩) hgl).trans c1,(h.cell (p:=⟨w.heap.size,92,none⟩) hsl).trans s92,Ej tP h⟩));have hSd:=HS.out _ (Below.refl w1.heap.size w1).drew;clear hs rP HW1
 go_upto_region 3 with fail
 go_cut [29] from 12 to 28 (fun v wx=>BIf (Als (Bg pr (s.s.r.status==0)) s.s.r s.es s.us) v/\Below w1.heap.size w1 wx)
 case first=>
  clear s92 c1 tP KB HBL;by_cases hl:l.length=0
  ·rw[hl]at c54
   clear hSd HS;go_quiet (fail)
   all_goals
    go_wp2;go_meet
    case rel=>exact⟨BIf.t _,bdN (Below.refl _ _) _⟩
  ·have hlb:((l.length:Int)==0)=false:=by simpa using hl
   clear hl;go_region_held3 (fun V=>V.cell? ⟨g,54,none⟩=some (.slice z.ra l.length z.rc)/\V.cell? ⟨g,20,none⟩=some (.int .i64 pr)/\rowOf V w.heap.size 34 58=some s.s.r.vals.toArray) (first|with_reducible assumption|exact⟨c54,c20,rR⟩|exact hSd) (first
    |(go_at_call 29;refine(KC.out _ (Below.refl _ _).drew).mono ?_;rintro e wt ⟨⟨r,rfl,hr⟩,hbt⟩;have hb6:Below w1.heap.size w1 wt:=Ad (Below.refl _ _).drew hbt;have hS6:=HS.out wt hb6)
    |fail)
   all_goals
    have HR:=Zh (And.intro hb6 hr);clear hbt hb6 hr hS6;go_wp2;go_meet
    case rel=>exact⟨⟨_,rfl,fun h=>HR.out.2 (by simpa using h)⟩,HR.out.1⟩
 case rest=>
 obtain⟨⟨b,rfl,hY⟩,hb3⟩:=hcut;clear hSd s0 hkb hk c54 c20 c1 s92 rR;have HB3:=Zh (And.intro (Ad HX.out.2.2.1 hb3) hb3);have tP3:=(HS2.out _ hb3).2.2;clear tP;cases b
 case true=>
  clear hb3;go_wp2_with fail;have q:=(HX.out.2.1.stays HB3.out.2).D2 0 G4.vals;rw[Oz]at q;exact hRet.out _ G4 (by rw[B9];exact Below.setCells (by omega) _ _ _ HB3.out.1) q false _ rfl rfl rfl
 case false=>
 have hY:=hY rfl;have KBy:=Zh (KB.out hY);have HBLy:=Zh (HBL.out hY);clear KB HBL hY;generalize num s.s.r.status.toNat 4++La ⟨s.s.r.bare,s.es,s.us⟩ (Bg pr (s.s.r.status==0)) (Bg pr (s.s.r.status==0)).length=body at *;obtain⟨d54,d20,dR⟩:=HS.out _ hb3;have HS5:=Zh (fun (V:World) (h:Below wc.heap.size wc V)=>HS.out V (Ad hb3 h));have HS6:=Zh (fun (V:World) (h:Below wc.heap.size wc V)=>HS2.out V (Ad hb3 h));have hSd:=HS5.out _ (Below.refl wc.heap.size wc).drew;have KB5:=Zh (fun V (h:Below wc.heap.size wc V)=>KBy.out V (Ad hb3 h));have hs3:=hb3.size;have hgl3:g<wc.heap.size:=Nat.lt_of_lt_of_le hgl hs3;have hsl3:w.heap.size<wc.heap.size:=Nat.lt_of_lt_of_le hsl hs3;have hpl3:w.heap.size+1<wc.heap.size:=Nat.lt_of_lt_of_le hpl hs3;clear hb3 HS HS2 KBy KC hgl hsl hpl
 go_upto_region 5 with fail
 go_cut [6] from 31 to 45 (fun v6 wx=>∃bm,v6=.pointer (some ⟨bm,0,none⟩)/\Blk wx bm 81 (Message.mk (l.length:Int) true false 0 Av 0 body).vals/\Below wc.heap.size wc wx/\wc.heap.size<=bm)
 case first=>
  go_region_held3 (fun V=>V.cell? ⟨g,54,none⟩=some (.slice z.ra l.length z.rc)/\V.cell? ⟨g,20,none⟩=some (.int .i64 pr)/\rowOf V w.heap.size 34 58=some s.s.r.vals.toArray) (first|with_reducible assumption|exact⟨d54,d20,dR⟩|exact hSd|exact HS5.out _ ((Below.refl _ _).alloc (Nat.le_refl _) _).drew|exact HS5.out _ (hb6.alloc hb6.size _)|exact HS5.out _ (Below.P8 (Nat.le_refl _) hb6)|exact HS5.out _ (Below.P8 hb6.size (hb6.alloc hb6.size _))) (first
   |(go_at_call 30;refine(KB5.out _ ?_).mono ?_;(first|exact(Below.refl _ _).drew|exact((Below.refl _ _).alloc (Nat.le_refl _) _).drew);rintro e w5 ⟨rfl,hb5⟩;have hb6:Below wc.heap.size wc w5:=(by first|exact Ad (Below.refl _ _).drew hb5|exact Ad ((Below.refl _ _).alloc (Nat.le_refl _) _).drew hb5);have hS6:=HS5.out w5 hb6;first|(have hZ5:Blk w5 wc.heap.size 81 Ck.vals:=(Blk.new wc 81 Ck.vals).drew.stays hb5;have ht5:Ar w5 wc.heap.size 0 10=true:=hZ5.Ar 0 10 (Nat.le_refl _))|skip)
   |fail)
  all_goals clear hS6
  all_goals clear hb5
  all_goals go_wp2
  all_goals go_meet
  case rel=>exact⟨_,rfl,Blk.new w5 _ (Message.mk (l.length:Int) true false 0 Av 0 body).vals,hb6.alloc hb6.size _,hb6.size⟩
  case rel=>
   have q1:=hZ5.D2 0 (Message.mk (l.length:Int) true false 0 Av 0 body).vals;rw[Am9]at q1;exact⟨_,rfl,q1,Below.P8 (Nat.le_refl _) hb6,Nat.le_refl _⟩
 case rest=>
 obtain⟨bm,rfl,bM,hb7,hbm⟩:=hcut;clear d54 d20 dR hSd HS5 KB5 tP3;obtain⟨mm,hmm⟩:∃x:Message,x=Message.mk (l.length:Int) true false 0 Av 0 body:=⟨_,rfl⟩;rw[<-hmm]at bM;have hbd:mm.body.length<=9223372036854775807:=by rw[hmm];exact HBLy.out
 clear hmm;have hs7:=hb7.size;have H7:=Zh (And.intro (Ad HB3.out.1 hb7) (And.intro (HX.out.2.1.stays (Ad HB3.out.2 hb7)) bM));have HS7:=Zh (fun (V:World) (h:Below wc.heap.size wc V)=>(show V.cell? ⟨g,1,none⟩=some (.int .i64 self)/\V.cell? ⟨w.heap.size,92,none⟩=some (.int .i64 s.s.from_)/\Ar V (w.heap.size+1) 0 3=true/\rowOf V bm 0 10=some mm.vals.toArray from ⟨(HS6.out V (Ad hb7 h)).1,(HS6.out V (Ad hb7 h)).2.1,(HS6.out V (Ad hb7 h)).2.2,(bM.stays h).row 0 10 (by rw[Message.len];decide)⟩));have rM:=bM.row 0 10 (by rw[Message.len];decide);have hml:=bM.lt;have hgl4:g<wc.heap.size:=Nat.lt_of_lt_of_le hgl3 hs7;have hsl4:w.heap.size<wc.heap.size:=Nat.lt_of_lt_of_le hsl3 hs7;have hpl4:w.heap.size+1<wc.heap.size:=Nat.lt_of_lt_of_le hpl3 hs7;clear hb7 bM HS6;have K9:=Zh (fun V=>So mm V hbd);cases hf:mm.fit
 case false=>
  rw[hf]at K9;clear hf
  go_wp2_with (first
   |(go_at_call 31;refine(K9.out _).mono ?_;rintro e w8 ⟨rfl,hb8⟩;have tP8:Ar w8 (w.heap.size+1) 0 3=true:=(HS7.out _ hb8).2.2.1)
   |fail)
  have q:=(H7.out.2.1.stays hb8).D2 0 G4.vals;rw[Oz]at q;exact hRet.out _ G4 (by rw[B9];exact Below.setCells (by omega) _ _ _ (Ad H7.out.1 hb8)) q false _ rfl rfl rfl
 case true=>
 rw[hf]at K9;have K10:=Zh (fun V=>Sp mm V (Aee (Aqs hf)) (by have:=Anw hf;omega));clear hf
 go_upto_region 8 with (first
  |(go_at_call 31;refine(K9.out _).mono ?_;rintro e w8 ⟨rfl,hb8⟩)
  |fail)
 have HSa:=Zh (fun V (h:Below w8.heap.size w8 V)=>HS7.out V (Ad hb8 h));have hs8:=hb8.size;have H8:=Zh (And.intro (Ad H7.out.1 hb8) (And.intro (H7.out.2.1.stays hb8) trivial));obtain⟨e1,e92,eP,eM⟩:=HS7.out _ hb8;have hSd:=HSa.out _ (Below.refl w8.heap.size w8).drew;have hbmP:bm≠w.heap.size+1:=by omega
 have hgP:g≠w.heap.size+1:=by have:=HX.out.2.2.2.1.fg;have:=HX.out.2.2.2.1;intro e;have h1:=HX.out.2.1;rw[<-e]at h1;exact absurd (h1.ne_ this.blk (by decide)) (fun h=>h rfl)
 have HSx:=Zh (fun (U:World) (cs:List Value) (hz:w8.heap.size<=U.heap.size) (h:U.cell? ⟨g,1,none⟩=some (.int .i64 self)/\U.cell? ⟨w.heap.size,92,none⟩=some (.int .i64 s.s.from_)/\Ar U (w.heap.size+1) 0 3=true/\rowOf U bm 0 10=some mm.vals.toArray)=>(show (putsW U (w.heap.size+1) 0 cs).cell? ⟨g,1,none⟩=some (.int .i64 self)/\(putsW U (w.heap.size+1) 0 cs).cell? ⟨w.heap.size,92,none⟩=some (.int .i64 s.s.from_)/\Ar (putsW U (w.heap.size+1) 0 cs) (w.heap.size+1) 0 3=true/\rowOf (putsW U (w.heap.size+1) 0 cs) bm 0 10=some mm.vals.toArray from
  ⟨(Az U g 1 _ _ _ hgP (by omega)).trans h.1,(Az U w.heap.size 92 _ _ _ (by omega) (by omega)).trans h.2.1,by rw[Bi];exact h.2.2.1,by rw[Bc _ _ _ _ _ _ _ hbmP];exact h.2.2.2⟩))
 clear hb8 rM;go_region_held3 (fun V=>V.cell? ⟨g,1,none⟩=some (.int .i64 self)/\V.cell? ⟨w.heap.size,92,none⟩=some (.int .i64 s.s.from_)/\Ar V (w.heap.size+1) 0 3=true/\rowOf V bm 0 10=some mm.vals.toArray) (first|with_reducible assumption|exact⟨e1,e92,eP,eM⟩|exact hSd|exact HSx.out _ _ hb6.size hS9) (first
  |(go_at_call 32;refine(K10.out _).mono ?_;rintro e w9 ⟨rfl,hb9⟩;have hb6:Below w8.heap.size w8 w9:=Ad (Below.refl _ _).drew hb9;have hS9:=HSa.out w9 hb6)
  |fail)
 have q:=(H8.out.2.1.stays hb6).D2 0 (B3.mk s.s.from_ self mm.raw).vals;rw[Oz]at q;have HF:=Zh (Ad H8.out.1 hb6);clear hb6 hb9 hS9 hSd;go_wp2_with fail;exact hRet.out _ (B3.mk s.s.from_ self mm.raw) (by rw[B9];exact Below.setCells (by omega) _ _ _ HF.out) q true _ rfl rfl rfl
end
end Go.Proofs.YtfjflkmhhbhceaaGreatDoor
