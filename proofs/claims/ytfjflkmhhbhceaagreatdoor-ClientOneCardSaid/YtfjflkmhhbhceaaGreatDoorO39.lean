/-
  Layer 33, walks: the document's client is made. No condition.
-/
import Derived.Test.YtfjflkmhhbhceaaGreatDoorO31
import Derived.Test.YtfjflkmhhbhceaaGreatDoorO38
import Derived.Deep.CutRange
import Derived.StillTailTactics
import Derived.Test.YtfjflkmhhbhceaaGreatDoorO37
import Derived.Test.YtfjflkmhhbhceaaGreatDoorO32
import Derived.Test.YtfjflkmhhbhceaaGreatDoorO29
import Derived.Test.YtfjflkmhhbhceaaGreatDoorO30
import Derived.Test.YtfjflkmhhbhceaaGreatDoorO05
set_option maxRecDepth 20000
set_option maxHeartbeats 40000000
namespace Go.Proofs.YtfjflkmhhbhceaaGreatDoor
open Go.RowKit
attribute [local go_sem ↓] Go.wp_at_zero Go.wp_at_succ
attribute [local go_sem] Ai Ag Af Ab Aj
section
attribute [local go_sem ↓] S9
attribute [local go_sem] Bv Bj Cc Bu Cd Cm C2 Bc Az C5 Bi C6 Bp Dt C8 C7 Dz D5
attribute [local go_sem low] Cr
attribute [local go_sem] Gc.len O9
def Ue (h:List UInt8)(id self server:Int)(k:Nat):Co:=
 { id:=id,self:=self,server:=server,p0:=if 0<k then ⟨h,1,0,[]⟩ else ⟨[],0,0,[]⟩,p1:=if 1<k then ⟨h,1,0,[]⟩ else ⟨[],0,0,[]⟩,p2:=if 2<k then ⟨h,1,0,[]⟩ else ⟨[],0,0,[]⟩,p3:=if 3<k then ⟨h,1,0,[]⟩ else ⟨[],0,0,[]⟩,ta:=none,tn:=0,tc:=0,now:=Anq,busy:=false,sent:=G4,due:=0,uid:=0,gid:=0,ra:=none,rn:=0,rc:=0 }
theorem Ahi (h:List UInt8)(id self server:Int){k:Nat}(hk:k<4):setAt (Ue h id self server k).vals (3+k*4) (Gc.mk h 1 0 []).vals=(Ue h id self server (k+1)).vals:=by
 rcases (show k=0\/k=1\/k=2\/k=3 by omega) with rfl|rfl|rfl|rfl
 all_goals exact rfl
theorem Ahj (h:List UInt8)(id self server:Int)(hid:0<=id/\id<=4294967295)(hh:h.length<=64)(k:Nat):Iq 0 0 (Ue h id self server k) [] []:=by
 refine⟨fun i=>?_,fun p hp=>(by cases hp),fun h=>(by cases h),Nat.le_refl _,Nat.le_refl _,fun h=>(by cases h),hid,by show (0:Int)<=0/\(0:Int)<=_;decide,by show (0:Int)<=0/\(0:Int)<=_;decide⟩
 have g1:Jy ⟨h,1,0,[]⟩:=⟨hh,by show (1:Int)<=_;decide,Nat.zero_le _,by show (0:Int)<=0/\(0:Int)<=_;decide⟩;have g0:Jy ⟨[],0,0,[]⟩:=⟨Nat.zero_le _,by show (0:Int)<=_;decide,Nat.zero_le _,by show (0:Int)<=0/\(0:Int)<=_;decide⟩;unfold Co.place Ue
 repeat' split
 all_goals first|exact g1|exact g0
theorem Asa:(fhB ⟨1,1,1⟩).length<=64:=by decide +kernel
theorem Ans (id self server:Int)(w:World)(hid:0<=id/\id<=4294967295) :
  Calls Tryz.prog 9 #[.int .i64 id,.int .i64 self,.int .i64 server] w fun e w'=>∃g,e=.returned (.pointer (some ⟨g,0,none⟩))/\FIs (fun k=>k=g) w' g 0 0/\w.heap.size<=g/\Below w.heap.size w w':=by
 obtain⟨h,hh⟩:∃h,h=fhB ⟨1,1,1⟩:=⟨_,rfl⟩;have hl:h.length<=64:=by rw[hh];exact Asa
 have KM:∀V,Calls Tryz.prog 28 #[.int .i64 1,.int .i64 1,.int .i64 1] V fun e w'=>e=.returned (.string (bs h))/\Below V.heap.size V w':=fun V=>by
  rw[hh];exact Ab4 1 1 1 V (.inl rfl) (by decide) (by decide)
 have HK:=Zh KM;have b0:=Blk.new w 102 (Ue h id self server 0).vals;have hB0:Below w.heap.size w (w.alloc (.cells (Ue h id self server 0).vals.toArray 102)):=(Below.refl _ _).alloc (Nat.le_refl _) _;obtain⟨w1,hw1⟩:∃V,V=w.alloc (.cells (Ue h id self server 0).vals.toArray 102):=⟨_,rfl⟩;rw[<-hw1]at b0 hB0;have HW:=Zh hw1;have H0:=Zh (And.intro b0 hB0);clear hh KM hw1 b0 hB0;go_enter Tryz.func9,Tryz.ntmps9
 go_upto_region 2 with fail;change Code.wp _ _ _ _ (w.alloc (.cells (Ue h id self server 0).vals.toArray 102));rw[<-HW.out];go_wp2
 go_loopw [8] (fun i wr=>∃k:Nat,k<=4/\i=.int .i64 k/\Blk wr w.heap.size 102 (Ue h id self server k).vals/\Below w.heap.size w wr) (fun i _=>4 - (intOf i).toNat)
 case atStart=>exact⟨0,by omega,rfl,H0.out.1,H0.out.2⟩
 case round=>
  obtain⟨k,hk,rfl,hb,hB⟩:=hrel;have hk0:(0:Int)<=(k:Int):=Int.natCast_nonneg _;by_cases hlt:k<4
  ·have hk1:(k:Int)<4:=by omega
   have hkw:IntKind.i64.wrap ((k:Int)+1)=((k+1:Nat):Int):=by rw[IntWalk.i64_in _ (by omega)];omega
   have tP:=hb.Ar (3+k*4) 4 (by rw[Co.len];omega);have HB:=Zh (And.intro hb hB);clear hb hB;go_wp2_with fail;go_region_held3 (fun U=>Ar U w.heap.size (3+k*4) 4=true) (first|with_reducible assumption|exact tP|(rw[Bi];exact t5)) (first
    |(go_at_call 28;refine(HK.out _).mono ?_;rintro e w5 ⟨rfl,hb5⟩;have t5:=Ej (w:=wr) tP (Ad (Below.refl _ _).drew hb5))
    |fail)
   have hb6:=Ad (Below.refl wr.heap.size wr).drew hb5;have HB6:=Zh hb6;clear t5 hb5 hb6 tP;go_wp2;go_roundw
   case rel=>
    have q1:=(HB.out.1.stays HB6.out).D2 (3+k*4) (Gc.mk h 1 0 []).vals;rw[Ahi h id self server hlt]at q1;exact⟨k+1,by omega,by go_num,q1,by rw[B9];exact Below.setCells (Nat.le_refl _) _ _ _ (Ad HB.out.2 HB6.out)⟩
   case measure=>simp[intOf];omega
  ·obtain rfl:k=4:=by omega
   have HB:=Zh (And.intro hb hB);clear hb hB;go_wp2;go_ret;have hb:=HB.out.1;exact⟨w.heap.size,rfl,⟨_,[],[],⟨hb,As.none_,fun k hk=>(by cases hk),As.none_,fun k hk=>(by cases hk),rfl,fun k hk=>by subst hk;exact hb.lt⟩,Ahj h id self server hid hl 4⟩,Nat.le_refl _,HB.out.2⟩
end
section
attribute [local go_sem ↓] F1 D6 L6
attribute [local go_sem] Bv Bj Cc Bu Cd Cj Cm C2 Bc Az B7 C5 Bi C6 Bp Dt C8 C7 Dz D5 Cy
attribute [local go_sem low] Cr
attribute [local go_sem] F4 Call.len Ask.len D0 Nr
theorem Tl (i:Int)(w:World):Calls Tryz.prog 88 #[.int .i64 i] w fun e w'=>e=.returned (.bool (Dr i))/\w'=w:=by
 go_enter Tryz.func88,Tryz.ntmps88
 go_wp2
 all_goals (go_ret;go_light;exact⟨A5 (by unfold Dr;grind),rfl⟩)
theorem Y5 (i:Int)(w:World):Calls Tryz.prog 46 #[.int .i64 i] w fun e w'=>e=.returned (.bool (Fo i))/\w'=w:=by
 go_enter Tryz.func46,Tryz.ntmps46
 go_wp2
 all_goals (go_ret;go_light;exact⟨A5 (by unfold Fo;grind),rfl⟩)
theorem Ak7 (i:Int)(w:World):Calls Tryz.prog 41 #[.int .i64 i] w fun e w'=>e=.returned (.bool (Rx i))/\w'=w:=by
 go_enter Tryz.func41,Tryz.ntmps41
 go_wp2
 all_goals (go_ret;go_light;exact⟨A5 (by unfold Rx;grind),rfl⟩)
theorem Ww (gen:Int)(w:World)(hg:gen<=9223372036854775807):Calls Tryz.prog 91 #[.int .i64 gen] w fun e w'=>(∃s,e=.returned (.string (bs s)))/\w'=w:=by
 by_cases h:gen<1
 ·go_enter Tryz.func91,Tryz.ntmps91
  go_wp2;go_ret;exact⟨⟨[],rfl⟩,rfl⟩
 ·obtain⟨n,rfl⟩:∃n:Nat,gen=n:=⟨gen.toNat,by omega⟩
  go_enter Tryz.func91,Tryz.ntmps91
  go_wp2_with fail;refine(Wx n _ hg).mono ?_
  rintro e w' ⟨rfl,rfl⟩;go_wp2;go_ret;exact⟨⟨_,rfl⟩,rfl⟩
def Atb (e:Ending):Prop:=∃r,e=.returned (.bool r)
theorem Aeq (s:List UInt8)(b:Int)(w:World)(hl:s.length<=9223372036854775807):Calls Tryz.prog 90 #[.string (bs s),.int .u8 b] w fun e w'=>Atb e/\w'=w:=by
 have hz:=Au s;go_enter Tryz.func90,Tryz.ntmps90
 go_wp2
 go_loopw [5] (fun i wr=>∃k:Nat,k<=s.length/\i=.int .i64 k/\wr=w) (fun i _=>s.length - (intOf i).toNat)
 case atStart=>exact⟨0,Nat.zero_le _,rfl,rfl⟩
 case round=>
  obtain⟨k,hk,rfl,rfl⟩:=hrel;have hk0:(0:Int)<=(k:Int):=Int.natCast_nonneg _;by_cases hlt:k<s.length
  ·have hk1:(k:Int)<(s.length:Int):=by omega
   have hkw:IntKind.i64.wrap ((k:Int)+1)=((k+1:Nat):Int):=by rw[IntWalk.i64_in _ (by omega)];omega
   go_wp2
   ·go_ret
    exact⟨⟨_,rfl⟩,rfl⟩
   ·go_roundw
    case rel=>exact⟨k+1,by omega,by go_num,trivial⟩
    case measure=>simp[intOf];omega
  ·obtain rfl:k=s.length:=by omega
   go_wp2;go_ret;exact⟨⟨_,rfl⟩,rfl⟩
theorem Ahk (x:Call)(w:World):Calls Tryz.prog 89 #[.agg x.vals.toArray] w fun e w'=>e=.returned (.bool (Ij x.proc && cIs x))/\Below w.heap.size w w':=by
 have bX:=Blk.new w 36 x.vals;have hB:Below w.heap.size w (w.alloc (.cells x.vals.toArray 36)):=(Below.refl _ _).alloc (Nat.le_refl _) _;obtain⟨w1,hw1⟩:∃V,V=w.alloc (.cells x.vals.toArray 36):=⟨_,rfl⟩;rw[<-hw1]at bX hB;have HW:=Zh hw1;have HB:=Zh hB;have x0:w1.cell? ⟨w.heap.size,0,none⟩=some (.int .i64 x.proc):=bX.cell 0;have rX:rowOf w1 w.heap.size 0 24=some x.vals.toArray:=bX.row 0 24 (by rw[Call.len];decide);have KT:=Zh (Ab3 x.proc w1);have KC:=Zh (Z2 x w1);clear hw1 hB bX;go_enter Tryz.func89,Tryz.ntmps89
 go_upto_region 1 with fail;change Code.wp _ _ _ _ (w.alloc (.cells x.vals.toArray 36));rw[<-HW.out];cases ht:Ij x.proc
 case false=>
  rw[ht]at KT
  go_wp2_with (first
   |(go_at_call 130;refine KT.out.mono ?_;rintro e wt ⟨rfl,rfl⟩)
   |fail)
  go_ret;exact⟨by rw[ht];rfl,HB.out⟩
 case true=>
  rw[ht]at KT
  go_wp2_with (first
   |(go_at_call 130;refine KT.out.mono ?_;rintro e wt ⟨rfl,rfl⟩)
   |(go_at_call 131;refine KC.out.mono ?_;rintro e wt ⟨rfl,hbt⟩)
   |fail)
  go_ret;exact⟨by rw[ht];rfl,Ad HB.out hbt⟩
structure Aip (a:Ask) (step now:Int) (x:Call):Prop where
 is:x=(Bq a).1
 kind:(Bq a).2.2=true
 var:Dr a.var=true
 dir:a.kind=1\/a.kind=5->Dr a.dir=true
 to_:a.kind=5->Dr a.to_=true
 who:Ac4 a=true
 step:1<=step
 now:Fo now=true
 there:Ij x.proc=true
 fits:cIs x=true
def Asj (a:Ask)(step now:Int)(w:World)(e:Ending)(w':World):Prop:=
 ∃(x:Call) (b:Bool),e=.returned (.tuple #[.agg x.vals.toArray,.bool b])/\(b=true->Aip a step now x)/\Below w.heap.size w w'
theorem Aif (x:Call):(x.vals.set 1 (.string (bs []))).set 3 (.string (bs []))=({ x with fh:=[],fh2:=[] }:Call).vals:=rfl
theorem Nk (x y:Call):setAt x.vals 0 y.vals=y.vals:=by
 have h:=J8 y.vals x.vals [] [] (by rw[Call.len,Call.len])
 simpa using h
end
section
attribute [local go_sem ↓] Po D6
attribute [local go_sem] Bv Bj Cc Bu Cd Cm C2 Bc Az B7 C5 Bi C6 Bp Dt C8 C7 D5
theorem FAt.tou {F:Nat->Prop}{w w':World}{g:Nat}{z:Co}{t:List C1}{l:List Bz}(h:FAt F w g z t l)(ht:Touch (Gb w [36]) w w'):FAt F w' g z t l:=
 ⟨h.blk.Ak ht fun e=>absurd (P2 h.blk e) (by decide),h.todo.tou ht (by decide),h.otodo,h.recs.tou ht (by decide),h.orecs,h.fg,fun k hk=>Nat.lt_of_lt_of_le (h.lt k hk) ht.size⟩
structure Ul (F G:Nat->Prop) (w:World) (g bx bt:Nat) (z:Co) (t:List C1) (l:List Bz) (x y:Call) (W:World):Prop where
 f:FAt G W g z t l
 tch:Touch F w W
 xb:Blk W bx 36 x.vals
 yb:Blk W bt 36 y.vals
 ne:bx≠bt
 lx:w.heap.size<=bx
 lt:w.heap.size<=bt
section
variable {F G:Nat->Prop} {w W:World} {g bx bt:Nat} {z:Co} {t:List C1} {l:List Bz} {x y:Call}
theorem Ul.D2 (h:Ul F G w g bx bt z t l x y W)(i:Nat)(s u:List UInt8){x' y':Call}(hx:setAt x.vals i [.string (bs s)]=x'.vals)(hy:setAt y.vals i [.string (bs u)]=y'.vals):Ul F G w g bx bt z t l x' y' (putsW (putsW W bx i [.string (bs s)]) bt i [.string (bs u)]):=by
 have t1:Touch (fun k=>k=bx\/k=bt) W (putsW (putsW W bx i [.string (bs s)]) bt i [.string (bs u)]):=((Touch.refl _ _).D2 (.inl (.inl rfl))).D2 (.inl (.inr rfl));have h1:=(h.xb.D2 i [.string (bs s)]).Jh (b:=bt) (o:=i) (vs:=[.string (bs u)]) h.ne;have h2:=((h.yb.Jh (b:=bx) (o:=i) (vs:=[.string (bs s)]) (Ne.symm h.ne)).D2 i [.string (bs u)]);rw[hx]at h1;rw[hy]at h2;have hlx:=h.lx;have hlt:=h.lt;have hty:Touch (Gb W [36]) W (putsW (putsW W bx i [.string (bs s)]) bt i [.string (bs u)]):=t1.mono fun k _ hk=>by
  rcases hk with rfl|rfl
  ·exact Jw h.xb (by decide)
  ·exact Jw h.yb (by decide)
 exact⟨h.f.tou hty,h.tch.trans t1 (fun i hi e=>by omega),h1,h2,h.ne,hlx,hlt⟩
theorem Ul.drew (h:Ul F G w g bx bt z t l x y W):Ul F G w g bx bt z t l x y W.drew:=
 ⟨h.f.tou ((Touch.refl _ _).drew),h.tch.drew,h.xb.drew,h.yb.drew,h.ne,h.lx,h.lt⟩
theorem Ul.below {W':World}(h:Ul F G w g bx bt z t l x y W)(hb:Below W.heap.size W W'):Ul F G w g bx bt z t l x y W':=
 ⟨h.f.below hb,h.tch.Ay (Touch.Aq hb F),h.xb.stays hb,h.yb.stays hb,h.ne,h.lx,h.lt⟩
end
theorem OkX.fh {x:Call}(h:OkX x){s:List UInt8}(hs:s.length<=64):OkX { x with fh:=s }:=⟨h.proc,(Zi h.may s hs).1,⟨h.g.offset,h.g.cookie,h.g.verf,h.g.set,h.g.guard⟩,h.set⟩
theorem OkX.fh2 {x:Call}(h:OkX x){s:List UInt8}(hs:s.length<=64):OkX { x with fh2:=s }:=⟨h.proc,(Zi h.may s hs).2,⟨h.g.offset,h.g.cookie,h.g.verf,h.g.set,h.g.guard⟩,h.set⟩
theorem Ak6 (F G:Nat->Prop)(w W:World)(g bx bt n m:Nat)(z:Co)(t:List C1)(l:List Bz)(x y:Call)(step now:Int)(hM:Ul F G w g bx bt z t l x y W)(hGk:∀j,G j->F j\/w.heap.size<=j)(hG:Iq n m z t l)(hp:L0 z.now)(hn:n<=900000)(hx:OkX x)(hnw:0<=now/\now<=1099511627776)(y3 y4 y5 y6 y9 ja jb jc jd je jf jg jh ji jj jk jl jm jn jo jp jq jr js jt ju jv jw jx jy jz j0 j1 j2 j3 j4 j5 j6 j7 j8 j9 ka kb kc kd ke kf kg kh ki kj kk kl km kn ko kp kq kr ks kt ku kv kw kx ky kz k0 k1 k2 k3 k4 k5 k6 k7 k8 k9 la lb lc ld lf lg lh li lj lk ll lm ln lo lp lq lr ls lu lv lw ly lz l0 l1 l2 l3 l4 l5 l6 l7 l8 l9 oa ob oc od oe og oh oi oj ok ol om on oo op oq os ot ou ov ow ox oy oz o0 o1 o2 o3 o4 o5 o6 o7 o8 o9 qa qb qc qd qe qf qg qh qi qj qk ql qm qn qo qp qq qr qs qt qu:Value) :
  Code.wp Tryz.prog (Ju 10 (Tryz.f42.body.getD .ret)) (bodyPost Tryz.prog Tryz.f42 (Acz F g (n+1) m w)) ⟨#[.pointer (some ⟨g,0,none⟩),.int .i64 step,.int .i64 now,y3,y4,y5,y6,.pointer (some ⟨bx,0,none⟩),.pointer (some ⟨bt,0,none⟩),y9,ja,jb,jc,jd,je,jf,jg,jh,ji,jj,jk,jl,jm,jn,jo,jp,jq,jr,js,jt,ju,jv,jw,jx,jy,jz,j0,j1,j2,j3,j4,j5,j6,j7,j8,j9,ka,kb,kc,kd,ke,kf,kg,kh,ki,kj,kk,kl,km,kn,ko,kp,kq,kr,ks,kt,ku,kv,kw,kx,ky,kz,k0,k1,k2,k3,k4,k5,k6,k7,k8,k9,la,lb,lc,ld,lf,lg,lh,li,lj,lk,ll,lm,ln,lo,lp,lq,lr,ls,lu,lv,lw,ly,lz,l0,l1,l2,l3,l4,l5,l6,l7,l8,l9,oa,ob,oc,od,oe,og,oh,oi,oj,ok,ol,om,on,oo,op,oq,os,ot,ou,ov,ow,ox,oy,oz,o0,o1,o2,o3,o4,o5,o6,o7,o8,o9,qa,qb,qc,qd,qe,qf,qg,qh,qi,qj,qk,ql,qm,qn,qo,qp,qq,qr,qs,qt,qu],[]⟩ W:=by
 change Code.wp _ (Code.seq (Code.seq (Code.region 10 _ _) _) _) _ _ _;dsimp only;have x0:W.cell? ⟨bx,0,none⟩=some (.int .i64 x.proc):=hM.xb.cell 0;have KF:=fun V=>Jp x.proc V
 have KH:=fun V=>Aeq (Al x.proc) 70 V (by have:=Rv x.proc;omega)
 have HM:=Zh hM;have HG:=Zh (And.intro hG (And.intro hp hx));clear hM hG hp hx
 go_upto_if 78 with (first
  |(go_at_call 53;refine(KF _).mono ?_;rintro e w5 ⟨rfl,hb5⟩)
  |(go_at_call 90;refine(KH _).mono ?_;rintro e w6 ⟨⟨r,rfl⟩,hw6⟩;rw[hw6];clear hw6)
  |fail)
 have hM5:=HM.out.below hb5;have HM5:=Zh hM5
 go_cut [] from 79 to 103 (fun wx=>∃x' y',OkX x'/\Ul F G w g bx bt z t l x' y' wx)
 case first=>
  cases r
  case false=>
   clear hM5 hb5 x0;go_wp2;go_meet
   case rel=>exact⟨x,y,HG.out.2.2,HM5.out⟩
  case true=>
   have hpg:=HG.out.2.1;have hbk:=hM5.f.blk;obtain⟨d,hd,hd4⟩:∃d:Nat,z.now.to_=d/\d<4:=⟨z.now.to_.toNat,by have:=hpg.to_;omega,by have:=hpg.to_;omega⟩;obtain⟨r0,r1,-,-⟩:=Gj z hd4;have cd:w5.cell? ⟨g,45,none⟩=some (.int .i64 (d:Int)):=by rw[hbk.cell 45,<-hd];rfl
   have e0:w5.cell? ⟨g,3+d*4,none⟩=some (.string (bs (z.place d).handle)):=(hbk.cell _).trans r0;have e1:w5.cell? ⟨g,3+d*4+1,none⟩=some (.int .i64 (z.place d).gen):=(hbk.cell _).trans r1;have tX:=hM5.xb.Ar 3 1 (by rw[Call.len];omega);have tT:=hM5.yb.Ar 3 1 (by rw[Call.len];omega);have hd0:(0:Int)<=(d:Int):=by omega
   have hd1:(d:Int)<4:=by omega
   have hgx:g≠bx:=fun e=>by have h1:=hM5.xb;rw[<-e]at h1;exact absurd (h1.ne_ hbk (by decide)) (fun h=>h rfl)
   have hgt:g≠bt:=fun e=>by have h1:=hM5.yb;rw[<-e]at h1;exact absurd (h1.ne_ hbk (by decide)) (fun h=>h rfl)
   have hgl:=hbk.lt;have hgen:=(HG.out.1.ps d).gen;have hhan:=(HG.out.1.ps d).handle;have KD:=fun V=>Ww (z.place d).gen V hgen
   clear hM5 hb5 x0 r0 r1 hbk hpg KF KH
   go_upto_region 11 with fail;go_region;obtain⟨V,hV⟩:∃V,V=putsW w5 bx 3 [.string (bs (z.place d).handle)]:=⟨_,rfl⟩;rw[<-hV];have vd:V.cell? ⟨g,45,none⟩=some (.int .i64 (d:Int)):=by rw[hV];exact(Az w5 g 45 bx _ _ hgx hgl).trans cd
   have v1:V.cell? ⟨g,3+d*4+1,none⟩=some (.int .i64 (z.place d).gen):=by rw[hV];exact(Az w5 g _ bx _ _ hgx hgl).trans e1
   have tV:Ar V bt 3 1=true:=by rw[hV,Bi];exact tT
   have hgV:g<V.heap.size:=by rw[hV,Bp];exact hgl
   have HV:=Zh hV;clear hV cd e0 e1 tX tT hgl
   go_upto_region 12 with fail;have HSx:=Zh (fun (U:World) (s:List UInt8) (h:U.cell? ⟨g,45,none⟩=some (.int .i64 (d:Int))/\U.cell? ⟨g,3+d*4+1,none⟩=some (.int .i64 (z.place d).gen)/\Ar U bt 3 1=true/\g<U.heap.size)=>(show (putsW U bt 3 [.string (bs s)]).cell? ⟨g,45,none⟩=some (.int .i64 (d:Int))/\(putsW U bt 3 [.string (bs s)]).cell? ⟨g,3+d*4+1,none⟩=some (.int .i64 (z.place d).gen)/\Ar (putsW U bt 3 [.string (bs s)]) bt 3 1=true/\g<(putsW U bt 3 [.string (bs s)]).heap.size from
    ⟨(Az U g 45 bt _ _ hgt h.2.2.2).trans h.1,(Az U g _ bt _ _ hgt h.2.2.2).trans h.2.1,by rw[Bi];exact h.2.2.1,by rw[Bp];exact h.2.2.2⟩))
   go_region_held3 (fun U=>U.cell? ⟨g,45,none⟩=some (.int .i64 (d:Int))/\U.cell? ⟨g,3+d*4+1,none⟩=some (.int .i64 (z.place d).gen)/\Ar U bt 3 1=true/\g<U.heap.size) (first|with_reducible assumption|exact⟨vd,v1,tV,hgV⟩|exact HSx.out _ _ ⟨vd,v1,tV,hgV⟩) (first
    |(go_at_call 91;refine(KD _).mono ?_;rintro e wt ⟨⟨s,rfl⟩,hwt⟩;rw[hwt];clear hwt)
    |fail)
   go_wp2;go_meet
   case rel=>
    have hm:=(HM5.out.D2 3 (z.place d).handle s (x':={ x with fh2:=(z.place d).handle }) (y':={ y with fh2:=s }) rfl rfl).drew.drew;rw[<-HV.out]at hm;exact⟨_,_,HG.out.2.2.fh2 hhan,hm⟩
 case rest=>
 obtain⟨x',y',hx',hM'⟩:=hcut;apply_assumption;exact Ak5 F G w _ g bx bt n m z t l x' y' step now hM'.f hGk hM'.tch HG.out.1 HG.out.2.1 hn hM'.xb hM'.yb hx' hnw _ _ _ _ _ _ _ _ _ _ _ _ _ _ _ _ _ _ _ _ _ _ _ _ _ _ _ _ _ _ _ _ _ _ _ _ _ _ _ _ _ _ _ _ _ _ _ _ _ _ _ _ _ _ _ _ _ _ _ _ _ _ _ _ _ _ _ _ _ _ _ _ _ _ _ _ _ _ _ _ _ _ _ _ _ _ _ _ _ _ _ _ _ _ _ _ _ _ _ _ _ _ _ _ _ _ _ _ _ _ _ _ _ _ _ _ _ _ _ _ _ _ _ _ _ _ _ _ _ _ _ _ _ _ _ _ _ _ _ _ _ _ _ _ _ _ _ _ _ _ _ _ _ _ _ _ _ _ _ _ _ _ _ _ _
theorem Anr (F G:Nat->Prop)(w W:World)(g bx bt n m:Nat)(z:Co)(t:List C1)(l:List Bz)(x y:Call)(step now:Int)(hM:Ul F G w g bx bt z t l x y W)(hGk:∀j,G j->F j\/w.heap.size<=j)(hG:Iq n m z t l)(hp:L0 z.now)(hn:n<=900000)(hx:OkX x)(hnw:0<=now/\now<=1099511627776)(y3 y4 y5 y6 y9 ja jb jc jd je jf jg jh ji jj jk jl jm jn jo jp jq jr js jt ju jv jw jx jy jz j0 j1 j2 j3 j4 j5 j6 j7 j8 j9 ka kb kc kd ke kf kg kh ki kj kk kl km kn ko kp kq kr ks kt ku kv kw kx ky kz k0 k1 k2 k3 k4 k5 k6 k7 k8 k9 la lb lc ld lf lg lh li lj lk ll lm ln lo lp lq lr ls lu lv lw ly lz l0 l1 l2 l3 l4 l5 l6 l7 l8 l9 oa ob oc od oe og oh oi oj ok ol om on oo op oq os ot ou ov ow ox oy oz o0 o1 o2 o3 o4 o5 o6 o7 o8 o9 qa qb qc qd qe qf qg qh qi qj qk ql qm qn qo qp qq qr qs qt qu:Value) :
  Code.wp Tryz.prog (Ju 7 (Tryz.f42.body.getD .ret)) (bodyPost Tryz.prog Tryz.f42 (Acz F g (n+1) m w)) ⟨#[.pointer (some ⟨g,0,none⟩),.int .i64 step,.int .i64 now,y3,y4,y5,y6,.pointer (some ⟨bx,0,none⟩),.pointer (some ⟨bt,0,none⟩),y9,ja,jb,jc,jd,je,jf,jg,jh,ji,jj,jk,jl,jm,jn,jo,jp,jq,jr,js,jt,ju,jv,jw,jx,jy,jz,j0,j1,j2,j3,j4,j5,j6,j7,j8,j9,ka,kb,kc,kd,ke,kf,kg,kh,ki,kj,kk,kl,km,kn,ko,kp,kq,kr,ks,kt,ku,kv,kw,kx,ky,kz,k0,k1,k2,k3,k4,k5,k6,k7,k8,k9,la,lb,lc,ld,lf,lg,lh,li,lj,lk,ll,lm,ln,lo,lp,lq,lr,ls,lu,lv,lw,ly,lz,l0,l1,l2,l3,l4,l5,l6,l7,l8,l9,oa,ob,oc,od,oe,og,oh,oi,oj,ok,ol,om,on,oo,op,oq,os,ot,ou,ov,ow,ox,oy,oz,o0,o1,o2,o3,o4,o5,o6,o7,o8,o9,qa,qb,qc,qd,qe,qf,qg,qh,qi,qj,qk,ql,qm,qn,qo,qp,qq,qr,qs,qt,qu],[]⟩ W:=by
 change Code.wp _ (Code.seq (Code.seq (Code.region 7 _ _) _) _) _ _ _;dsimp only;have x0:W.cell? ⟨bx,0,none⟩=some (.int .i64 x.proc):=hM.xb.cell 0;have KF:=fun V=>Jp x.proc V
 have KH:=fun V=>Aeq (Al x.proc) 102 V (by have:=Rv x.proc;omega)
 have HM:=Zh hM;have HG:=Zh (And.intro hG (And.intro hp hx));clear hM hG hp hx
 go_upto_if 49 with (first
  |(go_at_call 53;refine(KF _).mono ?_;rintro e w5 ⟨rfl,hb5⟩)
  |(go_at_call 90;refine(KH _).mono ?_;rintro e w6 ⟨⟨r,rfl⟩,hw6⟩;rw[hw6];clear hw6)
  |fail)
 have hM5:=HM.out.below hb5;have HM5:=Zh hM5
 go_cut [] from 50 to 74 (fun wx=>∃x' y',OkX x'/\Ul F G w g bx bt z t l x' y' wx)
 case first=>
  cases r
  case false=>
   clear hM5 hb5 x0;go_wp2;go_meet
   case rel=>exact⟨x,y,HG.out.2.2,HM5.out⟩
  case true=>
   have hpg:=HG.out.2.1;have hbk:=hM5.f.blk;obtain⟨d,hd,hd4⟩:∃d:Nat,z.now.dir=d/\d<4:=⟨z.now.dir.toNat,by have:=hpg.dir;omega,by have:=hpg.dir;omega⟩;obtain⟨r0,r1,-,-⟩:=Gj z hd4;have cd:w5.cell? ⟨g,44,none⟩=some (.int .i64 (d:Int)):=by rw[hbk.cell 44,<-hd];rfl
   have e0:w5.cell? ⟨g,3+d*4,none⟩=some (.string (bs (z.place d).handle)):=(hbk.cell _).trans r0;have e1:w5.cell? ⟨g,3+d*4+1,none⟩=some (.int .i64 (z.place d).gen):=(hbk.cell _).trans r1;have tX:=hM5.xb.Ar 1 1 (by rw[Call.len];omega);have tT:=hM5.yb.Ar 1 1 (by rw[Call.len];omega);have hd0:(0:Int)<=(d:Int):=by omega
   have hd1:(d:Int)<4:=by omega
   have hgx:g≠bx:=fun e=>by have h1:=hM5.xb;rw[<-e]at h1;exact absurd (h1.ne_ hbk (by decide)) (fun h=>h rfl)
   have hgt:g≠bt:=fun e=>by have h1:=hM5.yb;rw[<-e]at h1;exact absurd (h1.ne_ hbk (by decide)) (fun h=>h rfl)
   have hgl:=hbk.lt;have hgen:=(HG.out.1.ps d).gen;have hhan:=(HG.out.1.ps d).handle;have KD:=fun V=>Ww (z.place d).gen V hgen
   clear hM5 hb5 x0 r0 r1 hbk hpg KF KH
   go_upto_region 8 with fail;go_region;obtain⟨V,hV⟩:∃V,V=putsW w5 bx 1 [.string (bs (z.place d).handle)]:=⟨_,rfl⟩;rw[<-hV];have vd:V.cell? ⟨g,44,none⟩=some (.int .i64 (d:Int)):=by rw[hV];exact(Az w5 g 44 bx _ _ hgx hgl).trans cd
   have v1:V.cell? ⟨g,3+d*4+1,none⟩=some (.int .i64 (z.place d).gen):=by rw[hV];exact(Az w5 g _ bx _ _ hgx hgl).trans e1
   have tV:Ar V bt 1 1=true:=by rw[hV,Bi];exact tT
   have hgV:g<V.heap.size:=by rw[hV,Bp];exact hgl
   have HV:=Zh hV;clear hV cd e0 e1 tX tT hgl
   go_upto_region 9 with fail;have HSx:=Zh (fun (U:World) (s:List UInt8) (h:U.cell? ⟨g,44,none⟩=some (.int .i64 (d:Int))/\U.cell? ⟨g,3+d*4+1,none⟩=some (.int .i64 (z.place d).gen)/\Ar U bt 1 1=true/\g<U.heap.size)=>(show (putsW U bt 1 [.string (bs s)]).cell? ⟨g,44,none⟩=some (.int .i64 (d:Int))/\(putsW U bt 1 [.string (bs s)]).cell? ⟨g,3+d*4+1,none⟩=some (.int .i64 (z.place d).gen)/\Ar (putsW U bt 1 [.string (bs s)]) bt 1 1=true/\g<(putsW U bt 1 [.string (bs s)]).heap.size from
    ⟨(Az U g 44 bt _ _ hgt h.2.2.2).trans h.1,(Az U g _ bt _ _ hgt h.2.2.2).trans h.2.1,by rw[Bi];exact h.2.2.1,by rw[Bp];exact h.2.2.2⟩))
   go_region_held3 (fun U=>U.cell? ⟨g,44,none⟩=some (.int .i64 (d:Int))/\U.cell? ⟨g,3+d*4+1,none⟩=some (.int .i64 (z.place d).gen)/\Ar U bt 1 1=true/\g<U.heap.size) (first|with_reducible assumption|exact⟨vd,v1,tV,hgV⟩|exact HSx.out _ _ ⟨vd,v1,tV,hgV⟩) (first
    |(go_at_call 91;refine(KD _).mono ?_;rintro e wt ⟨⟨s,rfl⟩,hwt⟩;rw[hwt];clear hwt)
    |fail)
   go_wp2;go_meet
   case rel=>
    have hm:=(HM5.out.D2 1 (z.place d).handle s (x':={ x with fh:=(z.place d).handle }) (y':={ y with fh:=s }) rfl rfl).drew.drew;rw[<-HV.out]at hm;exact⟨_,_,HG.out.2.2.fh hhan,hm⟩
 case rest=>
 obtain⟨x',y',hx',hM'⟩:=hcut;apply_assumption;exact Ak6 F G w _ g bx bt n m z t l x' y' step now hM' hGk HG.out.1 HG.out.2.1 hn hx' hnw _ _ _ _ _ _ _ _ _ _ _ _ _ _ _ _ _ _ _ _ _ _ _ _ _ _ _ _ _ _ _ _ _ _ _ _ _ _ _ _ _ _ _ _ _ _ _ _ _ _ _ _ _ _ _ _ _ _ _ _ _ _ _ _ _ _ _ _ _ _ _ _ _ _ _ _ _ _ _ _ _ _ _ _ _ _ _ _ _ _ _ _ _ _ _ _ _ _ _ _ _ _ _ _ _ _ _ _ _ _ _ _ _ _ _ _ _ _ _ _ _ _ _ _ _ _ _ _ _ _ _ _ _ _ _ _ _ _ _ _ _ _ _ _ _ _ _ _ _ _ _ _ _ _ _ _ _ _ _ _ _ _ _ _ _
end
section
attribute [local go_sem ↓] Ajp Akw F1 D6 Ahx
attribute [local go_sem] Bv Bj Cc Bu Cd Cj Cm C2 Bc Az B7 C5 Bi C6 Bp Dt C8 C7 Dz D5
attribute [local go_sem low] Cr
attribute [local go_sem] F4 Call.len C1.len D0 P3
theorem Ex.same {F:Nat->Prop}{w w':World}{g n m n' m':Nat}{z:Co}{t:List C1}{l:List Bz}(hA:FAt F w g z t l)(hG:Iq n m z t l)(hn:n<=n')(hm:m<=m')(hb:Below w.heap.size w w'):Ex F g n' m' w w':=
 ⟨⟨F,⟨z,t,l,hA.below hb,⟨hG.ps,hG.parts,hG.now,Nat.le_trans hG.recs hn,Nat.le_trans hG.todo hm,hG.busy,hG.id,hG.uid,hG.gid⟩⟩,fun _ hk=>.inl hk⟩,Touch.Aq hb F⟩
theorem Abj (F:Nat->Prop)(w:World)(g n m:Nat)(hI:FIs F w g n m)(hn:n<=900000)(hm:m<=900000)(step now:Int)(hnw:0<=now/\now<=1099511627776) :
  Calls Tryz.prog 42 #[.pointer (some ⟨g,0,none⟩),.int .i64 step,.int .i64 now] w (Acz F g (n+1) m w):=by
 obtain⟨z,t,l,hA,hG⟩:=hI;have htn:z.tn=t.length:=by have:=hA.todo.lenOf;rwa [List.length_map]at this
 have c19:w.cell? ⟨g,19,none⟩=some (.slice z.ta t.length z.tc):=by rw[hA.blk.cell 19,<-htn];rfl
 cases t with
 |nil=>
  have HE:=Zh (Ex.same hA hG (Nat.le_succ n) (Nat.le_refl m) (Below.refl w.heap.size w));clear hA hG;go_enter Tryz.func42,Tryz.ntmps42
  go_wp2;go_ret;exact⟨⟨_,rfl⟩,HE.out⟩
 |cons p ps=>
  obtain⟨b,hb⟩:∃b,z.ta=some ⟨b,0,none⟩:=by
   rcases hA.todo.2.2 with ⟨h1,h2⟩|⟨g',cap,cur,h1,_⟩
   ·simp only[List.length_map,List.length_cons]at h2;omega
   ·injection h1 with h1 _ _
    exact⟨g',h1⟩
  obtain⟨b2,off2,h1,hbl,hcell⟩:=hA.todo.rows 0 p.vals rfl;rw[hb]at h1;injection h1 with h1;injection h1 with h2 h3 _;subst h2 h3;have rP:rowOf w b 0 27=some p.vals.toArray:=Mm (fun j u hu=>by have:=hcell j u hu;simpa using this) (C1.len p) (by decide);have hcap:ps.length+1<=z.tc:=by
   rcases hA.todo.2.2 with ⟨h1,h2⟩|⟨g',cap,cur,h1,h2,h3,h4,_⟩
   ·simp only[List.length_map,List.length_cons]at h2;omega
   ·injection h1 with h1 h5 h6
    simp only[List.length_map,List.length_cons]at h4;omega
  have tN:=hA.blk.Ar 20 27 (by rw[Co.len];omega);have hll:ps.length+1<=m:=hG.todo;rw[hb,List.length_cons]at c19;have hl0:(0:Int)<((ps.length:Nat):Int)+1:=by omega
  have hl1:(1:Int)<=((ps.length:Nat):Int)+1:=by omega
  have hne:((((ps.length+1:Nat):Int))==0)=false:=by simp only[beq_eq_false_iff_ne];omega
  obtain⟨W1,hW1⟩:∃V,V=putsW w g 20 p.vals:=⟨_,rfl⟩;have ht1:Touch (fun j=>j=g) w W1:=by rw[hW1];exact(Touch.refl (fun j=>j=g) w).D2 (.inl rfl)
  have hb1:=hA.blk.D2 20 p.vals;rw[show setAt z.vals 20 p.vals=({ z with now:=p }:Co).vals from by
   have h:=J8 p.vals z.now.vals ([.int .i64 z.id,.int .i64 z.self,.int .i64 z.server]++(z.p0.vals++(z.p1.vals++(z.p2.vals++(z.p3.vals++[.slice z.ta z.tn z.tc]))))) ([.bool z.busy]++(z.sent.vals++[.int .i64 z.due,.int .i64 z.uid,.int .i64 z.gid,.slice z.ra z.rn z.rc])) (by rw[C1.len,C1.len]);have e:∀q:C1,({ z with now:=q }:Co).vals=([.int .i64 z.id,.int .i64 z.self,.int .i64 z.server]++(z.p0.vals++(z.p1.vals++(z.p2.vals++(z.p3.vals++[.slice z.ta z.tn z.tc])))))++(q.vals++([.bool z.busy]++(z.sent.vals++[.int .i64 z.due,.int .i64 z.uid,.int .i64 z.gid,.slice z.ra z.rn z.rc]))):=fun q=>by
    unfold Co.vals;simp only[List.append_assoc]
   rw[e p];exact(congrArg (fun v=>setAt v 20 p.vals) (e z.now)).trans h,<-hW1]at hb1
  have hA1:=hA.own ht1 hb1 rfl rfl rfl rfl rfl rfl;have d19:W1.cell? ⟨g,19,none⟩=some (.slice (some ⟨b,0,none⟩) (ps.length+1) z.tc):=by rw[hb1.cell 19];show some (Value.slice z.ta z.tn z.tc)=_;rw[hb,htn];rfl
  have hgW:g<W1.heap.size:=hb1.lt;have HW1:=Zh hW1;have HA1:=Zh hA1;have HT1:=Zh (ht1.mono (F:=fun j=>j=g) (G:=F) fun j _ hj=>by subst hj;exact hA.fg);have HG:=Zh hG;clear hW1 hA ht1 hb1 hA1 hG hcell htn;go_enter Tryz.func42,Tryz.ntmps42
  go_upto_region 4 with fail;change Code.wp _ _ _ _ (putsW w g 20 p.vals);rw[<-HW1.out];have HAp:∀a:Addr,a=(if z.tc=1 then (⟨b,0,none⟩:Addr) else ⟨b,27,none⟩)->∀c0:Nat,_:=fun a ha c0=>HA1.out.Asn (a:=a) (by omega) hb ha c0
  have hcs:(z.tc=1/\∃c0:Nat,c0=0/\∀x y:Addr,(if z.tc=1 then x else y)=x)\/(¬z.tc=1/\∃c0:Nat,c0=z.tc - 1/\∀x y:Addr,(if z.tc=1 then x else y)=y):=by
   by_cases h:z.tc=1
   ·exact .inl ⟨h,_,rfl,fun x y=>if_pos h⟩
   ·exact .inr ⟨h,_,rfl,fun x y=>if_neg h⟩
  rcases hcs with ⟨hc1,c0,hc0,hif⟩|⟨hc1,c0,hc0,hif⟩
  all_goals
   have HAq:=Zh (HAp _ (hif ⟨b,0,none⟩ ⟨b,27,none⟩).symm c0);rw[hc0]at HAq;clear HAp hif hc0
   go_upto_region 5 with (first
    |(refine Fy (by rfl) (.tmp 27) (.tmp 32) #[98,98] (by rfl) _ _ (by rfl) (by rfl) HAq.out ?_;rintro v' w' ⟨A,n2,cc,rfl,q19,f19,hA2,ht2⟩)
    |fail)
   have hT2:=HT1.out.Ay ht2;have hgd:=HG.out;obtain⟨G,hGd⟩:∃G:Nat->Prop,G=fun k=>F k\/(W1.heap.size<=k/\k<w'.heap.size):=⟨_,rfl⟩
   rw[<-hGd]at hA2;have hGk:∀j,G j->F j\/w.heap.size<=j:=fun j hj=>by
    rw[hGd]at hj;exact hj.imp id fun h=>Nat.le_trans HT1.out.size h.1
   generalize w'.setCell ⟨g,19,none⟩ (.slice A n2 cc)=V at *;obtain⟨z2,hz2⟩:∃z2,z2=({ z with now:=p,ta:=A,tn:=n2,tc:=cc }:Co):=⟨_,rfl⟩;have hA2:FAt G V g z2 ps l:=by rw[hz2];exact hA2
   have hG2:Iq n m z2 ps l:=by
    rw[hz2];exact⟨hgd.ps,fun q hq=>hgd.parts q (List.mem_cons_of_mem _ hq),fun _=>hgd.parts p List.mem_cons_self,hgd.recs,by omega,hgd.busy,hgd.id,hgd.uid,hgd.gid⟩
   have hpn:z2.now=p:=by rw[hz2]
   have hpg:L0 p:=hgd.parts p List.mem_cons_self;have rc:rowOf V g 20 24=some p.c.vals.toArray:=by
    have h:=hA2.blk.row 20 24 (by rw[Co.len];omega);rw[Co.U2,hpn]at h;exact h
   have hx:OkX p.c:=⟨hpg.proc,hpg.may,hpg.call,hpg.set⟩;have bX:=Blk.new V 36 p.c.vals;have hB5:Below V.heap.size V (V.alloc (.cells p.c.vals.toArray 36)):=(Below.refl _ _).alloc (Nat.le_refl _) _;obtain⟨V5,hV5⟩:∃U,U=V.alloc (.cells p.c.vals.toArray 36):=⟨_,rfl⟩;rw[<-hV5]at bX hB5;have HV5:=Zh hV5;have hgV:g<V.heap.size:=hA2.blk.lt;have HM:=Zh (And.intro hA2 (And.intro hT2 (And.intro hG2 (And.intro hpn (And.intro hpg (And.intro hx (And.intro bX (And.intro hB5 hGk))))))));have rc5:rowOf V5 g 20 24=some p.c.vals.toArray:=(Fu hB5 hgV 20 24).trans rc;clear hV5 hA2 hT2 hG2 hpn hpg hx bX hB5 hGd hz2 hgd HAq q19 f19 ht2 rP tN d19 c19
   go_upto_region 6 with fail;change Code.wp _ _ _ _ (V.alloc (.cells p.c.vals.toArray 36));rw[<-HV5.out];clear rc
   go_cut [8] from 41 to 45 (fun v wx=>∃bt,v=.pointer (some ⟨bt,0,none⟩)/\Ul F G w g V.heap.size bt z2 ps l p.c p.c wx)
   case first=>
    go_wp2;go_meet
    case rel=>
     obtain⟨hA2,hT2,hG2,hpn,hpg,hx,bX,hB5,hGk⟩:=HM.out;have hB6:Below V5.heap.size V5 (V5.alloc (.cells p.c.vals.toArray 36)):=(Below.refl _ _).alloc (Nat.le_refl _) _;have hs2:=hT2.size;have hlx:=bX.lt;exact⟨V5.heap.size,rfl,⟨(hA2.below hB5).below hB6,(hT2.Ay (Touch.Aq hB5 F)).Ay (Touch.Aq hB6 F),bX.stays hB6,Blk.new V5 _ _,by omega,hs2,by omega⟩⟩
   case rest=>
   obtain⟨bt,rfl,hM⟩:=hcut;obtain⟨hA2,hT2,hG2,hpn,hpg,hx,bX,hB5,hGk⟩:=HM.out;apply_assumption;exact Anr F G w _ g V.heap.size bt n m z2 ps l p.c p.c step now hM hGk hG2 (by rw[hpn];exact hpg) hn hx hnw _ _ _ _ _ _ _ _ _ _ _ _ _ _ _ _ _ _ _ _ _ _ _ _ _ _ _ _ _ _ _ _ _ _ _ _ _ _ _ _ _ _ _ _ _ _ _ _ _ _ _ _ _ _ _ _ _ _ _ _ _ _ _ _ _ _ _ _ _ _ _ _ _ _ _ _ _ _ _ _ _ _ _ _ _ _ _ _ _ _ _ _ _ _ _ _ _ _ _ _ _ _ _ _ _ _ _ _ _ _ _ _ _ _ _ _ _ _ _ _ _ _ _ _ _ _ _ _ _ _ _ _ _ _ _ _ _ _ _ _ _ _ _ _ _ _ _ _ _ _ _ _ _ _ _ _ _ _ _ _ _ _ _ _ _
end
theorem P9 {i:Int}(h:Dr i=true):∃n:Nat,i=(n:Int)/\n<4:=by
 unfold Dr at h;simp only[Bool.and_eq_true,decide_eq_true_eq]at h;exact⟨i.toNat,by omega,by omega⟩
theorem Arc {a:Ask}(h:Hk a.call):Hk (Bq a).1:=by
 have z:=By;unfold Bq;split
 ·exact⟨z.1,z.2,z.3,z.4,z.5⟩
 ·split
  ·exact⟨h.1,z.2,z.3,z.4,z.5⟩
  ·split
   ·exact⟨h.1,z.2,z.3,z.4,z.5⟩
   ·split
    ·exact⟨z.1,z.2,z.3,z.4,z.5⟩
    ·split
     ·exact⟨h.1,h.2,h.3,h.4,h.5⟩
     ·exact z
theorem Aip.part {a:Ask}{step now:Int}{x:Call}(h:Aip a step now x)(hc:Hk a.call){d t p:Int}(hd:Dr d=true)(ht:Dr t=true)(hp:p<4):L0 ⟨x,d,t,p⟩:=by
 have hx:Hk x:=by rw[h.is];exact Arc hc
 have hz:=(Aok h.there hx.offset hx.cookie hx.verf hx.guard).1 h.fits;unfold Ev at hz;rw[if_neg (by rw[h.there];decide)]at hz;obtain⟨d',rfl,hd'⟩:=P9 hd;obtain⟨t',rfl,ht'⟩:=P9 ht;have h3:=h.there;unfold Ij at h3;simp only[Bool.and_eq_true,decide_eq_true_eq]at h3;split at hz
 ·next h2=>exact⟨h3,h2.1,hx,by show (0:Int)<=(d':Int)/\(d':Int)<4;omega,by show (0:Int)<=(t':Int)/\(t':Int)<4;omega,hp,hx.set⟩
 ·cases hz
theorem Ze {d:Int}(hd:Dr d=true):L0 ⟨{ Aw with proc:=1 },d,0,-1⟩:=by
 obtain⟨d',rfl,hd'⟩:=P9 hd;exact⟨by show (0:Int)<=1/\(1:Int)<=21;decide,by show E2 ({ Aw with proc:=1 }:Call) (Al 1)=true;decide,⟨By.1,By.2,By.3,By.4,By.5⟩,by show (0:Int)<=(d':Int)/\(d':Int)<4;omega,by show (0:Int)<=0/\(0:Int)<4;decide,by show (-1:Int)<4;decide,By.set⟩
theorem Iq.app {n m k:Nat}{z:Co}{t ps:List C1}{l:List Bz}(h:Iq n m z t l)(hk:ps.length<=k)(hp:∀p∈ps,L0 p)(A:Option Addr)(c d:Nat):Iq n (m+k) { z with ta:=A,tn:=c,tc:=d } (t++ps) l:=
 ⟨h.ps,fun p hq=>(List.mem_append.1 hq).elim (h.parts p) (hp p),h.now,h.recs,by rw[List.length_append];exact Nat.add_le_add h.todo hk,h.busy,h.id,h.uid,h.gid⟩
theorem Iq.more {n m n' m':Nat}{z:Co}{t:List C1}{l:List Bz}(h:Iq n m z t l)(hn:n<=n')(hm:m<=m'):Iq n' m' z t l:=
 ⟨h.ps,h.parts,h.now,Nat.le_trans h.recs hn,Nat.le_trans h.todo hm,h.busy,h.id,h.uid,h.gid⟩
theorem Ex.more {F:Nat->Prop}{g n m n' m':Nat}{w w':World}(h:Ex F g n m w w')(hn:n<=n')(hm:m<=m'):Ex F g n' m' w w':=by
 obtain⟨⟨G,⟨z,t,l,hA,hG⟩,hk⟩,ht⟩:=h;exact⟨⟨G,⟨z,t,l,hA,hG.more hn hm⟩,hk⟩,ht⟩
theorem Ex.Abv {F:Nat->Prop}{g n m n' m':Nat}{w W w':World}(h:Ex F g n m w W){G:Nat->Prop}(hG:Ex G g n' m' W w')(hk:∀k,G k->F k\/w.heap.size<=k):Ex F g n' m' w w':=by
 obtain⟨-,ht⟩:=h;obtain⟨⟨H,hH,hk2⟩,ht2⟩:=hG;refine⟨⟨H,hH,fun k hk3=>?_⟩,ht.trans ht2 fun k hk4 hg=>?_⟩
 ·rcases hk2 k hk3 with h|h
  ·exact hk k h
  ·exact .inr (Nat.le_trans ht.size h)
 ·rcases hk k hg with h|h
  ·exact h
  ·omega
theorem FAt.who {F:Nat->Prop}{w:World}{g:Nat}{z:Co}{t:List C1}{l:List Bz}(h:FAt F w g z t l)(u k:Int):FAt F ((w.setCell ⟨g,52,none⟩ (.int .i64 u)).setCell ⟨g,53,none⟩ (.int .i64 k)) g { z with uid:=u,gid:=k } t l/\Touch (fun k=>k=g) w ((w.setCell ⟨g,52,none⟩ (.int .i64 u)).setCell ⟨g,53,none⟩ (.int .i64 k)):=by
 have ht3:=((Touch.refl (fun k=>k=g) w).setCell (p:=⟨g,52,none⟩) (.inl rfl) (.int .i64 u)).setCell (p:=⟨g,53,none⟩) (.inl rfl) (.int .i64 k);have hb3:=(h.blk.Be 52 (.int .i64 u)).Be 53 (.int .i64 k);exact⟨h.own ht3 (z':={ z with uid:=u,gid:=k }) hb3 rfl rfl rfl rfl rfl rfl,ht3⟩
theorem Aem (z:Co){n:Nat}(hn:n<4)(b:List UInt8):z.vals.set (3+n*4+3) (.string (bs b))=(z.Cq n { z.place n with bytes:=b }).vals:=by
 rcases (show n=0\/n=1\/n=2\/n=3 by omega) with rfl|rfl|rfl|rfl
 all_goals exact rfl
theorem FIs.place {F:Nat->Prop}{w w':World}{g n m:Nat}{z:Co}{t:List C1}{l:List Bz}(h:FAt F w g z t l)(hG:Iq n m z t l){i:Nat}(hi:i<4){p:Gc}(hp:Jy p)(ht:Touch (fun k=>k=g) w w')(hB:Blk w' g 102 (z.Cq i p).vals):Ex F g n m w w':=by
 obtain⟨k1,k2,k3,k4,k5,k6,k7,k8,k9,k10,k11⟩:=Qj z hi p;refine⟨⟨F,⟨_,t,l,h.own ht hB k1 k2 k3 k4 k5 k6,⟨Rq hG.ps i hp,hG.parts,?_,hG.recs,hG.todo,?_,?_,?_,?_⟩⟩,fun k hk=>.inl hk⟩,ht.mono fun k _ hk=>by subst hk;exact h.fg⟩
 ·rw[k7,k8];exact hG.now
 ·rw[k8];exact hG.busy
 ·rw[k9];exact hG.id
 ·rw[k10];exact hG.uid
 ·rw[k11];exact hG.gid
def Asl (F:Nat->Prop)(g n m:Nat)(w:World)(e:Ending)(w':World):Prop:=(∃v k,e=.returned (.tuple #[v,.int .i64 k]))/\Ex F g n m w w'
theorem Ex.from_ {F:Nat->Prop}{g n m:Nat}{w W w':World}(hT:Touch F w W)(h:Ex F g n m W w'):Ex F g n m w w':=by
 obtain⟨⟨G,hG,hk⟩,ht⟩:=h;exact⟨⟨G,hG,fun k h=>(hk k h).imp id (Nat.le_trans hT.size)⟩,hT.Ay ht⟩
abbrev Jj (bA bx:Nat)(a:Ask)(x:Call)(i:Nat)(U:World):Prop:=U.cell? ⟨bA,1,none⟩=some (.int .i64 (i:Int))/\U.cell? ⟨bA,2,none⟩=some (.int .i64 a.dir)/\U.cell? ⟨bA,3,none⟩=some (.int .i64 a.to_)/\rowOf U bx 0 24=some x.vals.toArray
theorem Jj.of {bA bx i:Nat}{a:Ask}{x:Call}{U:World}(hi:a.var=(i:Int))(h1:Blk U bA 38 a.vals)(h2:Blk U bx 36 x.vals):Jj bA bx a x i U:=
 ⟨by rw[h1.cell 1,<-hi];rfl,h1.cell 2,h1.cell 3,h2.row 0 24 (by rw[Call.len];decide)⟩
theorem Ug {F H:Nat->Prop}{W V:World}{g n m bA bx i:Nat}{z:Co}{t:List C1}{l:List Bz}{a:Ask}{x:Call}(hA:FAt H V g z t l)(hG:Iq n m z t l)(hk:∀k,H k->F k\/W.heap.size<=k)(hT:Touch F W V)(hi:a.var=(i:Int))(bA1:Blk V bA 38 a.vals)(bX1:Blk V bx 36 x.vals)(ps:List C1)(hps:∀p∈ps,L0 p)(hl:ps.length<=3)(hm:m<=899999){k:Nat}(hkp:k=ps.length){cs:Array Value}(hcs:cs=(ps.map C1.vals).flatten.toArray)(c0:Nat) :
  ∃v' w',(Builtin.append_ #[98,98] 98 #[.slice z.ta z.tn z.tc,.slice (some ⟨V.heap.size,0,none⟩) k c0]).run Tryz.prog ((V.alloc (.cells cs 100)).drew)=.ok v' w' /\
   (∃A n' cc,v'=.slice A n' cc/\w'.cell? ⟨g,19,none⟩=some (.slice z.ta z.tn z.tc)/\w'.frozen? ⟨g,19,none⟩=false/\Ex F g n (m+3) W (w'.setCell ⟨g,19,none⟩ (.slice A n' cc))/\Jj bA bx a x i w'/\Jj bA bx a x i (w'.setCell ⟨g,19,none⟩ (.slice A n' cc))):=by
 have hd:FAt H V.drew g z t l:=hA.Ik (G:=fun _=>False) (w':=V.drew) (Touch.refl _ _).drew (fun _ _ h=>h);obtain⟨v',w',h1,A,n',cc,h2,h3,h4,h5,h6,h7⟩:=hd.Arq ps (k:=k) hkp (cs:=cs) hcs (by have:=hG.todo;omega) c0;obtain⟨e1,e2⟩:=h7 bA _ _ bA1.drew (by decide) (by decide);obtain⟨e3,e4⟩:=h7 bx _ _ bX1.drew (by decide) (by decide);refine⟨v',w',h1,A,n',cc,h2,h3,h4,?_,Jj.of hi e1 e3,Jj.of hi e2 e4⟩
 have p1:Ex F g n m W V:=⟨⟨H,⟨z,t,l,hA,hG⟩,hk⟩,hT⟩;have hVd:Touch H V V.drew:=(Touch.refl _ _).drew;have p2:Ex H g n (m+3) V (w'.setCell ⟨g,19,none⟩ (.slice A n' cc)):=⟨⟨_,⟨_,_,l,h5,hG.app hl hps A n' cc⟩,fun k hk=>hk.imp id fun h=>h.1⟩,hVd.Ay h6⟩;exact p1.Abv p2 hk
theorem Ajz (c0 c1 c2 c3 c4 c5 c6 c7 c8 c9 c10 c11 c12 c13 c14 c15 c16 c17 c18 c19 c20 c21 c22 c23:Value)(d p:Int)(w:World):(Instr.build 100 #[(0,.agg #[c0,c1,c2,c3,c4,c5,c6,c7,c8,c9,c10,c11,c12,c13,c14,c15,c16,c17,c18,c19,c20,c21,c22,c23]),(1,.int .i64 d),(3,.int .i64 p)]).run Tryz.prog w=.ok (.agg ([c0,c1,c2,c3,c4,c5,c6,c7,c8,c9,c10,c11,c12,c13,c14,c15,c16,c17,c18,c19,c20,c21,c22,c23]++[Value.int .i64 d,Value.int .i64 0,Value.int .i64 p]).toArray) w:=by kernel_rfl
theorem Ajy (c0 c1 c2 c3 c4 c5 c6 c7 c8 c9 c10 c11 c12 c13 c14 c15 c16 c17 c18 c19 c20 c21 c22 c23:Value)(d t p:Int)(w:World):(Instr.build 100 #[(0,.agg #[c0,c1,c2,c3,c4,c5,c6,c7,c8,c9,c10,c11,c12,c13,c14,c15,c16,c17,c18,c19,c20,c21,c22,c23]),(1,.int .i64 d),(2,.int .i64 t),(3,.int .i64 p)]).run Tryz.prog w=.ok (.agg ([c0,c1,c2,c3,c4,c5,c6,c7,c8,c9,c10,c11,c12,c13,c14,c15,c16,c17,c18,c19,c20,c21,c22,c23]++[Value.int .i64 d,Value.int .i64 t,Value.int .i64 p]).toArray) w:=by kernel_rfl
theorem Aeu {ρ:Operand->Value}{w:World}{dst:Option Tmp}{ty:TypeId}{pos:String}{after:Array Edge}{g:Option (Nat × Bool)}{a b c:Operand}(h1:Ly 24 (ρ a)=true)(h2:J3 (ρ b)=true)(h3:J3 (ρ c)=true) :
  (execOp ρ ⟨dst,.build 100 #[(0,a),(1,b),(3,c)],ty,pos,after,g⟩).run Tryz.prog w=.ok (.value (.agg (cellsOf (ρ a)++[ρ b,Value.int .i64 0,ρ c]).toArray)) w:=by
 unfold execOp;simp only[List.map_toArray,List.map_cons,List.map_nil];generalize ρ a=A at *;generalize ρ b=B at *;generalize ρ c=C at *;unfold Ly at h1;unfold J3 at h2 h3;split at h1
 ·split at h2
  ·split at h3
   ·rename_i _ cs _ n _ k
    simp only[decide_eq_true_eq]at h1;obtain⟨l,rfl⟩:∃l:List Value,cs=l.toArray:=⟨cs.toList,by simp⟩;obtain⟨c0,c1,c2,c3,c4,c5,c6,c7,c8,c9,c10,c11,c12,c13,c14,c15,c16,c17,c18,c19,c20,c21,c22,c23,rfl⟩:=Ahb l h1;rw[Sem.run_bind,Ajz];rfl
   ·cases h3
  ·cases h2
 ·cases h1
theorem Alb {a0:Act}{w:World}{dst:Option Tmp}{ty:TypeId}{pos:String}{after:Array Edge}{g:Option (Nat × Bool)}{a b:Operand}{k:Int}(h1:Ly 24 (a0.eval a)=true)(h2:J3 (a0.eval b)=true) :
  (execOp a0.eval ⟨dst,.build 100 #[(0,a),(1,b),(3,.const (.int .i64 k))],ty,pos,after,g⟩).run Tryz.prog w=.ok (.value (.agg (cellsOf (a0.eval a)++[a0.eval b,Value.int .i64 0,Value.int .i64 k]).toArray)) w:=
 Aeu h1 h2 rfl
theorem An1 {ρ:Operand->Value}{w:World}{dst:Option Tmp}{ty:TypeId}{pos:String}{after:Array Edge}{g:Option (Nat × Bool)}{a b c d:Operand}(h1:Ly 24 (ρ a)=true)(h2:J3 (ρ b)=true)(h3:J3 (ρ c)=true)(h4:J3 (ρ d)=true) :
  (execOp ρ ⟨dst,.build 100 #[(0,a),(1,b),(2,c),(3,d)],ty,pos,after,g⟩).run Tryz.prog w=.ok (.value (.agg (cellsOf (ρ a)++[ρ b,ρ c,ρ d]).toArray)) w:=by
 unfold execOp;simp only[List.map_toArray,List.map_cons,List.map_nil];generalize ρ a=A at *;generalize ρ b=B at *;generalize ρ c=C at *;generalize ρ d=D at *;unfold Ly at h1;unfold J3 at h2 h3 h4;split at h1
 ·split at h2
  ·split at h3
   ·split at h4
    ·rename_i _ cs _ n _ k _ j
     simp only[decide_eq_true_eq]at h1;obtain⟨l,rfl⟩:∃l:List Value,cs=l.toArray:=⟨cs.toList,by simp⟩;obtain⟨c0,c1,c2,c3,c4,c5,c6,c7,c8,c9,c10,c11,c12,c13,c14,c15,c16,c17,c18,c19,c20,c21,c22,c23,rfl⟩:=Ahb l h1;rw[Sem.run_bind,Ajy];rfl
    ·cases h4
   ·cases h3
  ·cases h2
 ·cases h1
theorem Af3 (x:Call):Ly 24 (.agg x.vals.toArray)=true:=rfl
theorem Xg (x:Call)(a b c:Int):Da 27 (.agg (x.vals++[Value.int .i64 a,Value.int .i64 b,Value.int .i64 c]).toArray)=true:=P3 ⟨x,a,b,c⟩
section
attribute [local go_sem ↓] F1 D6 L6
attribute [local go_sem] Bv Bj Cc Bu Cd Cj Cm C2 Bc Az B7 C5 Bi C6 Bp Dt C8 C7 Dz D5 Cy
attribute [local go_sem low] Cr
attribute [local go_sem] F4 Call.len Ask.len D0 Nr
attribute [local go_sem] Kz
abbrev Xb (w:World)(x:Call)(V:World):Prop:=rowOf V (w.heap.size+2) 0 24=some x.vals.toArray/\Ar V (w.heap.size+1) 0 24=true/\w.heap.size+2<V.heap.size
theorem Ant (a:Ask)(step now:Int)(w wc:World)(b:Bool)(x:Call)(bX:Blk wc (w.heap.size+2) 36 x.vals)(bA4:Blk wc w.heap.size 38 a.vals)(bR4:Blk wc (w.heap.size+1) 36 Aw.vals)(hBc:Below w.heap.size w wc)(hx:x=(Bq a).1)(hkk:(Bq a).2.2=true)(hb:b=true->Dr a.var=true/\(a.kind=1\/a.kind=5->Dr a.dir=true)/\(a.kind=5->Dr a.to_=true))(y0 y4 y5 y7 ja jb jc jd je jf jg jh ji jj jk jl jm jn jo jp jq jr js jt ju jv jw jx jy jz j0 j1 j2 j3 j4 j5 j6 j7 j8 j9 ka kb kc kd ke kf kg kh ki kj kk kl km kn ko kp kq kr ks kt ku kv kw kx ky kz k0 k1 k2 k3 k4 k5 k6 k7 k8 k9 la lb lc ld lf lg lh li lj lk ll lm ln lo lp:Value) :
  Code.wp Tryz.prog (Ja 18 (Tryz.f39.body.getD .ret)) (bodyPost Tryz.prog Tryz.f39 (Asj a step now w)) ⟨#[y0,.int .i64 step,.int .i64 now,.pointer (some ⟨w.heap.size,0,none⟩),y4,y5,.pointer (some ⟨w.heap.size+1,0,none⟩),y7,.pointer (some ⟨w.heap.size+2,0,none⟩),.bool b,ja,jb,jc,jd,je,jf,jg,jh,ji,jj,jk,jl,jm,jn,jo,jp,jq,jr,js,jt,ju,jv,jw,jx,jy,jz,j0,j1,j2,j3,j4,j5,j6,j7,j8,j9,ka,kb,kc,kd,ke,kf,kg,kh,ki,kj,kk,kl,km,kn,ko,kp,kq,kr,ks,kt,ku,kv,kw,kx,ky,kz,k0,k1,k2,k3,k4,k5,k6,k7,k8,k9,la,lb,lc,ld,lf,lg,lh,li,lj,lk,ll,lm,ln,lo,lp],[]⟩ wc:=by
 have a4:wc.cell? ⟨w.heap.size,4,none⟩=some (.int .i64 a.uid):=bA4.cell 4;have a5:wc.cell? ⟨w.heap.size,5,none⟩=some (.int .i64 a.gid):=bA4.cell 5;have rX:rowOf wc (w.heap.size+2) 0 24=some x.vals.toArray:=bX.row 0 24 (by rw[Call.len];decide);have tR4:=bR4.Ar 0 24 (Nat.le_refl _);have HBc:=Zh hBc;have HR4:=Zh bR4;have hl4:w.heap.size+2<wc.heap.size:=bX.lt;have hl5:w.heap.size+1<wc.heap.size:=by omega
 have HF:=Zh (And.intro hx (And.intro hkk hb));clear bA4 bR4 bX hBc hx hkk hb;change Code.wp _ (Code.seq (Code.region 18 _ _) _) _ _ _;dsimp only
 go_upto_region 18 with fail
 go_cut [10] from 62 to 79 (fun v wx=>v=.bool (Ac4 a)/\wx=wc)
 case first=>
  go_wp2
  all_goals go_meet
  all_goals
   refine⟨congrArg Value.bool ?_,rfl⟩
   unfold Ac4;clear HBc HR4 HF
   grind
 case rest=>
 obtain⟨rfl,hw⟩:=hcut;have hw2:=hw.symm;clear hw;subst hw2;clear a4 a5;have hS0:Xb w x wc.drew:=⟨rX,tR4,hl4⟩;have HSc:=Zh (fun (V V':World) (h:Xb w x V) (hb:Below V.heap.size V V')=>(show Xb w x V' from ⟨(Fu hb h.2.2 0 24).trans h.1,Ej h.2.1 hb,Nat.lt_of_lt_of_le h.2.2 hb.size⟩));have HSp:=Zh (fun (V:World) (h:Xb w x V)=>(show Xb w x (putsW V (w.heap.size+1) 0 x.vals) from ⟨by rw[Bc _ _ _ _ _ _ _ (by omega)];exact h.1,by rw[Bi];exact h.2.1,by rw[Bp];exact h.2.2⟩));have HEnd:=Zh (fun (V:World) (q1:Blk V (w.heap.size+1) 36 x.vals) (hB:Below w.heap.size w V) (r:Bool) (hr:r=true->Aip a step now x) (act:Act) (h1:act.tmps.getD 6 undef=.pointer (some ⟨w.heap.size+1,0,none⟩)) (h2:act.tmps.getD 7 undef=.bool r) (h3:act.defers=[])=>(show bodyPost Tryz.prog Tryz.f39 (Asj a step now w) .ret act V from
  Ap (w.heap.size+1) 0 x.vals (.bool r) Tryz.results39 Tryz.underlying36 rfl (by kernel_rfl) h1 h2 q1.range h3 ⟨x,r,rfl,hr,hB⟩))
 have HPut:=Zh (fun (V:World) (h:Below wc.heap.size wc V)=>(show Blk (putsW V (w.heap.size+1) 0 x.vals) (w.heap.size+1) 36 x.vals/\Below w.heap.size w (putsW V (w.heap.size+1) 0 x.vals) from ⟨by
  have q1:=(HR4.out.stays h).D2 0 x.vals;rw[Nk]at q1;exact q1,by rw[B9];exact Below.setCells (by omega) _ _ _ (Ad HBc.out h)⟩))
 have KTm:=fun V=>Y5 now V
 have KF:=Zh (fun V=>Ahk x V);clear rX tR4
 go_upto_region 19 with fail;cases b
 case false=>
  go_region;go_wp2;exact HEnd.out _ (HPut.out wc (Below.refl _ _)).1.drew (HPut.out wc (Below.refl _ _)).2.drew false (fun h=>by cases h) _ rfl rfl rfl
 case true=>
 cases hwho:Ac4 a
 case false=>
  go_region;go_wp2;exact HEnd.out _ (HPut.out wc (Below.refl _ _)).1.drew (HPut.out wc (Below.refl _ _)).2.drew false (fun h=>by cases h) _ rfl rfl rfl
 case true=>
 by_cases hst:1<=step
 case neg=>
  have hst2:decide (1<=step)=false:=decide_eq_false hst;go_region;go_wp2;exact HEnd.out _ (HPut.out wc (Below.refl _ _)).1.drew (HPut.out wc (Below.refl _ _)).2.drew false (fun h=>by cases h) _ rfl rfl rfl
 case pos=>
 cases htm:Fo now
 case false=>
  rw[htm]at KTm
  rw (occs:=.pos [2]) [Hs 36 (.tmp 8)]
  go_region_held3 (fun V=>Xb w x V) (first|with_reducible assumption|exact HSp.out _ hS0|exact hS0) (first
   |(go_at_call 46;refine(KTm _).mono ?_;rintro e wt ⟨rfl,hwt⟩;rw[hwt];clear hwt)
   |fail)
  go_wp2;exact HEnd.out _ (HPut.out wc (Below.refl _ _)).1.drew (HPut.out wc (Below.refl _ _)).2.drew false (fun h=>by cases h) _ rfl rfl rfl
 case true=>
  rw[htm]at KTm;go_region_held3 (fun V=>Xb w x V) (first|with_reducible assumption|exact HSp.out _ hS0|exact HSp.out _ hSf) (first
   |(go_at_call 46;refine(KTm _).mono ?_;rintro e wt ⟨rfl,hwt⟩;rw[hwt];clear hwt)
   |(go_at_call 89;refine(KF.out _).mono ?_;rintro e wf ⟨rfl,hbf⟩;have hSf:Xb w x wf:=(by first|exact HSc.out _ wf hS0 hbf|exact HSc.out _ wf (HSp.out _ hS0) hbf))
   |fail)
  go_wp2;exact HEnd.out _ (HPut.out wf (Ad (Below.refl _ _).drew hbf)).1 (HPut.out wf (Ad (Below.refl _ _).drew hbf)).2 _ (fun h=>by
   have hfl:=HF.out;have hfit:Ij x.proc=true/\cIs x=true:=by simpa using h
   exact⟨hfl.1,hfl.2.1,(hfl.2.2 (by trivial)).1,(hfl.2.2 (by trivial)).2.1,(hfl.2.2 (by trivial)).2.2,hwho,hst,htm,hfit.1,hfit.2⟩) _ rfl rfl rfl
end
section
attribute [local go_sem ↓] F1 D6 L6
attribute [local go_sem] Bv Bj Cc Bu Cd Cj Cm C2 Bc Az B7 C5 Bi C6 Bp Dt C8 C7 Dz D5 Cy
attribute [local go_sem low] Cr
attribute [local go_sem] F4 Call.len Ask.len D0 Nr
theorem Anu (a:Ask)(step now:Int)(w:World):Calls Tryz.prog 39 #[.agg a.vals.toArray,.int .i64 step,.int .i64 now] w (Asj a step now w):=by
 obtain⟨bA,bR,hB,hs⟩:=A7 w a.vals Aw.vals 38 36;obtain⟨w1,hw1⟩:∃V,V=(w.alloc (.cells a.vals.toArray 38)).alloc (.cells Aw.vals.toArray 36):=⟨_,rfl⟩;rw[<-hw1]at bA bR hB hs;have HW1:=Zh hw1;have bX:=Blk.new w1 36 a.call.vals;have hb2:Below w1.heap.size w1 (w1.alloc (.cells a.call.vals.toArray 36)):=(Below.refl _ _).alloc (Nat.le_refl _) _;obtain⟨w2,hw2⟩:∃V,V=w1.alloc (.cells a.call.vals.toArray 36):=⟨_,rfl⟩;rw[<-hw2]at bX hb2;have HW2:=Zh hw2;have hs1:w1.heap.size=w.heap.size+2:=hs;rw[hs1]at bX;have rA:rowOf w1 w.heap.size 6 24=some a.call.vals.toArray:=bA.row 6 24 (by rw[Ask.len];decide);have HA2:=Zh (bA.stays hb2);have HR2:=Zh (bR.stays hb2);have HX2:=Zh bX;have HB2:=Zh (Ad hB hb2);have f2:=bX.frozen;have x1:w2.cell? ⟨w.heap.size+2,1,none⟩=some (.string (bs a.call.fh)):=bX.cell 1;have x3:w2.cell? ⟨w.heap.size+2,3,none⟩=some (.string (bs a.call.fh2)):=bX.cell 3;clear hw1 hw2 bA bR hB hs bX hb2;go_enter Tryz.func39,Tryz.ntmps39
 go_upto_region 1 with fail;change Code.wp _ _ _ _ ((w.alloc (.cells a.vals.toArray 38)).alloc (.cells Aw.vals.toArray 36));rw[<-HW1.out]
 go_upto_region 2 with fail;change Code.wp _ _ _ _ (w1.alloc (.cells a.call.vals.toArray 36));rw[<-HW2.out]
 go_upto_region 4 with fail;obtain⟨w3,hw3⟩:∃V,V=(w2.setCell ⟨w.heap.size+2,1,none⟩ (.string (bs []))).setCell ⟨w.heap.size+2,3,none⟩ (.string (bs [])):=⟨_,rfl⟩;change Code.wp _ _ _ _ ((w2.setCell ⟨w.heap.size+2,1,none⟩ (.string (bs []))).setCell ⟨w.heap.size+2,3,none⟩ (.string (bs [])));rw[<-hw3];obtain⟨y,hy⟩:∃y,y=({ a.call with fh:=[],fh2:=[] }:Call):=⟨_,rfl⟩;have bY:=(HX2.out.Be 1 (.string (bs []))).Be 3 (.string (bs []));rw[Aif,<-hw3,<-hy]at bY;have bA3:=(HA2.out.far (p:=⟨w.heap.size+2,1,none⟩) (show w.heap.size≠w.heap.size+2 by omega) (.string (bs []))).far (p:=⟨w.heap.size+2,3,none⟩) (show w.heap.size≠w.heap.size+2 by omega) (.string (bs []));rw[<-hw3]at bA3;have bR3:=(HR2.out.far (p:=⟨w.heap.size+2,1,none⟩) (show w.heap.size+1≠w.heap.size+2 by omega) (.string (bs []))).far (p:=⟨w.heap.size+2,3,none⟩) (show w.heap.size+1≠w.heap.size+2 by omega) (.string (bs []));rw[<-hw3]at bR3;have hB3:Below w.heap.size w w3:=by rw[hw3];exact Below.setCells (by omega) [_] _ _ (Below.setCells (by omega) [_] _ _ HB2.out)
 have HA3:=Zh bA3;have HR3:=Zh bR3;have HB3:=Zh hB3;have HY:=Zh hy;have HY3:=Zh bY;have a0:w3.cell? ⟨w.heap.size,0,none⟩=some (.int .i64 a.kind):=bA3.cell 0;have a1:w3.cell? ⟨w.heap.size,1,none⟩=some (.int .i64 a.var):=bA3.cell 1;have a2:w3.cell? ⟨w.heap.size,2,none⟩=some (.int .i64 a.dir):=bA3.cell 2;have a3:w3.cell? ⟨w.heap.size,3,none⟩=some (.int .i64 a.to_):=bA3.cell 3;have y2:w3.cell? ⟨w.heap.size+2,2,none⟩=some (.string (bs y.name)):=bY.cell 2;have y5:w3.cell? ⟨w.heap.size+2,5,none⟩=some (.int .i64 y.offset):=bY.cell 5;have y6:w3.cell? ⟨w.heap.size+2,6,none⟩=some (.int .i64 y.count):=bY.cell 6;have y8:w3.cell? ⟨w.heap.size+2,8,none⟩=some (.string (bs y.data)):=bY.cell 8;have rY:rowOf w3 (w.heap.size+2) 0 24=some y.vals.toArray:=bY.row 0 24 (by rw[Call.len];decide);have tY:=bY.Ar 0 24 (Nat.le_refl _);have tR:=bR3.Ar 0 24 (Nat.le_refl _);have KP:=fun i=>Tl i w3
 have h02:w.heap.size≠w.heap.size+2:=by omega
 have h12:w.heap.size+1≠w.heap.size+2:=by omega
 have hl2:w.heap.size+2<w3.heap.size:=bY.lt;clear hw3 hy bA3 bR3 bY hB3 HA2 HR2 HX2 HB2 x1 x3 f2 HW1 HW2 rA;by_cases hk:a.kind=1\/a.kind=2\/a.kind=3\/a.kind=4\/a.kind=5
 case neg=>
  have k1:¬a.kind=1:=fun h=>hk (.inl h)
  have k2:¬a.kind=2:=fun h=>hk (.inr (.inl h))
  have k3:¬a.kind=3:=fun h=>hk (.inr (.inr (.inl h)))
  have k4:¬a.kind=4:=fun h=>hk (.inr (.inr (.inr (.inl h))))
  have k5:¬a.kind=5:=fun h=>hk (.inr (.inr (.inr (.inr h))))
  go_wp2_with (first
   |(go_at_call 88;refine(KP _).mono ?_;rintro e wt ⟨rfl,hwt⟩;rw[hwt];clear hwt)
   |fail)
  have q1:=HR3.out.D2 0 y.vals;rw[Nk]at q1;exact Ap (w.heap.size+1) 0 y.vals (.bool false) Tryz.results39 Tryz.underlying36 rfl (by kernel_rfl) rfl rfl q1.range rfl ⟨y,false,rfl,fun h=>(by cases h),by rw[B9];exact Below.setCells (by omega) _ _ _ HB3.out⟩
 case pos=>
 go_upto_region 5 with (first
  |(go_at_call 88;refine(KP _).mono ?_;rintro e wt ⟨rfl,hwt⟩;rw[hwt];clear hwt)
  |fail)
 go_cut [19] from 18 to 18 (fun v wx=>∃κ,v=.int .i64 κ/\κ=a.kind/\wx=w3)
 case first=>
  go_wp2;go_meet
  case rel=>exact⟨_,rfl,rfl,rfl⟩
 case rest=>
 obtain⟨κ,rfl,hκ,hw⟩:=hcut;rw[<-hκ]at hk;have HK:=Zh hκ;clear hκ a0;have hw2:=hw.symm;clear hw;subst hw2;apply_assumption
 go_cut [9] from 21 to 61 (fun v wx=>∃(b:Bool) (x:Call),v=.bool b/\Blk wx (w.heap.size+2) 36 x.vals/\Touch (fun k=>k=w.heap.size+2) w3 wx/\x=(Bq a).1/\(Bq a).2.2=true/\(b=true->Dr a.var=true/\(a.kind=1\/a.kind=5->Dr a.dir=true)/\(a.kind=5->Dr a.to_=true)))
 case first=>
  rcases hk with rfl|rfl|rfl|rfl|rfl
  case inr.inl=>
   have HE:=Zh (show ({ Aw with proc:=6,offset:=y.offset,count:=y.count }:Call)=(Bq a).1/\(Bq a).2.2=true from by have hk:=HK.out.symm;(try rw[HY.out]);unfold Bq;simp[hk]);have q1:=HY3.out.D2 0 (({ Aw with proc:=6,offset:=y.offset,count:=y.count }:Call)).vals;rw[Nk]at q1;have hT:Touch (fun k=>k=w.heap.size+2) w3 (putsW w3 (w.heap.size+2) 0 (({ Aw with proc:=6,offset:=y.offset,count:=y.count }:Call)).vals):=(Touch.refl _ _).D2 (.inl rfl);have HQ:=Zh (And.intro q1 hT);have hk:=Zh HK.out.symm;clear q1 hT;go_wp2;go_meet
   case rel=>exact⟨_,({ Aw with proc:=6,offset:=y.offset,count:=y.count }:Call),rfl,HQ.out.1,HQ.out.2,HE.out.1,HE.out.2,fun h=>⟨h,fun h2=>by have:=hk.out;omega,fun h2=>by have:=hk.out;omega⟩⟩
  case inr.inr.inl=>
   have HE:=Zh (show ({ Aw with proc:=7,offset:=y.offset,data:=y.data,how:=2 }:Call)=(Bq a).1/\(Bq a).2.2=true from by have hk:=HK.out.symm;(try rw[HY.out]);unfold Bq;simp[hk]);have q1:=HY3.out.D2 0 (({ Aw with proc:=7,offset:=y.offset,data:=y.data,how:=2 }:Call)).vals;rw[Nk]at q1;have hT:Touch (fun k=>k=w.heap.size+2) w3 (putsW w3 (w.heap.size+2) 0 (({ Aw with proc:=7,offset:=y.offset,data:=y.data,how:=2 }:Call)).vals):=(Touch.refl _ _).D2 (.inl rfl);have HQ:=Zh (And.intro q1 hT);have hk:=Zh HK.out.symm;clear q1 hT;go_wp2;go_meet
   case rel=>exact⟨_,({ Aw with proc:=7,offset:=y.offset,data:=y.data,how:=2 }:Call),rfl,HQ.out.1,HQ.out.2,HE.out.1,HE.out.2,fun h=>⟨h,fun h2=>by have:=hk.out;omega,fun h2=>by have:=hk.out;omega⟩⟩
  case inr.inr.inr.inl=>
   have HE:=Zh (show ({ Aw with proc:=21 }:Call)=(Bq a).1/\(Bq a).2.2=true from by have hk:=HK.out.symm;(try rw[HY.out]);unfold Bq;simp[hk]);have q1:=HY3.out.D2 0 (({ Aw with proc:=21 }:Call)).vals;rw[Nk]at q1;have hT:Touch (fun k=>k=w.heap.size+2) w3 (putsW w3 (w.heap.size+2) 0 (({ Aw with proc:=21 }:Call)).vals):=(Touch.refl _ _).D2 (.inl rfl);have HQ:=Zh (And.intro q1 hT);have hk:=Zh HK.out.symm;clear q1 hT;go_wp2;go_meet
   case rel=>exact⟨_,({ Aw with proc:=21 }:Call),rfl,HQ.out.1,HQ.out.2,HE.out.1,HE.out.2,fun h=>⟨h,fun h2=>by have:=hk.out;omega,fun h2=>by have:=hk.out;omega⟩⟩
  case inl=>
   have HE:=Zh (show ({ Aw with proc:=3,name:=y.name }:Call)=(Bq a).1/\(Bq a).2.2=true from by have hk:=HK.out.symm;(try rw[HY.out]);unfold Bq;simp[hk]);have q1:=HY3.out.D2 0 (({ Aw with proc:=3,name:=y.name }:Call)).vals;rw[Nk]at q1;have hT:Touch (fun k=>k=w.heap.size+2) w3 (putsW w3 (w.heap.size+2) 0 (({ Aw with proc:=3,name:=y.name }:Call)).vals):=(Touch.refl _ _).D2 (.inl rfl);have HQ:=Zh (And.intro q1 hT);have hk:=Zh HK.out.symm;clear q1 hT;have KP2:=fun i V=>Tl i V
   have hl0:w.heap.size<w3.heap.size:=by omega
   generalize hv:Dr a.var=pv at *;generalize hd:Dr a.dir=pd at *;cases pv
   all_goals
    go_wp2_with (first
    |(go_at_call 88;refine(KP2 _ _).mono ?_;rintro e wt ⟨rfl,hwt⟩;rw[hwt];clear hwt)
    |fail)
    go_meet
   case rel=>exact⟨_,({ Aw with proc:=3,name:=y.name }:Call),rfl,HQ.out.1,HQ.out.2,HE.out.1,HE.out.2,fun h=>by cases h⟩
   case rel=>exact⟨_,({ Aw with proc:=3,name:=y.name }:Call),rfl,HQ.out.1,HQ.out.2,HE.out.1,HE.out.2,fun h=>⟨by trivial,fun _=>h,fun h2=>by have:=hk.out;omega⟩⟩
  case inr.inr.inr.inr=>
   have HE:=Zh (show y=(Bq a).1/\(Bq a).2.2=true from by have hk:=HK.out.symm;(try rw[HY.out]);unfold Bq;simp[hk]);have KP2:=fun i V=>Tl i V
   have hk:=Zh HK.out.symm;generalize hv:Dr a.var=pv at *;generalize hd:Dr a.dir=pd at *;generalize ht:Dr a.to_=pt at *;cases pv
   case false=>
    go_wp2_with fail;go_meet
    case rel=>exact⟨_,y,rfl,HY3.out,Touch.refl _ _,HE.out.1,HE.out.2,fun h=>by cases h⟩
   case true=>
    cases pd
    all_goals
     go_wp2_with (first
      |(go_at_call_of 88 (a.dir);refine(KP2 _ _).mono ?_;rintro e wt ⟨rfl,hwt⟩;rw[hwt,hd];clear hwt)
      |(go_at_call_of 88 (a.to_);refine(KP2 _ _).mono ?_;rintro e wt ⟨rfl,hwt⟩;rw[hwt,ht];clear hwt)
      |fail)
     go_meet
    case rel=>exact⟨_,y,rfl,HY3.out,Touch.refl _ _,HE.out.1,HE.out.2,fun h=>by cases h⟩
    case rel=>exact⟨_,y,rfl,HY3.out,Touch.refl _ _,HE.out.1,HE.out.2,fun h=>⟨by trivial,fun _=>by trivial,fun _=>h⟩⟩
 case rest=>
 obtain⟨b,x,rfl,bX,hT,hx,hkk,hb⟩:=hcut;have bA4:=HA3.out.Ak hT h02;have bR4:=HR3.out.Ak hT h12;have hBc:Below w.heap.size w wc:=HB3.out.trans (hT.below (fun k _ hk=>by omega) HB3.out.size);apply_assumption;exact Ant a step now w wc b x bX bA4 bR4 hBc hx hkk hb _ _ _ _ _ _ _ _ _ _ _ _ _ _ _ _ _ _ _ _ _ _ _ _ _ _ _ _ _ _ _ _ _ _ _ _ _ _ _ _ _ _ _ _ _ _ _ _ _ _ _ _ _ _ _ _ _ _ _ _ _ _ _ _ _ _ _ _ _ _ _ _ _ _ _ _ _ _ _ _ _ _ _ _ _ _ _ _ _ _ _
end
end Go.Proofs.YtfjflkmhhbhceaaGreatDoor
