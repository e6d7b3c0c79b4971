/-
  Layer 9, walks: the document's num, Owner, Check, Gi, at. Condition: machine texts.
-/
import Derived.Test.YtfjflkmhhbhceaaGreatDoorO23
import Derived.Test.YtfjflkmhhbhceaaGreatDoorO06
import Derived.Test.YtfjflkmhhbhceaaGreatDoorO03
set_option maxRecDepth 20000
set_option maxHeartbeats 40000000
namespace Go.Proofs.YtfjflkmhhbhceaaGreatDoor
open Go.RowKit
attribute [local go_sem ↓] Go.wp_at_zero Go.wp_at_succ
attribute [local go_sem] Ai Ag Af Ab Aj
attribute [local go_sem] Message.at0 Message.Bo Message.at1 Message.Bk Message.at2 Message.Ca Message.at3 Message.Cg Message.at4 Message.Cx Message.at5 Message.Cw Message.at6 Message.Cv Message.at7 Message.Cu Message.at8 Message.Ct Message.at9 Message.Cs Message.Cl Message.B4 Message.Np Message.Ky Message.len A8.at0 A8.Bo A8.at1 A8.Bk A8.at2 A8.Ca A8.at3 A8.Cg A8.O8 A8.L4 A8.len
section
attribute [local go_sem ↓] G6 N8 Za Xr
theorem Ve (n least:Int)(w:World):Calls Tryz.prog 72 #[.int .i64 n,.int .i64 least] w fun e w'=>e=.returned (.bool (Rk n least))/\w=w':=by
  go_enter Tryz.func72,Tryz.ntmps72
  go_wp2
  all_goals
    go_ret;exact⟨A5 (by grind [Rk]),rfl⟩
theorem Sl (c:A8)(w:World):Calls Tryz.prog 52 #[.agg c.vals.toArray] w fun e w'=>e=.returned (.bool c.ok)/\Below w.heap.size w w':=by
  have hr:=Gd w c.vals 63;have hc0:=hr 0 _ rfl;have hc1:=hr 1 _ rfl;have hc2:=hr 2 _ rfl;have hc3:=hr 3 _ rfl;have hB0:Below w.heap.size w (w.alloc (.cells c.vals.toArray 63)):=(Below.refl _ _).alloc (Nat.le_refl _) _;clear hr;go_enter Tryz.func52,Tryz.ntmps52
  go_wp2_with (first|(go_at_call 72;refine(Ve _ _ _).mono ?_;rintro e w' ⟨rfl,rfl⟩)|fail)
  all_goals
    clear hc0 hc1 hc2 hc3;go_ret;exact⟨A5 (by grind [A8.ok]),hB0⟩
def Message.fit (m:Message):Bool:=
  Rk m.xid 0 && (decide (m.body.length<=2048) && ((m.body.length % 4==0) &&
    (if m.answer then (m.proc==0) && (decide (m.C3=Av) && (decide (0<=m.accept) && (decide (m.accept<=4) && (((m.accept==0) || (m.body.isEmpty && !m.again)) && decide (m.body.length<=2024)))))
     else decide (0<=m.proc) && (decide (m.proc<=21) && (m.C3.ok && ((m.accept==0) && (!m.again && decide (m.body.length<=1992))))))))
theorem So (m:Message)(w:World)(hl:m.body.length<=9223372036854775807):Calls Tryz.prog 31 #[.agg m.vals.toArray] w fun e w'=>e=.returned (.bool m.fit)/\Below w.heap.size w w':=by
  have hr:=Gd w m.vals 81;have hc0:=hr 0 _ rfl;have hc1:=hr 1 _ rfl;have hc2:=hr 2 _ rfl;have hc3:=hr 3 _ rfl;have hc8:=hr 8 _ rfl;have hc9:=hr 9 _ rfl;have hb0:=Blk.new w 81 m.vals;have h4:rowOf (w.alloc (.cells m.vals.toArray 81)) w.heap.size 4 4=some m.C3.vals.toArray:=hb0.row 4 4 (by simp[Message.len]);have hB0:Below w.heap.size w (w.alloc (.cells m.vals.toArray 81)):=(Below.refl _ _).alloc (Nat.le_refl _) _;have hz:w.heap.size<(w.alloc (.cells m.vals.toArray 81)).heap.size:=by simp
  have hsz:=Au m.body;clear hr hb0;go_enter Tryz.func31,Tryz.ntmps31
  go_wp2_with (first
    | (go_at_call 72;refine(Ve _ _ _).mono ?_;rintro e w' ⟨rfl,rfl⟩)
    | (go_at_call 52;refine(Sl _ _).mono ?_;rintro e w' ⟨rfl,hb⟩;have hs:=Stb.of hb)|fail)
  all_goals
    go_ret;clear hc0 hc1 hc2 hc3 hc8 hc9 h4 hz hsz;go_light
    refine⟨A5 ?_,by first|exact hB0|exact Ad hB0 (Stb.below (by assumption))⟩
    grind [Message.fit]
end
section
attribute [local go_sem ↓] G6 N8
theorem Uy (l:List Int)(b c:Nat)(w:World)(hI:Blk w b 3 (Jt l))(h32:Ank l=true)(hl:l.length<=100) :
  Calls Tryz.prog 73 #[.slice (some ⟨b,0,none⟩) l.length c] w fun e w'=>e=.returned (.string (bs (Jl l)))/\Below w.heap.size w w':=by
 have H32:=Zh h32;have hb:=hI.lt;clear h32;go_enter Tryz.func73,Tryz.ntmps73
 go_wp2
 go_loopw [3,4] (fun sv i wr=>∃k:Nat,k<=l.length/\i=.int .i64 k/\sv=.string (bs (Jl (l.take k)))/\Below w.heap.size w wr) (fun _ i _=>l.length - (intOf i).toNat)
 case atStart=>exact⟨0,by omega,rfl,rfl,Below.refl _ _⟩
 case round=>
  obtain⟨k,hk,rfl,rfl,hB⟩:=hrel;have hI2:=hI.below hB hb;have HB:=Zh hB;clear hB;by_cases hlt:k<l.length
  ·have hc:=Pu hI2 hlt
   have h32:=Ro H32.out hlt;have HS:=Zh (N5 hlt);have hnl:=Ge (l.take k);have htl:(l.take k).length<=k:=List.length_take_le _ _;obtain⟨n,hn⟩:=Int.eq_ofNat_of_zero_le h32.1;rw[hn]at hc h32;have HNN:=Zh hn;clear hn hI2;have hz1:=Au (Jl (l.take k));have hz2:=Au (num n 4);have hln:=Ce n 4;have hq:¬9223372036854775807<(Jl (l.take k)).length+4:=by omega
   generalize Jl (l.take k)=A at *;go_wp2_with fail;refine(Bs n 4 _ (by omega) (by decide)).mono ?_
   rintro e w4 ⟨rfl,hb4⟩;have HB4:=Zh (Ad HB.out hb4);clear hb4 hc;go_wp2;go_roundw
   case rel=>exact⟨k+1,by omega,by go_num,by rw[HS.out,HNN.out,Bl];rfl,HB4.out⟩
   case measure=>simp[intOf];omega
  ·obtain rfl:k=l.length:=by omega
   go_wp2;go_ret;exact⟨by rw[List.take_length];rfl,HB.out⟩
def atV (s:List UInt8)(i:Nat):Int:=if s.length<4*i+4 then -1 else wd (s.drop (4*i))
theorem Xu (s:List UInt8)(i:Nat)(w:World)(hl:s.length<=2048)(hi:i<=100):Calls Tryz.prog 51 #[.string (bs s),.int .i64 i] w fun e w'=>e=.returned (.int .i64 (atV s i))/\Below w.heap.size w w':=by
 have hz:=Au s;by_cases h:s.length<4*i+4
 ·have HV:=Zh (show atV s i=-1 by simp[atV,h])
  have h':(s.length:Int)<4*(i:Int)+4:=by omega
  have hm:IntKind.i64.wrap (4*(i:Int))=4*i:=IntWalk.i64_in _ (by omega);have ha:IntKind.i64.wrap (4*(i:Int)+4)=4*i+4:=IntWalk.i64_in _ (by omega);clear h;go_enter Tryz.func51,Tryz.ntmps51
  go_wp2;go_ret;exact⟨by rw[HV.out];rfl,Below.refl _ _⟩
 ·have HV:=Zh (show atV s i=wd (s.drop (4*i)) by simp[atV,h])
  have h':¬(s.length:Int)<4*(i:Int)+4:=by omega
  have hm:IntKind.i64.wrap (4*(i:Int))=4*i:=IntWalk.i64_in _ (by omega);have ha:IntKind.i64.wrap (4*(i:Int)+4)=4*i+4:=IntWalk.i64_in _ (by omega);have hq:RdF (w.alloc (.cells #[.string (bs s),.int .i64 ((4*i:Nat):Int),.int .i64 0] 131)) w.heap.size ⟨s.drop (4*i),0⟩:=
   ⟨s,4*i,Blk.new _ _ _,by omega,by omega,fun _=>rfl,fun h=>absurd rfl h⟩
  have K:=Dv w.heap.size _ _ hq;rw[Ads (by simp;omega),show ((4*i:Nat):Int)=4*(i:Int) by omega]at K;have K:=Zh K;clear h hq;go_enter Tryz.func51,Tryz.ntmps51
  go_wp2_with fail;refine K.out.mono ?_
  rintro e w1 ⟨rfl,hQ⟩;have HQ:=Zh hQ;clear hQ;go_wp2;go_ret;refine⟨by rw[HV.out];rfl,?_⟩
  exact Below.trans ((Below.refl _ _).alloc (Nat.le_refl _) _) (A6.below HQ.out (Nat.le_refl _) (by simp))
def Message.raw (m:Message):List UInt8:=Jl m.Gi++m.body
theorem Sp (m:Message)(w:World)(h32:Ank m.Gi=true)(hl:m.body.length<=9000):Calls Tryz.prog 32 #[.agg m.vals.toArray] w fun e w'=>e=.returned (.string (bs m.raw))/\Below w.heap.size w w':=by
 have hr:=Gd w m.vals 81;have hc0:=hr 0 _ rfl;have hc1:=hr 1 _ rfl;have hc2:=hr 2 _ rfl;have hc3:=hr 3 _ rfl;have hc4:=hr 4 _ rfl;have hc5:=hr 5 _ rfl;have hc6:=hr 6 _ rfl;have hc7:=hr 7 _ rfl;have hc8:=hr 8 _ rfl;have hc9:=hr 9 _ rfl;have hB0:Below w.heap.size w (w.alloc (.cells m.vals.toArray 81)):=(Below.refl _ _).alloc (Nat.le_refl _) _;have hz:w.heap.size<(w.alloc (.cells m.vals.toArray 81)).heap.size:=by simp
 obtain⟨w0,hw0⟩:∃V,V=w.alloc (.cells m.vals.toArray 81):=⟨_,rfl⟩;simp only[Nat.zero_add]at hc0 hc1 hc2 hc3 hc4 hc5 hc6 hc7 hc8 hc9;have HB0:=Zh hB0;rw[<-hw0]at hc0 hc1 hc2 hc3 hc4 hc5 hc6 hc7 hc8 hc9 HB0 hz;have HW:=Zh hw0;have hsz:=Au m.body;have hnl:=Ge m.Gi;have hq1:¬9223372036854775807<24+m.body.length:=by omega
 have hq2:¬9223372036854775807<56+m.body.length:=by omega
 clear hr hB0 hw0;cases ha:m.answer
 ·have hn:m.Gi=[m.xid,0,2,100003,3,m.proc,1,16,m.C3.client,m.C3.seq,m.C3.uid,m.C3.gid,0,0]:=by simp[Message.Gi,ha]
  have hR:m.raw=Jl [m.xid,0,2,100003,3,m.proc,1,16,m.C3.client,m.C3.seq,m.C3.uid,m.C3.gid,0,0]++m.body:=by rw[Message.raw,hn]
  rw[hn]at h32 hnl;have K:=Zh (fun b c W h=>Uy [m.xid,0,2,100003,3,m.proc,1,16,m.C3.client,m.C3.seq,m.C3.uid,m.C3.gid,0,0] b c W h h32 (by simp));have HR:=Zh hR;clear h32 hR hn;generalize hN:Jl [m.xid,0,2,100003,3,m.proc,1,16,m.C3.client,m.C3.seq,m.C3.uid,m.C3.gid,0,0]=N at *;have hN2:=Au N;clear hN;go_enter Tryz.func32,Tryz.ntmps32
  go_wp2_with fail;rw[<-HW.out];go_region_held3 (fun W=>Stb w0 W) (with_reducible first|assumption|exact Stb.start|(refine Stb.call ?_ hb1;first|assumption|exact Stb.start)|exact Stb.of (((Below.refl _ _).alloc (Nat.le_refl _) _).drew)|(refine Stb.alloc ?_ _;first|assumption|exact Stb.start)) (first
   |(go_at_call 73;refine(K.out _ _ _ ?_).mono ?_;exact(Blk.new _ _ _).drew;rintro e w2 ⟨rfl,hb1⟩))
  all_goals
   rename Stb w0 w2=>hse
   go_wp2;go_ret;exact⟨by rw[HR.out,Bl];rfl,Ad HB0.out hse.2.2⟩
 ·cases hg:m.again
  ·have hn:m.Gi=[m.xid,1,0,0,0,m.accept]:=by simp[Message.Gi,ha,hg]
   have hR:m.raw=Jl [m.xid,1,0,0,0,m.accept]++m.body:=by rw[Message.raw,hn]
   rw[hn]at h32 hnl;have K:=Zh (fun b c W h=>Uy [m.xid,1,0,0,0,m.accept] b c W h h32 (by simp));have HR:=Zh hR;clear h32 hR hn;generalize hN:Jl [m.xid,1,0,0,0,m.accept]=N at *;have hN2:=Au N;clear hN;go_enter Tryz.func32,Tryz.ntmps32
   go_wp2_with fail;rw[<-HW.out];go_region_held3 (fun W=>Stb w0 W) (with_reducible first|assumption|exact Stb.start|(refine Stb.call ?_ hb1;first|assumption|exact Stb.start)|exact Stb.of (((Below.refl _ _).alloc (Nat.le_refl _) _).drew)|(refine Stb.alloc ?_ _;first|assumption|exact Stb.start)) (first
    |(go_at_call 73;refine(K.out _ _ _ ?_).mono ?_;exact(Blk.new _ _ _).drew;rintro e w2 ⟨rfl,hb1⟩))
   all_goals
    rename Stb w0 w2=>hse
    go_wp2;go_ret;exact⟨by rw[HR.out,Bl];rfl,Ad HB0.out hse.2.2⟩
  ·have hn:m.Gi=[m.xid,1,0,1,0,m.accept]:=by simp[Message.Gi,ha,hg]
   have hR:m.raw=Jl [m.xid,1,0,1,0,m.accept]++m.body:=by rw[Message.raw,hn]
   rw[hn]at h32 hnl;have K:=Zh (fun b c W h=>Uy [m.xid,1,0,1,0,m.accept] b c W h h32 (by simp));have HR:=Zh hR;clear h32 hR hn;generalize hN:Jl [m.xid,1,0,1,0,m.accept]=N at *;have hN2:=Au N;clear hN;go_enter Tryz.func32,Tryz.ntmps32
   go_wp2_with fail;rw[<-HW.out];go_region_held3 (fun W=>Stb w0 W) (with_reducible first|assumption|exact Stb.start|(refine Stb.call ?_ hb1;first|assumption|exact Stb.start)|exact Stb.of (((Below.refl _ _).alloc (Nat.le_refl _) _).drew)|(refine Stb.alloc ?_ _;first|assumption|exact Stb.start)) (first
    |(go_at_call 73;refine(K.out _ _ _ ?_).mono ?_;exact(Blk.new _ _ _).drew;rintro e w2 ⟨rfl,hb1⟩))
   all_goals
    rename Stb w0 w2=>hse
    go_wp2;go_ret;exact⟨by rw[HR.out,Bl];rfl,Ad HB0.out hse.2.2⟩
end
def Eh (n:Nat)(f:Nat->Int)(r24 r56:List UInt8):Message × Int:=
 if 2048<n then (Ck,4)
 else if f 1≠0/\f 1≠1 then (Ck,14)
 else if f 1=1 then
  if f 2≠0\/f 3<0\/1<f 3\/f 4≠0\/f 5<0 then (Ck,14)
  else if Message.fit ⟨f 0,true,f 3==1,0,Av,f 5,r24⟩ then (⟨f 0,true,f 3==1,0,Av,f 5,r24⟩,0) else (Ck,14)
 else if f 2≠2\/f 3<0 then (Ck,14)
 else if f 3≠100003 then (⟨f 0,false,false,0,Av,1,[]⟩,0)
 else if f 4<0 then (Ck,14)
 else if f 4≠3 then (⟨f 0,false,false,0,Av,2,[]⟩,0)
 else if f 13<0 then (Ck,14)
 else if 21<f 5 then (⟨f 0,false,false,0,Av,3,[]⟩,0)
 else if f 6≠1\/f 7≠16\/f 12≠0\/f 13≠0\/A8.ok ⟨f 8,f 9,f 10,f 11⟩=false\/n % 4≠0 then (⟨f 0,false,false,0,Av,4,[]⟩,0)
 else (⟨f 0,false,false,f 5,⟨f 8,f 9,f 10,f 11⟩,0,r56⟩,0)
section
attribute [local go_sem ↓] G6 N8
theorem Ado (s:List UInt8)(w:World)(hlen:¬2048<s.length)(hk:atV s 1=1):Calls Tryz.prog 25 #[.string (bs s)] w fun e w'=>e=.returned (Rp (Eh s.length (atV s) (s.drop 24) (s.drop 56)))/\Below w.heap.size w w':=by
 have hz:=Au s;obtain⟨f,hf⟩:∃f,f=atV s:=⟨_,rfl⟩;rw[<-hf];have K:s.length<=2048->∀(i:Nat) (W:World),i<=100->Calls Tryz.prog 51 #[.string (bs s),.int .i64 i] W fun e w'=>e=.returned (.int .i64 (f i))/\Below W.heap.size W w':=fun hl i W hi=>by rw[hf];exact Xu s i W hl hi
 have h24:0<=f 5->24<=s.length:=fun h=>by rw[hf]at h;unfold atV at h;split at h<;>omega
 have h56:0<=f 13->56<=s.length:=fun h=>by rw[hf]at h;unfold atV at h;split at h<;>omega
 have g1:f 1=1:=by rw[hf];exact hk
 clear hf hk;obtain⟨b1,b2,hB0,_⟩:=A7 w Ck.vals Ck.vals 81 81;obtain⟨w0,hw0⟩:∃V,V=(w.alloc (.cells #[.int .i64 0,.bool false,.bool false,.int .i64 0,.int .i64 0,.int .i64 0,.int .i64 0,.int .i64 0,.int .i64 0,.string ⟨#[]⟩] 81)).alloc (.cells #[.int .i64 0,.bool false,.bool false,.int .i64 0,.int .i64 0,.int .i64 0,.int .i64 0,.int .i64 0,.int .i64 0,.string ⟨#[]⟩] 81):=⟨_,rfl⟩;replace b1:Blk w0 w.heap.size 81 Ck.vals:=by rw[hw0];exact b1
 replace b2:Blk w0 (w.heap.size+1) 81 Ck.vals:=by rw[hw0];exact b2
 replace hB0:Below w.heap.size w w0:=by rw[hw0];exact hB0
 have HB:=Zh hB0;have HW:=Zh hw0;clear hB0 hw0;go_enter Tryz.func25,Tryz.ntmps25
 go_upto_region 2 with fail;rw[<-HW.out];have hlen':¬(2048:Int)<s.length:=by omega
 have K:=Zh (K (by omega));go_wp2_with fail;refine(K.out 1 _ (by omega)).mono ?_
 rintro e wn ⟨rfl,hb⟩;replace b1:=b1.stays hb;replace b2:=b2.stays hb
 skip
 skip
 replace HB:=Zh (Ad HB.out hb);clear hb;go_wp2_with fail;refine(K.out 0 _ (by omega)).mono ?_
 rintro e wn ⟨rfl,hb⟩;replace b1:=b1.stays hb;replace b2:=b2.stays hb
 skip
 skip
 replace HB:=Zh (Ad HB.out hb);clear hb;go_wp2_with fail;obtain⟨mb,hmbd⟩:∃b,b=wn.heap.size:=⟨_,rfl⟩;obtain⟨wm,hwm⟩:∃V,V=wn.alloc (.cells #[.int .i64 (f 0),.bool true,.bool false,.int .i64 0,.int .i64 0,.int .i64 0,.int .i64 0,.int .i64 0,.int .i64 0,.string ⟨#[]⟩] 81):=⟨_,rfl⟩;rw[<-hwm,<-hmbd];have b3:Blk wm mb 81 (Message.vals ⟨f 0,true,false,0,Av,0,[]⟩):=by rw[hwm,hmbd];exact Blk.new _ _ _
 have hbm:Below wn.heap.size wn wm:=by rw[hwm];exact(Below.refl _ _).alloc (Nat.le_refl _) _
 have hmb:w.heap.size<=mb:=by rw[hmbd];exact HB.out.size
 have l1:=b1.lt;have l2:=b2.lt;have n1:w.heap.size≠mb:=by omega
 have n2:w.heap.size+1≠mb:=by omega
 have b1:=b1.stays hbm;have b2:=b2.stays hbm;have HB:=Zh (Ad HB.out hbm);clear hwm hbm hmbd l1 l2;refine(K.out 2 _ (by omega)).mono ?_
 rintro e wn ⟨rfl,hb⟩;replace b1:=b1.stays hb;replace b2:=b2.stays hb;replace b3:=b3.stays hb
 skip
 replace HB:=Zh (Ad HB.out hb);clear hb;by_cases e2:f 2=0
 case neg=>
  have r4:=b2.row 0 10 (by simp[Message.len]);rw[show ((Message.vals Ck).drop 0).take 10=Message.vals Ck from rfl]at r4
  go_wp2_with (first|(refine Ae (by rfl) 81 _ _ (by rfl) w.heap.size Ck.vals _ b1 (by rfl) (by rfl) (by rfl) (by kernel_rfl) (Message.one _) ?_)|fail)
  refine Ap w.heap.size 0 Ck.vals (.int .i64 14) Tryz.results25 Tryz.underlying81 rfl (by kernel_rfl) rfl rfl (b1.whole (by rfl)).range rfl ?_
  exact⟨by rw[show Eh s.length f (s.drop 24) (s.drop 56)=(Ck,14) by grind [Eh]];rfl,Below.Bf HB.out (Nat.le_refl _) _⟩
 go_wp2_with fail;refine(K.out 3 _ (by omega)).mono ?_
 rintro e wn ⟨rfl,hb⟩;replace b1:=b1.stays hb;replace b2:=b2.stays hb;replace b3:=b3.stays hb
 skip
 replace HB:=Zh (Ad HB.out hb);clear hb;by_cases e3:f 3<0
 case pos=>
  have r4:=b2.row 0 10 (by simp[Message.len]);rw[show ((Message.vals Ck).drop 0).take 10=Message.vals Ck from rfl]at r4
  go_wp2_with (first|(refine Ae (by rfl) 81 _ _ (by rfl) w.heap.size Ck.vals _ b1 (by rfl) (by rfl) (by rfl) (by kernel_rfl) (Message.one _) ?_)|fail)
  refine Ap w.heap.size 0 Ck.vals (.int .i64 14) Tryz.results25 Tryz.underlying81 rfl (by kernel_rfl) rfl rfl (b1.whole (by rfl)).range rfl ?_
  exact⟨by rw[show Eh s.length f (s.drop 24) (s.drop 56)=(Ck,14) by grind [Eh]];rfl,Below.Bf HB.out (Nat.le_refl _) _⟩
 go_wp2_with fail;refine(K.out 3 _ (by omega)).mono ?_
 rintro e wn ⟨rfl,hb⟩;replace b1:=b1.stays hb;replace b2:=b2.stays hb;replace b3:=b3.stays hb
 skip
 replace HB:=Zh (Ad HB.out hb);clear hb;by_cases e31:1<f 3
 case pos=>
  have r4:=b2.row 0 10 (by simp[Message.len]);rw[show ((Message.vals Ck).drop 0).take 10=Message.vals Ck from rfl]at r4
  go_wp2_with (first|(refine Ae (by rfl) 81 _ _ (by rfl) w.heap.size Ck.vals _ b1 (by rfl) (by rfl) (by rfl) (by kernel_rfl) (Message.one _) ?_)|fail)
  refine Ap w.heap.size 0 Ck.vals (.int .i64 14) Tryz.results25 Tryz.underlying81 rfl (by kernel_rfl) rfl rfl (b1.whole (by rfl)).range rfl ?_
  exact⟨by rw[show Eh s.length f (s.drop 24) (s.drop 56)=(Ck,14) by grind [Eh]];rfl,Below.Bf HB.out (Nat.le_refl _) _⟩
 go_wp2_with fail;refine(K.out 4 _ (by omega)).mono ?_
 rintro e wn ⟨rfl,hb⟩;replace b1:=b1.stays hb;replace b2:=b2.stays hb;replace b3:=b3.stays hb
 skip
 replace HB:=Zh (Ad HB.out hb);clear hb;by_cases e4:f 4=0
 case neg=>
  have r4:=b2.row 0 10 (by simp[Message.len]);rw[show ((Message.vals Ck).drop 0).take 10=Message.vals Ck from rfl]at r4
  go_wp2_with (first|(refine Ae (by rfl) 81 _ _ (by rfl) w.heap.size Ck.vals _ b1 (by rfl) (by rfl) (by rfl) (by kernel_rfl) (Message.one _) ?_)|fail)
  refine Ap w.heap.size 0 Ck.vals (.int .i64 14) Tryz.results25 Tryz.underlying81 rfl (by kernel_rfl) rfl rfl (b1.whole (by rfl)).range rfl ?_
  exact⟨by rw[show Eh s.length f (s.drop 24) (s.drop 56)=(Ck,14) by grind [Eh]];rfl,Below.Bf HB.out (Nat.le_refl _) _⟩
 go_wp2_with fail;refine(K.out 5 _ (by omega)).mono ?_
 rintro e wn ⟨rfl,hb⟩;replace b1:=b1.stays hb;replace b2:=b2.stays hb;replace b3:=b3.stays hb
 skip
 replace HB:=Zh (Ad HB.out hb);clear hb;by_cases e5:f 5<0
 case pos=>
  have r4:=b2.row 0 10 (by simp[Message.len]);rw[show ((Message.vals Ck).drop 0).take 10=Message.vals Ck from rfl]at r4
  go_wp2_with (first|(refine Ae (by rfl) 81 _ _ (by rfl) w.heap.size Ck.vals _ b1 (by rfl) (by rfl) (by rfl) (by kernel_rfl) (Message.one _) ?_)|fail)
  refine Ap w.heap.size 0 Ck.vals (.int .i64 14) Tryz.results25 Tryz.underlying81 rfl (by kernel_rfl) rfl rfl (b1.whole (by rfl)).range rfl ?_
  exact⟨by rw[show Eh s.length f (s.drop 24) (s.drop 56)=(Ck,14) by grind [Eh]];rfl,Below.Bf HB.out (Nat.le_refl _) _⟩
 go_wp2_with fail;refine(K.out 3 _ (by omega)).mono ?_
 rintro e wn ⟨rfl,hb⟩;replace b1:=b1.stays hb;replace b2:=b2.stays hb;replace b3:=b3.stays hb
 skip
 replace HB:=Zh (Ad HB.out hb);clear hb;have l24:=h24 (by omega);have l24':¬(s.length:Int)<24:=by omega
 have hcd:(bs s).extract 24 s.length=bs (s.drop 24):=Xt _ _;have c3:wn.cell? ⟨mb,2,none⟩=some (.bool false):=b3.cell 2;have z3:=b3.frozen 2;obtain⟨wy,hwy⟩:∃V,V=wn.setCell ⟨mb,2,none⟩ (.bool (f 3==1)):=⟨_,rfl⟩;have b1y:=b1.far (p:=⟨mb,2,none⟩) n1 (.bool (f 3==1));have b2y:=b2.far (p:=⟨mb,2,none⟩) n2 (.bool (f 3==1));have b3y:Blk (wn.setCell ⟨mb,2,none⟩ (.bool (f 3==1))) mb 81 (Message.vals ⟨f 0,true,f 3==1,0,Av,0,[]⟩):=b3.Be 2 (.bool (f 3==1));have hBy:=HB.out.setCell (p:=⟨mb,2,none⟩) hmb (.bool (f 3==1));have HWY:=Zh hwy;clear hwy b1 b2 b3;go_wp2_with fail;rw[<-HWY.out]at b1y b2y b3y hBy ⊢;have b1:=b1y;have b2:=b2y;have b3:=b3y;have HB:=Zh hBy;clear b1y b2y b3y hBy c3 z3;refine(K.out 5 _ (by omega)).mono ?_
 rintro e wn ⟨rfl,hb⟩;replace b1:=b1.stays hb;replace b2:=b2.stays hb;replace b3:=b3.stays hb
 skip
 replace HB:=Zh (Ad HB.out hb);clear hb;obtain⟨m,hm⟩:∃m:Message,m=⟨f 0,true,f 3==1,0,Av,f 5,s.drop 24⟩:=⟨_,rfl⟩;have c8:wn.cell? ⟨mb,8,none⟩=some (.int .i64 0):=b3.cell 8;have z8:=b3.frozen 8;have c9:wn.cell? ⟨mb,9,none⟩=some (.string (bs [])):=b3.cell 9;have z9:=b3.frozen 9;have b4:Blk ((wn.setCell ⟨mb,8,none⟩ (.int .i64 (f 5))).setCell ⟨mb,9,none⟩ (.string (bs (s.drop 24)))) mb 81 m.vals:=by rw[hm];exact(b3.Be 8 (.int .i64 (f 5))).Be 9 (.string (bs (s.drop 24)))
 have b1:=(b1.far (p:=⟨mb,8,none⟩) n1 (.int .i64 (f 5))).far (p:=⟨mb,9,none⟩) n1 (.string (bs (s.drop 24)));have b2:=(b2.far (p:=⟨mb,8,none⟩) n2 (.int .i64 (f 5))).far (p:=⟨mb,9,none⟩) n2 (.string (bs (s.drop 24)));have hB4:=(HB.out.setCell (p:=⟨mb,8,none⟩) hmb (.int .i64 (f 5))).setCell (p:=⟨mb,9,none⟩) hmb (.string (bs (s.drop 24)));have r4:=b4.row 0 10 (by simp[Message.len]);rw[show ((Message.vals m).drop 0).take 10=Message.vals m from rfl]at r4;have HM:=Zh hm;clear hm;go_wp2_with fail;obtain⟨wz,hwz⟩:∃V,V=(wn.setCell ⟨mb,8,none⟩ (.int .i64 (f 5))).setCell ⟨mb,9,none⟩ (.string (bs (s.drop 24))):=⟨_,rfl⟩;rw[<-hwz]at b1 b2 b4 hB4 ⊢;clear hwz c8 z8 c9 z9 r4 b3;refine(So m _ (by rw[HM.out];simp;omega)).mono ?_
 rintro e wq ⟨rfl,hb⟩;have b1:=b1.stays hb;have b2:=b2.stays hb;have b4:=b4.stays hb;have HB:=Zh (Ad hB4 hb);clear hb hB4;have HG:=Zh (show Eh s.length f (s.drop 24) (s.drop 56)=if m.fit then (m,0) else (Ck,14) by rw[HM.out];grind [Eh]);cases hfit:m.fit
 case false=>
  have r4:=b2.row 0 10 (by simp[Message.len]);rw[show ((Message.vals Ck).drop 0).take 10=Message.vals Ck from rfl]at r4
  go_wp2_with (first|(refine Ae (by rfl) 81 _ _ (by rfl) w.heap.size Ck.vals _ b1 (by rfl) (by rfl) (by rfl) (by kernel_rfl) (Message.one _) ?_)|fail)
  refine Ap w.heap.size 0 Ck.vals (.int .i64 14) Tryz.results25 Tryz.underlying81 rfl (by kernel_rfl) rfl rfl (b1.whole (by rfl)).range rfl ?_
  exact⟨by rw[show Eh s.length f (s.drop 24) (s.drop 56)=(Ck,14) by rw[HG.out,hfit];rfl];rfl,Below.Bf HB.out (Nat.le_refl _) _⟩
 have r4:=b4.row 0 10 (by simp[Message.len]);rw[show ((Message.vals m).drop 0).take 10=Message.vals m from rfl]at r4
 go_wp2_with (first|(refine Ae (by rfl) 81 _ _ (by rfl) w.heap.size (Message.vals m) _ b1 (by rfl) (by rfl) (by rfl) (by kernel_rfl) (Message.one _) ?_)|fail)
 refine Ap w.heap.size 0 (Message.vals m) (.int .i64 0) Tryz.results25 Tryz.underlying81 rfl (by kernel_rfl) rfl rfl (b1.whole (by rfl)).range rfl ?_
 exact⟨by rw[show Eh s.length f (s.drop 24) (s.drop 56)=(m,0) by rw[HG.out,hfit];rfl];rfl,Below.Bf HB.out (Nat.le_refl _) _⟩
end
section
attribute [local go_sem ↓] G6 N8
theorem Ab5 (s:List UInt8)(w:World)(hlen:¬2048<s.length)(hk:atV s 1=0):Calls Tryz.prog 25 #[.string (bs s)] w fun e w'=>e=.returned (Rp (Eh s.length (atV s) (s.drop 24) (s.drop 56)))/\Below w.heap.size w w':=by
 have hz:=Au s;obtain⟨f,hf⟩:∃f,f=atV s:=⟨_,rfl⟩;rw[<-hf];have K:s.length<=2048->∀(i:Nat) (W:World),i<=100->Calls Tryz.prog 51 #[.string (bs s),.int .i64 i] W fun e w'=>e=.returned (.int .i64 (f i))/\Below W.heap.size W w':=fun hl i W hi=>by rw[hf];exact Xu s i W hl hi
 have h24:0<=f 5->24<=s.length:=fun h=>by rw[hf]at h;unfold atV at h;split at h<;>omega
 have h56:0<=f 13->56<=s.length:=fun h=>by rw[hf]at h;unfold atV at h;split at h<;>omega
 have g0:f 1=0:=by rw[hf];exact hk
 have g1:¬f 1=1:=by omega
 clear hf hk;obtain⟨b1,b2,hB0,_⟩:=A7 w Ck.vals Ck.vals 81 81;obtain⟨w0,hw0⟩:∃V,V=(w.alloc (.cells #[.int .i64 0,.bool false,.bool false,.int .i64 0,.int .i64 0,.int .i64 0,.int .i64 0,.int .i64 0,.int .i64 0,.string ⟨#[]⟩] 81)).alloc (.cells #[.int .i64 0,.bool false,.bool false,.int .i64 0,.int .i64 0,.int .i64 0,.int .i64 0,.int .i64 0,.int .i64 0,.string ⟨#[]⟩] 81):=⟨_,rfl⟩;replace b1:Blk w0 w.heap.size 81 Ck.vals:=by rw[hw0];exact b1
 replace b2:Blk w0 (w.heap.size+1) 81 Ck.vals:=by rw[hw0];exact b2
 replace hB0:Below w.heap.size w w0:=by rw[hw0];exact hB0
 have HB:=Zh hB0;have HW:=Zh hw0;clear hB0 hw0;go_enter Tryz.func25,Tryz.ntmps25
 go_upto_region 2 with fail;rw[<-HW.out];have hlen':¬(2048:Int)<s.length:=by omega
 have K:=Zh (K (by omega));go_wp2_with fail;refine(K.out 1 _ (by omega)).mono ?_
 rintro e wn ⟨rfl,hb⟩;replace b1:=b1.stays hb;replace b2:=b2.stays hb
 skip
 skip
 replace HB:=Zh (Ad HB.out hb);clear hb;go_wp2_with fail;refine(K.out 0 _ (by omega)).mono ?_
 rintro e wn ⟨rfl,hb⟩;replace b1:=b1.stays hb;replace b2:=b2.stays hb
 skip
 skip
 replace HB:=Zh (Ad HB.out hb);clear hb;go_wp2_with fail;obtain⟨mb,hmbd⟩:∃b,b=wn.heap.size:=⟨_,rfl⟩;obtain⟨wm,hwm⟩:∃V,V=wn.alloc (.cells #[.int .i64 (f 0),.bool false,.bool false,.int .i64 0,.int .i64 0,.int .i64 0,.int .i64 0,.int .i64 0,.int .i64 0,.string ⟨#[]⟩] 81):=⟨_,rfl⟩;rw[<-hwm,<-hmbd];have b3:Blk wm mb 81 (Message.vals ⟨f 0,false,false,0,Av,0,[]⟩):=by rw[hwm,hmbd];exact Blk.new _ _ _
 have hbm:Below wn.heap.size wn wm:=by rw[hwm];exact(Below.refl _ _).alloc (Nat.le_refl _) _
 have hmb:w.heap.size<=mb:=by rw[hmbd];exact HB.out.size
 have l1:=b1.lt;have l2:=b2.lt;have n1:w.heap.size≠mb:=by omega
 have n2:w.heap.size+1≠mb:=by omega
 have b1:=b1.stays hbm;have b2:=b2.stays hbm;have HB:=Zh (Ad HB.out hbm);clear hwm hbm hmbd l1 l2;refine(K.out 2 _ (by omega)).mono ?_
 rintro e wn ⟨rfl,hb⟩;replace b1:=b1.stays hb;replace b2:=b2.stays hb;replace b3:=b3.stays hb
 skip
 replace HB:=Zh (Ad HB.out hb);clear hb;by_cases e2:f 2=2
 case neg=>
  have r4:=b2.row 0 10 (by simp[Message.len]);rw[show ((Message.vals Ck).drop 0).take 10=Message.vals Ck from rfl]at r4
  go_wp2_with (first|(refine Ae (by rfl) 81 _ _ (by rfl) w.heap.size Ck.vals _ b1 (by rfl) (by rfl) (by rfl) (by kernel_rfl) (Message.one _) ?_)|fail)
  refine Ap w.heap.size 0 Ck.vals (.int .i64 14) Tryz.results25 Tryz.underlying81 rfl (by kernel_rfl) rfl rfl (b1.whole (by rfl)).range rfl ?_
  exact⟨by rw[show Eh s.length f (s.drop 24) (s.drop 56)=(Ck,14) by grind [Eh]];rfl,Below.Bf HB.out (Nat.le_refl _) _⟩
 go_wp2_with fail;refine(K.out 3 _ (by omega)).mono ?_
 rintro e wn ⟨rfl,hb⟩;replace b1:=b1.stays hb;replace b2:=b2.stays hb;replace b3:=b3.stays hb
 skip
 replace HB:=Zh (Ad HB.out hb);clear hb;by_cases e3:f 3<0
 case pos=>
  have r4:=b2.row 0 10 (by simp[Message.len]);rw[show ((Message.vals Ck).drop 0).take 10=Message.vals Ck from rfl]at r4
  go_wp2_with (first|(refine Ae (by rfl) 81 _ _ (by rfl) w.heap.size Ck.vals _ b1 (by rfl) (by rfl) (by rfl) (by kernel_rfl) (Message.one _) ?_)|fail)
  refine Ap w.heap.size 0 Ck.vals (.int .i64 14) Tryz.results25 Tryz.underlying81 rfl (by kernel_rfl) rfl rfl (b1.whole (by rfl)).range rfl ?_
  exact⟨by rw[show Eh s.length f (s.drop 24) (s.drop 56)=(Ck,14) by grind [Eh]];rfl,Below.Bf HB.out (Nat.le_refl _) _⟩
 go_wp2_with fail;refine(K.out 3 _ (by omega)).mono ?_
 rintro e wn ⟨rfl,hb⟩;replace b1:=b1.stays hb;replace b2:=b2.stays hb;replace b3:=b3.stays hb
 skip
 replace HB:=Zh (Ad HB.out hb);clear hb;by_cases e33:f 3=100003
 case neg=>
  have c3:wn.cell? ⟨mb,8,none⟩=some (.int .i64 0):=b3.cell 8;have z3:=b3.frozen 8;have b4:Blk (wn.setCell ⟨mb,8,none⟩ (.int .i64 1)) _ _ (Message.vals ⟨f 0,false,false,0,Av,1,[]⟩):=b3.Be 8 (.int .i64 1);have b1:=b1.far (p:=⟨mb,8,none⟩) n1 (.int .i64 1);have hB4:=HB.out.setCell (p:=⟨mb,8,none⟩) hmb (.int .i64 1);have r4:=b4.row 0 10 (by simp[Message.len]);rw[show ((Message.vals ⟨f 0,false,false,0,Av,1,[]⟩).drop 0).take 10=Message.vals ⟨f 0,false,false,0,Av,1,[]⟩ from rfl]at r4
  go_wp2_with (first|(refine Ae (by rfl) 81 _ _ (by rfl) w.heap.size (Message.vals ⟨f 0,false,false,0,Av,1,[]⟩) _ b1 (by rfl) (by rfl) (by rfl) (by kernel_rfl) (Message.one _) ?_)|fail)
  refine Ap w.heap.size 0 (Message.vals ⟨f 0,false,false,0,Av,1,[]⟩) (.int .i64 0) Tryz.results25 Tryz.underlying81 rfl (by kernel_rfl) rfl rfl (b1.whole (by rfl)).range rfl ?_
  exact⟨by rw[show Eh s.length f (s.drop 24) (s.drop 56)=(⟨f 0,false,false,0,Av,1,[]⟩,0) by grind [Eh]];rfl,Below.Bf hB4 (Nat.le_refl _) _⟩
 go_wp2_with fail;refine(K.out 4 _ (by omega)).mono ?_
 rintro e wn ⟨rfl,hb⟩;replace b1:=b1.stays hb;replace b2:=b2.stays hb;replace b3:=b3.stays hb
 skip
 replace HB:=Zh (Ad HB.out hb);clear hb;by_cases e4:f 4<0
 case pos=>
  have r4:=b2.row 0 10 (by simp[Message.len]);rw[show ((Message.vals Ck).drop 0).take 10=Message.vals Ck from rfl]at r4
  go_wp2_with (first|(refine Ae (by rfl) 81 _ _ (by rfl) w.heap.size Ck.vals _ b1 (by rfl) (by rfl) (by rfl) (by kernel_rfl) (Message.one _) ?_)|fail)
  refine Ap w.heap.size 0 Ck.vals (.int .i64 14) Tryz.results25 Tryz.underlying81 rfl (by kernel_rfl) rfl rfl (b1.whole (by rfl)).range rfl ?_
  exact⟨by rw[show Eh s.length f (s.drop 24) (s.drop 56)=(Ck,14) by grind [Eh]];rfl,Below.Bf HB.out (Nat.le_refl _) _⟩
 go_wp2_with fail;refine(K.out 4 _ (by omega)).mono ?_
 rintro e wn ⟨rfl,hb⟩;replace b1:=b1.stays hb;replace b2:=b2.stays hb;replace b3:=b3.stays hb
 skip
 replace HB:=Zh (Ad HB.out hb);clear hb;by_cases e43:f 4=3
 case neg=>
  have c3:wn.cell? ⟨mb,8,none⟩=some (.int .i64 0):=b3.cell 8;have z3:=b3.frozen 8;have b4:Blk (wn.setCell ⟨mb,8,none⟩ (.int .i64 2)) _ _ (Message.vals ⟨f 0,false,false,0,Av,2,[]⟩):=b3.Be 8 (.int .i64 2);have b1:=b1.far (p:=⟨mb,8,none⟩) n1 (.int .i64 2);have hB4:=HB.out.setCell (p:=⟨mb,8,none⟩) hmb (.int .i64 2);have r4:=b4.row 0 10 (by simp[Message.len]);rw[show ((Message.vals ⟨f 0,false,false,0,Av,2,[]⟩).drop 0).take 10=Message.vals ⟨f 0,false,false,0,Av,2,[]⟩ from rfl]at r4
  go_wp2_with (first|(refine Ae (by rfl) 81 _ _ (by rfl) w.heap.size (Message.vals ⟨f 0,false,false,0,Av,2,[]⟩) _ b1 (by rfl) (by rfl) (by rfl) (by kernel_rfl) (Message.one _) ?_)|fail)
  refine Ap w.heap.size 0 (Message.vals ⟨f 0,false,false,0,Av,2,[]⟩) (.int .i64 0) Tryz.results25 Tryz.underlying81 rfl (by kernel_rfl) rfl rfl (b1.whole (by rfl)).range rfl ?_
  exact⟨by rw[show Eh s.length f (s.drop 24) (s.drop 56)=(⟨f 0,false,false,0,Av,2,[]⟩,0) by grind [Eh]];rfl,Below.Bf hB4 (Nat.le_refl _) _⟩
 go_wp2_with fail;refine(K.out 13 _ (by omega)).mono ?_
 rintro e wn ⟨rfl,hb⟩;replace b1:=b1.stays hb;replace b2:=b2.stays hb;replace b3:=b3.stays hb
 skip
 replace HB:=Zh (Ad HB.out hb);clear hb;by_cases e13:f 13<0
 case pos=>
  have r4:=b2.row 0 10 (by simp[Message.len]);rw[show ((Message.vals Ck).drop 0).take 10=Message.vals Ck from rfl]at r4
  go_wp2_with (first|(refine Ae (by rfl) 81 _ _ (by rfl) w.heap.size Ck.vals _ b1 (by rfl) (by rfl) (by rfl) (by kernel_rfl) (Message.one _) ?_)|fail)
  refine Ap w.heap.size 0 Ck.vals (.int .i64 14) Tryz.results25 Tryz.underlying81 rfl (by kernel_rfl) rfl rfl (b1.whole (by rfl)).range rfl ?_
  exact⟨by rw[show Eh s.length f (s.drop 24) (s.drop 56)=(Ck,14) by grind [Eh]];rfl,Below.Bf HB.out (Nat.le_refl _) _⟩
 go_wp2_with fail;refine(K.out 5 _ (by omega)).mono ?_
 rintro e wn ⟨rfl,hb⟩;replace b1:=b1.stays hb;replace b2:=b2.stays hb;replace b3:=b3.stays hb
 skip
 replace HB:=Zh (Ad HB.out hb);clear hb;by_cases e5:21<f 5
 case pos=>
  have c3:wn.cell? ⟨mb,8,none⟩=some (.int .i64 0):=b3.cell 8;have z3:=b3.frozen 8;have b4:Blk (wn.setCell ⟨mb,8,none⟩ (.int .i64 3)) _ _ (Message.vals ⟨f 0,false,false,0,Av,3,[]⟩):=b3.Be 8 (.int .i64 3);have b1:=b1.far (p:=⟨mb,8,none⟩) n1 (.int .i64 3);have hB4:=HB.out.setCell (p:=⟨mb,8,none⟩) hmb (.int .i64 3);have r4:=b4.row 0 10 (by simp[Message.len]);rw[show ((Message.vals ⟨f 0,false,false,0,Av,3,[]⟩).drop 0).take 10=Message.vals ⟨f 0,false,false,0,Av,3,[]⟩ from rfl]at r4
  go_wp2_with (first|(refine Ae (by rfl) 81 _ _ (by rfl) w.heap.size (Message.vals ⟨f 0,false,false,0,Av,3,[]⟩) _ b1 (by rfl) (by rfl) (by rfl) (by kernel_rfl) (Message.one _) ?_)|fail)
  refine Ap w.heap.size 0 (Message.vals ⟨f 0,false,false,0,Av,3,[]⟩) (.int .i64 0) Tryz.results25 Tryz.underlying81 rfl (by kernel_rfl) rfl rfl (b1.whole (by rfl)).range rfl ?_
  exact⟨by rw[show Eh s.length f (s.drop 24) (s.drop 56)=(⟨f 0,false,false,0,Av,3,[]⟩,0) by grind [Eh]];rfl,Below.Bf hB4 (Nat.le_refl _) _⟩
 go_wp2_with fail;refine(K.out 8 _ (by omega)).mono ?_
 rintro e wn ⟨rfl,hb⟩;replace b1:=b1.stays hb;replace b2:=b2.stays hb;replace b3:=b3.stays hb
 skip
 replace HB:=Zh (Ad HB.out hb);clear hb;go_wp2_with fail;refine(K.out 9 _ (by omega)).mono ?_
 rintro e wn ⟨rfl,hb⟩;replace b1:=b1.stays hb;replace b2:=b2.stays hb;replace b3:=b3.stays hb
 skip
 replace HB:=Zh (Ad HB.out hb);clear hb;go_wp2_with fail;refine(K.out 10 _ (by omega)).mono ?_
 rintro e wn ⟨rfl,hb⟩;replace b1:=b1.stays hb;replace b2:=b2.stays hb;replace b3:=b3.stays hb
 skip
 replace HB:=Zh (Ad HB.out hb);clear hb;go_wp2_with fail;refine(K.out 11 _ (by omega)).mono ?_
 rintro e wn ⟨rfl,hb⟩;replace b1:=b1.stays hb;replace b2:=b2.stays hb;replace b3:=b3.stays hb
 skip
 replace HB:=Zh (Ad HB.out hb);clear hb;go_wp2_with fail;obtain⟨cb,hcbd⟩:∃b,b=wn.heap.size:=⟨_,rfl⟩;obtain⟨wm,hwm⟩:∃V,V=wn.alloc (.cells #[.int .i64 (f 8),.int .i64 (f 9),.int .i64 (f 10),.int .i64 (f 11)] 63):=⟨_,rfl⟩;rw[<-hwm,<-hcbd];have b5:Blk wm cb 63 (A8.vals ⟨f 8,f 9,f 10,f 11⟩):=by rw[hwm,hcbd];exact Blk.new _ _ _
 have hbm:Below wn.heap.size wn wm:=by rw[hwm];exact(Below.refl _ _).alloc (Nat.le_refl _) _
 have b1:=b1.stays hbm;have b2:=b2.stays hbm;have b3:=b3.stays hbm;have HB:=Zh (Ad HB.out hbm);clear hwm hbm hcbd;refine(K.out 6 _ (by omega)).mono ?_
 rintro e wn ⟨rfl,hb⟩;replace b1:=b1.stays hb;replace b2:=b2.stays hb;replace b3:=b3.stays hb;replace b5:=b5.stays hb;replace HB:=Zh (Ad HB.out hb);clear hb;by_cases e6:f 6=1
 case neg=>
  have c3:wn.cell? ⟨mb,8,none⟩=some (.int .i64 0):=b3.cell 8;have z3:=b3.frozen 8;have b4:Blk (wn.setCell ⟨mb,8,none⟩ (.int .i64 4)) _ _ (Message.vals ⟨f 0,false,false,0,Av,4,[]⟩):=b3.Be 8 (.int .i64 4);have b1:=b1.far (p:=⟨mb,8,none⟩) n1 (.int .i64 4);have hB4:=HB.out.setCell (p:=⟨mb,8,none⟩) hmb (.int .i64 4);have r4:=b4.row 0 10 (by simp[Message.len]);rw[show ((Message.vals ⟨f 0,false,false,0,Av,4,[]⟩).drop 0).take 10=Message.vals ⟨f 0,false,false,0,Av,4,[]⟩ from rfl]at r4
  go_wp2_with (first|(refine Ae (by rfl) 81 _ _ (by rfl) w.heap.size (Message.vals ⟨f 0,false,false,0,Av,4,[]⟩) _ b1 (by rfl) (by rfl) (by rfl) (by kernel_rfl) (Message.one _) ?_)|fail)
  refine Ap w.heap.size 0 (Message.vals ⟨f 0,false,false,0,Av,4,[]⟩) (.int .i64 0) Tryz.results25 Tryz.underlying81 rfl (by kernel_rfl) rfl rfl (b1.whole (by rfl)).range rfl ?_
  exact⟨by rw[show Eh s.length f (s.drop 24) (s.drop 56)=(⟨f 0,false,false,0,Av,4,[]⟩,0) by grind [Eh]];rfl,Below.Bf hB4 (Nat.le_refl _) _⟩
 go_wp2_with fail;refine(K.out 7 _ (by omega)).mono ?_
 rintro e wn ⟨rfl,hb⟩;replace b1:=b1.stays hb;replace b2:=b2.stays hb;replace b3:=b3.stays hb;replace b5:=b5.stays hb;replace HB:=Zh (Ad HB.out hb);clear hb;by_cases e7:f 7=16
 case neg=>
  have c3:wn.cell? ⟨mb,8,none⟩=some (.int .i64 0):=b3.cell 8;have z3:=b3.frozen 8;have b4:Blk (wn.setCell ⟨mb,8,none⟩ (.int .i64 4)) _ _ (Message.vals ⟨f 0,false,false,0,Av,4,[]⟩):=b3.Be 8 (.int .i64 4);have b1:=b1.far (p:=⟨mb,8,none⟩) n1 (.int .i64 4);have hB4:=HB.out.setCell (p:=⟨mb,8,none⟩) hmb (.int .i64 4);have r4:=b4.row 0 10 (by simp[Message.len]);rw[show ((Message.vals ⟨f 0,false,false,0,Av,4,[]⟩).drop 0).take 10=Message.vals ⟨f 0,false,false,0,Av,4,[]⟩ from rfl]at r4
  go_wp2_with (first|(refine Ae (by rfl) 81 _ _ (by rfl) w.heap.size (Message.vals ⟨f 0,false,false,0,Av,4,[]⟩) _ b1 (by rfl) (by rfl) (by rfl) (by kernel_rfl) (Message.one _) ?_)|fail)
  refine Ap w.heap.size 0 (Message.vals ⟨f 0,false,false,0,Av,4,[]⟩) (.int .i64 0) Tryz.results25 Tryz.underlying81 rfl (by kernel_rfl) rfl rfl (b1.whole (by rfl)).range rfl ?_
  exact⟨by rw[show Eh s.length f (s.drop 24) (s.drop 56)=(⟨f 0,false,false,0,Av,4,[]⟩,0) by grind [Eh]];rfl,Below.Bf hB4 (Nat.le_refl _) _⟩
 go_wp2_with fail;refine(K.out 12 _ (by omega)).mono ?_
 rintro e wn ⟨rfl,hb⟩;replace b1:=b1.stays hb;replace b2:=b2.stays hb;replace b3:=b3.stays hb;replace b5:=b5.stays hb;replace HB:=Zh (Ad HB.out hb);clear hb;by_cases e12:f 12=0
 case neg=>
  have c3:wn.cell? ⟨mb,8,none⟩=some (.int .i64 0):=b3.cell 8;have z3:=b3.frozen 8;have b4:Blk (wn.setCell ⟨mb,8,none⟩ (.int .i64 4)) _ _ (Message.vals ⟨f 0,false,false,0,Av,4,[]⟩):=b3.Be 8 (.int .i64 4);have b1:=b1.far (p:=⟨mb,8,none⟩) n1 (.int .i64 4);have hB4:=HB.out.setCell (p:=⟨mb,8,none⟩) hmb (.int .i64 4);have r4:=b4.row 0 10 (by simp[Message.len]);rw[show ((Message.vals ⟨f 0,false,false,0,Av,4,[]⟩).drop 0).take 10=Message.vals ⟨f 0,false,false,0,Av,4,[]⟩ from rfl]at r4
  go_wp2_with (first|(refine Ae (by rfl) 81 _ _ (by rfl) w.heap.size (Message.vals ⟨f 0,false,false,0,Av,4,[]⟩) _ b1 (by rfl) (by rfl) (by rfl) (by kernel_rfl) (Message.one _) ?_)|fail)
  refine Ap w.heap.size 0 (Message.vals ⟨f 0,false,false,0,Av,4,[]⟩) (.int .i64 0) Tryz.results25 Tryz.underlying81 rfl (by kernel_rfl) rfl rfl (b1.whole (by rfl)).range rfl ?_
  exact⟨by rw[show Eh s.length f (s.drop 24) (s.drop 56)=(⟨f 0,false,false,0,Av,4,[]⟩,0) by grind [Eh]];rfl,Below.Bf hB4 (Nat.le_refl _) _⟩
 go_wp2_with fail;refine(K.out 13 _ (by omega)).mono ?_
 rintro e wn ⟨rfl,hb⟩;replace b1:=b1.stays hb;replace b2:=b2.stays hb;replace b3:=b3.stays hb;replace b5:=b5.stays hb;replace HB:=Zh (Ad HB.out hb);clear hb;by_cases e130:f 13=0
 case neg=>
  have c3:wn.cell? ⟨mb,8,none⟩=some (.int .i64 0):=b3.cell 8;have z3:=b3.frozen 8;have b4:Blk (wn.setCell ⟨mb,8,none⟩ (.int .i64 4)) _ _ (Message.vals ⟨f 0,false,false,0,Av,4,[]⟩):=b3.Be 8 (.int .i64 4);have b1:=b1.far (p:=⟨mb,8,none⟩) n1 (.int .i64 4);have hB4:=HB.out.setCell (p:=⟨mb,8,none⟩) hmb (.int .i64 4);have r4:=b4.row 0 10 (by simp[Message.len]);rw[show ((Message.vals ⟨f 0,false,false,0,Av,4,[]⟩).drop 0).take 10=Message.vals ⟨f 0,false,false,0,Av,4,[]⟩ from rfl]at r4
  go_wp2_with (first|(refine Ae (by rfl) 81 _ _ (by rfl) w.heap.size (Message.vals ⟨f 0,false,false,0,Av,4,[]⟩) _ b1 (by rfl) (by rfl) (by rfl) (by kernel_rfl) (Message.one _) ?_)|fail)
  refine Ap w.heap.size 0 (Message.vals ⟨f 0,false,false,0,Av,4,[]⟩) (.int .i64 0) Tryz.results25 Tryz.underlying81 rfl (by kernel_rfl) rfl rfl (b1.whole (by rfl)).range rfl ?_
  exact⟨by rw[show Eh s.length f (s.drop 24) (s.drop 56)=(⟨f 0,false,false,0,Av,4,[]⟩,0) by grind [Eh]];rfl,Below.Bf hB4 (Nat.le_refl _) _⟩
 have r5:=b5.row 0 4 (by simp[A8.len]);rw[show ((A8.vals ⟨f 8,f 9,f 10,f 11⟩).drop 0).take 4=A8.vals ⟨f 8,f 9,f 10,f 11⟩ from rfl]at r5;go_wp2_with fail;refine(Sl ⟨f 8,f 9,f 10,f 11⟩ _).mono ?_
 rintro e wq ⟨rfl,hb⟩;have b1:=b1.stays hb;have b2:=b2.stays hb;have b3:=b3.stays hb;have b5:=b5.stays hb;have HB:=Zh (Ad HB.out hb);clear hb r5;cases hok:A8.ok ⟨f 8,f 9,f 10,f 11⟩
 case false=>
  have c3:wq.cell? ⟨mb,8,none⟩=some (.int .i64 0):=b3.cell 8;have z3:=b3.frozen 8;have b4:Blk (wq.setCell ⟨mb,8,none⟩ (.int .i64 4)) _ _ (Message.vals ⟨f 0,false,false,0,Av,4,[]⟩):=b3.Be 8 (.int .i64 4);have b1:=b1.far (p:=⟨mb,8,none⟩) n1 (.int .i64 4);have hB4:=HB.out.setCell (p:=⟨mb,8,none⟩) hmb (.int .i64 4);have r4:=b4.row 0 10 (by simp[Message.len]);rw[show ((Message.vals ⟨f 0,false,false,0,Av,4,[]⟩).drop 0).take 10=Message.vals ⟨f 0,false,false,0,Av,4,[]⟩ from rfl]at r4
  go_wp2_with (first|(refine Ae (by rfl) 81 _ _ (by rfl) w.heap.size (Message.vals ⟨f 0,false,false,0,Av,4,[]⟩) _ b1 (by rfl) (by rfl) (by rfl) (by kernel_rfl) (Message.one _) ?_)|fail)
  refine Ap w.heap.size 0 (Message.vals ⟨f 0,false,false,0,Av,4,[]⟩) (.int .i64 0) Tryz.results25 Tryz.underlying81 rfl (by kernel_rfl) rfl rfl (b1.whole (by rfl)).range rfl ?_
  exact⟨by rw[show Eh s.length f (s.drop 24) (s.drop 56)=(⟨f 0,false,false,0,Av,4,[]⟩,0) by grind [Eh]];rfl,Below.Bf hB4 (Nat.le_refl _) _⟩
 by_cases hm4:s.length % 4=0
 case neg=>
  have hm1:¬(s.length:Int) % 4=0:=by omega
  have hm2:¬(s.length:Int).tmod 4=0:=by rw[Int.tmod_eq_emod_of_nonneg (by omega)];exact hm1
  have c3:wq.cell? ⟨mb,8,none⟩=some (.int .i64 0):=b3.cell 8;have z3:=b3.frozen 8;have b4:Blk (wq.setCell ⟨mb,8,none⟩ (.int .i64 4)) _ _ (Message.vals ⟨f 0,false,false,0,Av,4,[]⟩):=b3.Be 8 (.int .i64 4);have b1:=b1.far (p:=⟨mb,8,none⟩) n1 (.int .i64 4);have hB4:=HB.out.setCell (p:=⟨mb,8,none⟩) hmb (.int .i64 4);have r4:=b4.row 0 10 (by simp[Message.len]);rw[show ((Message.vals ⟨f 0,false,false,0,Av,4,[]⟩).drop 0).take 10=Message.vals ⟨f 0,false,false,0,Av,4,[]⟩ from rfl]at r4
  go_wp2_with (first|(refine Ae (by rfl) 81 _ _ (by rfl) w.heap.size (Message.vals ⟨f 0,false,false,0,Av,4,[]⟩) _ b1 (by rfl) (by rfl) (by rfl) (by kernel_rfl) (Message.one _) ?_)|fail)
  refine Ap w.heap.size 0 (Message.vals ⟨f 0,false,false,0,Av,4,[]⟩) (.int .i64 0) Tryz.results25 Tryz.underlying81 rfl (by kernel_rfl) rfl rfl (b1.whole (by rfl)).range rfl ?_
  exact⟨by rw[show Eh s.length f (s.drop 24) (s.drop 56)=(⟨f 0,false,false,0,Av,4,[]⟩,0) by grind [Eh]];rfl,Below.Bf hB4 (Nat.le_refl _) _⟩
 have hm1:(s.length:Int) % 4=0:=by omega
 have hm2:(s.length:Int).tmod 4=0:=by rw[Int.tmod_eq_emod_of_nonneg (by omega)];exact hm1
 go_wp2_with fail;refine(K.out 5 _ (by omega)).mono ?_
 rintro e wn ⟨rfl,hb⟩;replace b1:=b1.stays hb;replace b2:=b2.stays hb;replace b3:=b3.stays hb;replace b5:=b5.stays hb;replace HB:=Zh (Ad HB.out hb);clear hb;have l56:=h56 (by omega);have l56':¬(s.length:Int)<56:=by omega
 have hcd:(bs s).extract 56 s.length=bs (s.drop 56):=Xt _ _;have c3:wn.cell? ⟨mb,3,none⟩=some (.int .i64 0):=b3.cell 3;have c4:wn.cell? ⟨mb,4,none⟩=some (.int .i64 0):=b3.cell 4;have c5:wn.cell? ⟨mb,5,none⟩=some (.int .i64 0):=b3.cell 5;have c6:wn.cell? ⟨mb,6,none⟩=some (.int .i64 0):=b3.cell 6;have c7:wn.cell? ⟨mb,7,none⟩=some (.int .i64 0):=b3.cell 7;have c9:wn.cell? ⟨mb,9,none⟩=some (.string (bs [])):=b3.cell 9;have z3:=b3.frozen 3;have z4:=b3.frozen 4;have z5:=b3.frozen 5;have z6:=b3.frozen 6;have z7:=b3.frozen 7;have z9:=b3.frozen 9;have nc:=b3.ne_ b5 (by decide);have nc':¬cb=mb:=fun e=>nc e.symm
 have r5:rowOf (wn.setCell ⟨mb,3,none⟩ (.int .i64 (f 5))) cb 0 4=some #[.int .i64 (f 8),.int .i64 (f 9),.int .i64 (f 10),.int .i64 (f 11)]:=by rw[Ou _ _ _ _ _ nc'];exact b5.row 0 4 (by simp[A8.len])
 go_upto_region 39 with fail;have b4y:=((((((b3.Be 3 (.int .i64 (f 5))).Be 4 (.int .i64 (f 8))).Be 5 (.int .i64 (f 9))).Be 6 (.int .i64 (f 10))).Be 7 (.int .i64 (f 11))).Be 9 (.string (bs (s.drop 56))));have b4:Blk ((((((wn.setCell ⟨mb,3,none⟩ (.int .i64 (f 5))).setCell ⟨mb,4,none⟩ (.int .i64 (f 8))).setCell ⟨mb,5,none⟩ (.int .i64 (f 9))).setCell ⟨mb,6,none⟩ (.int .i64 (f 10))).setCell ⟨mb,7,none⟩ (.int .i64 (f 11))).setCell ⟨mb,9,none⟩ (.string (bs (s.drop 56)))) mb 81 (Message.vals ⟨f 0,false,false,f 5,⟨f 8,f 9,f 10,f 11⟩,0,s.drop 56⟩):=b4y;have b1:=((((((b1.far (p:=⟨mb,3,none⟩) n1 (.int .i64 (f 5))).far (p:=⟨mb,4,none⟩) n1 (.int .i64 (f 8))).far (p:=⟨mb,5,none⟩) n1 (.int .i64 (f 9))).far (p:=⟨mb,6,none⟩) n1 (.int .i64 (f 10))).far (p:=⟨mb,7,none⟩) n1 (.int .i64 (f 11))).far (p:=⟨mb,9,none⟩) n1 (.string (bs (s.drop 56))));have hB4:=((((((HB.out.setCell (p:=⟨mb,3,none⟩) hmb (.int .i64 (f 5))).setCell (p:=⟨mb,4,none⟩) hmb (.int .i64 (f 8))).setCell (p:=⟨mb,5,none⟩) hmb (.int .i64 (f 9))).setCell (p:=⟨mb,6,none⟩) hmb (.int .i64 (f 10))).setCell (p:=⟨mb,7,none⟩) hmb (.int .i64 (f 11))).setCell (p:=⟨mb,9,none⟩) hmb (.string (bs (s.drop 56))));obtain⟨wz,hwz⟩:∃V,V=((((((wn.setCell ⟨mb,3,none⟩ (.int .i64 (f 5))).setCell ⟨mb,4,none⟩ (.int .i64 (f 8))).setCell ⟨mb,5,none⟩ (.int .i64 (f 9))).setCell ⟨mb,6,none⟩ (.int .i64 (f 10))).setCell ⟨mb,7,none⟩ (.int .i64 (f 11))).setCell ⟨mb,9,none⟩ (.string (bs (s.drop 56)))):=⟨_,rfl⟩;rw[<-hwz]at b1 b4 hB4 ⊢;clear b4y b3 hwz r5 c3 c4 c5 c6 c7 c9 z3 z4 z5 z6 z7 z9;have r4:=b4.row 0 10 (by simp[Message.len]);rw[show ((Message.vals ⟨f 0,false,false,f 5,⟨f 8,f 9,f 10,f 11⟩,0,s.drop 56⟩).drop 0).take 10=Message.vals ⟨f 0,false,false,f 5,⟨f 8,f 9,f 10,f 11⟩,0,s.drop 56⟩ from rfl]at r4
 go_wp2_with (first|(refine Ae (by rfl) 81 _ _ (by rfl) w.heap.size (Message.vals ⟨f 0,false,false,f 5,⟨f 8,f 9,f 10,f 11⟩,0,s.drop 56⟩) _ b1 (by rfl) (by rfl) (by rfl) (by kernel_rfl) (Message.one _) ?_)|fail)
 refine Ap w.heap.size 0 (Message.vals ⟨f 0,false,false,f 5,⟨f 8,f 9,f 10,f 11⟩,0,s.drop 56⟩) (.int .i64 0) Tryz.results25 Tryz.underlying81 rfl (by kernel_rfl) rfl rfl (b1.whole (by rfl)).range rfl ?_
 exact⟨by rw[show Eh s.length f (s.drop 24) (s.drop 56)=(⟨f 0,false,false,f 5,⟨f 8,f 9,f 10,f 11⟩,0,s.drop 56⟩,0) by grind [Eh]];rfl,Below.Bf hB4 (Nat.le_refl _) _⟩
end
section
attribute [local go_sem ↓] G6 N8
theorem Vf (s:List UInt8)(w:World):Calls Tryz.prog 25 #[.string (bs s)] w fun e w'=>e=.returned (Rp (Eh s.length (atV s) (s.drop 24) (s.drop 56)))/\Below w.heap.size w w':=by
 have hz:=Au s;by_cases hlen0:2048<s.length
 case neg=>
  by_cases h1:atV s 1=1
  ·exact Ado s w hlen0 h1
  by_cases h0:atV s 1=0
  ·exact Ab5 s w hlen0 h0
  have HG:=Zh (show Eh s.length (atV s) (s.drop 24) (s.drop 56)=(Ck,14) by simp[Eh,hlen0,h1,h0]);obtain⟨f,hf⟩:∃f,f=atV s:=⟨_,rfl⟩;rw[<-hf];have K:s.length<=2048->∀(i:Nat) (W:World),i<=100->Calls Tryz.prog 51 #[.string (bs s),.int .i64 i] W fun e w'=>e=.returned (.int .i64 (f i))/\Below W.heap.size W w':=fun hl i W hi=>by rw[hf];exact Xu s i W hl hi
  have h24:0<=f 5->24<=s.length:=fun h=>by rw[hf]at h;unfold atV at h;split at h<;>omega
  have h56:0<=f 13->56<=s.length:=fun h=>by rw[hf]at h;unfold atV at h;split at h<;>omega
  have n11:¬f 1=1:=by rw[hf];exact h1
  have n10:¬f 1=0:=by rw[hf];exact h0
  have m11:(f 1 != 1)=true:=by simpa using n11
  have m10:(f 1 != 0)=true:=by simpa using n10
  rw[<-hf]at HG;clear hf h0 h1;obtain⟨b1,b2,hB0,_⟩:=A7 w Ck.vals Ck.vals 81 81;obtain⟨w0,hw0⟩:∃V,V=(w.alloc (.cells #[.int .i64 0,.bool false,.bool false,.int .i64 0,.int .i64 0,.int .i64 0,.int .i64 0,.int .i64 0,.int .i64 0,.string ⟨#[]⟩] 81)).alloc (.cells #[.int .i64 0,.bool false,.bool false,.int .i64 0,.int .i64 0,.int .i64 0,.int .i64 0,.int .i64 0,.int .i64 0,.string ⟨#[]⟩] 81):=⟨_,rfl⟩;replace b1:Blk w0 w.heap.size 81 Ck.vals:=by rw[hw0];exact b1
  replace b2:Blk w0 (w.heap.size+1) 81 Ck.vals:=by rw[hw0];exact b2
  replace hB0:Below w.heap.size w w0:=by rw[hw0];exact hB0
  have HB:=Zh hB0;have HW:=Zh hw0;clear hB0 hw0;go_enter Tryz.func25,Tryz.ntmps25
  go_upto_region 2 with fail;rw[<-HW.out];have hlen':¬(2048:Int)<s.length:=by omega
  have K:=Zh (K (by omega));go_wp2_with fail;refine(K.out 1 _ (by omega)).mono ?_
  rintro e wn ⟨rfl,hb⟩;replace b1:=b1.stays hb;replace b2:=b2.stays hb
  skip
  skip
  replace HB:=Zh (Ad HB.out hb);clear hb;have r4:=b2.row 0 10 (by simp[Message.len]);rw[show ((Message.vals Ck).drop 0).take 10=Message.vals Ck from rfl]at r4
  go_wp2_with (first|(refine Ae (by rfl) 81 _ _ (by rfl) w.heap.size Ck.vals _ b1 (by rfl) (by rfl) (by rfl) (by kernel_rfl) (Message.one _) ?_)|fail)
  refine Ap w.heap.size 0 Ck.vals (.int .i64 14) Tryz.results25 Tryz.underlying81 rfl (by kernel_rfl) rfl rfl (b1.whole (by rfl)).range rfl ?_
  exact⟨by rw[show Eh s.length f (s.drop 24) (s.drop 56)=(Ck,14) by rw[HG.out]];rfl,Below.Bf HB.out (Nat.le_refl _) _⟩
 obtain⟨f,hf⟩:∃f,f=atV s:=⟨_,rfl⟩;rw[<-hf];have K:s.length<=2048->∀(i:Nat) (W:World),i<=100->Calls Tryz.prog 51 #[.string (bs s),.int .i64 i] W fun e w'=>e=.returned (.int .i64 (f i))/\Below W.heap.size W w':=fun hl i W hi=>by rw[hf];exact Xu s i W hl hi
 have h24:0<=f 5->24<=s.length:=fun h=>by rw[hf]at h;unfold atV at h;split at h<;>omega
 have h56:0<=f 13->56<=s.length:=fun h=>by rw[hf]at h;unfold atV at h;split at h<;>omega
 clear hf;obtain⟨b1,b2,hB0,_⟩:=A7 w Ck.vals Ck.vals 81 81;obtain⟨w0,hw0⟩:∃V,V=(w.alloc (.cells #[.int .i64 0,.bool false,.bool false,.int .i64 0,.int .i64 0,.int .i64 0,.int .i64 0,.int .i64 0,.int .i64 0,.string ⟨#[]⟩] 81)).alloc (.cells #[.int .i64 0,.bool false,.bool false,.int .i64 0,.int .i64 0,.int .i64 0,.int .i64 0,.int .i64 0,.int .i64 0,.string ⟨#[]⟩] 81):=⟨_,rfl⟩;replace b1:Blk w0 w.heap.size 81 Ck.vals:=by rw[hw0];exact b1
 replace b2:Blk w0 (w.heap.size+1) 81 Ck.vals:=by rw[hw0];exact b2
 replace hB0:Below w.heap.size w w0:=by rw[hw0];exact hB0
 have HB:=Zh hB0;have HW:=Zh hw0;clear hB0 hw0;go_enter Tryz.func25,Tryz.ntmps25
 go_upto_region 2 with fail;rw[<-HW.out];have hlen:=hlen0;have hlen':(2048:Int)<s.length:=by omega
 have r4:=b2.row 0 10 (by simp[Message.len]);rw[show ((Message.vals Ck).drop 0).take 10=Message.vals Ck from rfl]at r4
 go_wp2_with (first|(refine Ae (by rfl) 81 _ _ (by rfl) w.heap.size Ck.vals _ b1 (by rfl) (by rfl) (by rfl) (by kernel_rfl) (Message.one _) ?_)|fail)
 refine Ap w.heap.size 0 Ck.vals (.int .i64 4) Tryz.results25 Tryz.underlying81 rfl (by kernel_rfl) rfl rfl (b1.whole (by rfl)).range rfl ?_
 exact⟨by rw[show Eh s.length f (s.drop 24) (s.drop 56)=(Ck,4) by grind [Eh]];rfl,Below.Bf HB.out (Nat.le_refl _) _⟩
end
theorem Aco {l:List UInt8}(h:l.length % 4=0):filled l=l:=by
 have hp:D7 l.length=0:=by unfold D7;omega
 simp[filled,hp]
theorem Aj5 {m:Message}(h:m.body.length % 4=0):m.raw=m.bytes:=by rw[Message.raw,Message.bytes,Aco h]
theorem Apd (m:Message):m.raw.length=4*m.Gi.length+m.body.length:=by rw[Message.raw,List.length_append,Ge]
theorem Am0 (m:Message):m.Gi.length=if m.answer then 6 else 14:=by unfold Message.Gi;split<;>rfl
theorem Aqt (m:Message):m.fit=!m.bad:=by
 by_cases hb:m.body.length % 4=0
 ·have h1:m.bytes.length=(if m.answer then 24 else 56)+m.body.length:=by
   rw[<-Aj5 hb,Apd,Am0];split<;>rfl
  unfold Message.bad;rw[h1];obtain⟨xid,answer,again,proc,C3,accept,body⟩:=m;simp only at hb
  rw[Bool.eq_iff_iff];cases answer
  ·simp[Message.fit,Message.may,O7,hb]
   grind
  ·simp[Message.fit,Message.may,hb]
   grind
 ·have hb':(m.body.length % 4==0)=false:=by simpa using hb
  simp[Message.fit,Message.bad,Message.may,hb']
theorem Aqs {m:Message}(h:m.fit=true):m.may=true:=by
 rw[Aqt]at h;unfold Message.bad at h
 grind
theorem Yf (s:List UInt8):Eh s.length (atV s) (s.drop 24) (s.drop 56)=Dc s:=by
 by_cases h0:2048<s.length
 ·simp[Eh,Dc,h0]
 obtain⟨v,hv⟩:∃v:Nat->Nat,∀i,wd (s.drop (4*i))=v i:=⟨_,fun _=>rfl⟩;have hv0:wd s=v 0:=hv 0;have hv1:wd (s.drop 4)=v 1:=hv 1;have hd:(s.drop 8).length=s.length - 8:=by simp
 have hg:(fun k=>wd ((s.drop 8).drop (4*k)))=fun k=>v (k+2):=funext fun k=>by rw[<-hv,List.drop_drop];congr 2;omega
 have hr1:(s.drop 8).drop 48=s.drop 56:=by rw[List.drop_drop]
 have hr2:(s.drop 8).drop 16=s.drop 24:=by rw[List.drop_drop]
 have hf:∀i,atV s i=if s.length<4*i+4 then -1 else (v i:Int):=fun i=>by rw[<-hv];rfl
 generalize hat:atV s=f at hf ⊢;have f0:=hf 0;have f1:=hf 1;have f2:=hf 2;have f3:=hf 3;have f4:=hf 4;have f5:=hf 5;have f6:=hf 6;have f7:=hf 7;have f8:=hf 8;have f9:=hf 9;have f10:=hf 10;have f11:=hf 11;have f12:=hf 12;have f13:=hf 13;clear hf;simp only[Nat.reduceMul,Nat.reduceAdd]at f0 f1 f2 f3 f4 f5 f6 f7 f8 f9 f10 f11 f12 f13;unfold Dc;rw[hv0,hv1,hd,hg,hr1,hr2,if_neg h0];have hlen24:24<=s.length->(s.drop 24).length=s.length - 24:=fun _=>by simp
 generalize s.drop 56=r56 at *;generalize s.drop 24=r24 at *;generalize s.length=n at *;clear hv0 hv1 hd hg hr1 hr2 hv hat;by_cases h8:n<8
 ·have:f 1=-1:=by rw[f1,if_pos h8]
  simp[Eh,h0,h8,this]
 rw[if_neg h8];rw[if_neg (by omega)]at f0 f1;by_cases k0:v 1=0
 ·rw[if_pos k0]
  have e1:f 1=0:=by omega
  have hR:Eh n f r24 r56=if f 2≠2\/f 3<0 then (Ck,14) else if f 3≠100003 then (⟨f 0,false,false,0,Av,1,[]⟩,0) else if f 4<0 then (Ck,14)
    else if f 4≠3 then (⟨f 0,false,false,0,Av,2,[]⟩,0) else if f 13<0 then (Ck,14) else if 21<f 5 then (⟨f 0,false,false,0,Av,3,[]⟩,0)
    else if f 6≠1\/f 7≠16\/f 12≠0\/f 13≠0\/A8.ok ⟨f 8,f 9,f 10,f 11⟩=false\/n % 4≠0 then (⟨f 0,false,false,0,Av,4,[]⟩,0)
    else (⟨f 0,false,false,f 5,⟨f 8,f 9,f 10,f 11⟩,0,r56⟩,0):=by
   simp[Eh,h0,e1]
  rw[hR,f0];clear hR;unfold Dq;simp only[Nat.reduceAdd,Nat.zero_add];by_cases h12:n<12
  ·rw[if_pos h12]at f2
   rw[if_pos (by omega),if_pos (by omega)];rfl
  rw[if_neg h12]at f2;rw[if_neg (show ¬n - 8<4 by omega)];by_cases k2:v 2=2
  case neg=>rw[if_pos (by omega),if_pos k2];rfl
  rw[if_neg (show ¬v 2≠2 by omega)];by_cases h16:n<16
  ·rw[if_pos h16]at f3
   rw[if_pos (by omega),if_pos (by omega)];rfl
  rw[if_neg h16]at f3;rw[if_neg (by omega),if_neg (show ¬n - 8<8 by omega)];by_cases k3:v 3=100003
  case neg=>rw[if_pos (by omega),if_pos k3];rfl
  rw[if_neg (by omega),if_neg (show ¬v 3≠100003 by omega)];by_cases h20:n<20
  ·rw[if_pos h20]at f4
   rw[if_pos (by omega),if_pos (by omega)];rfl
  rw[if_neg h20]at f4;rw[if_neg (by omega),if_neg (show ¬n - 8<12 by omega)];by_cases k4:v 4=3
  case neg=>rw[if_pos (by omega),if_pos k4];rfl
  rw[if_neg (by omega),if_neg (show ¬v 4≠3 by omega)];by_cases h56:n<56
  ·rw[if_pos h56]at f13
   rw[if_pos (by omega),if_pos (by omega)];rfl
  rw[if_neg h56]at f13;rw[if_neg (by omega)]at f5 f6 f7 f8 f9 f10 f11 f12;rw[if_neg (by omega),if_neg (show ¬n - 8<48 by omega)];have hth:O7 (v 5:Int)=!decide (21<(v 5:Int)):=by rw[Bool.eq_iff_iff];simp[O7]
  rw[hth,f5,f6,f7,f8,f9,f10,f11,f12,f13];by_cases k5:21<(v 5:Int)
  ·simp[k5,Y4]
  have hm:(n - 8) % 4=n % 4:=by omega
  simp only[k5,hm,decide_false,Bool.not_false,if_false]
  grind [Y4]
 rw[if_neg k0];by_cases k1:v 1=1
 ·rw[if_pos k1]
  have e1:f 1=1:=by omega
  have hR:Eh n f r24 r56=if f 2≠0\/f 3<0\/1<f 3\/f 4≠0\/f 5<0 then (Ck,14)
    else if Message.fit ⟨f 0,true,f 3==1,0,Av,f 5,r24⟩ then (⟨f 0,true,f 3==1,0,Av,f 5,r24⟩,0) else (Ck,14):=by
   simp[Eh,h0,e1]
  rw[hR,f0];clear hR;unfold Ew;by_cases h24:n<24
  ·rw[if_pos h24]at f5
   rw[if_pos (by omega),if_pos (by omega)];rfl
  rw[if_neg h24]at f5;rw[if_neg (by omega)]at f2 f3 f4;rw[if_neg (show ¬n - 8<16 by omega),f2,f3,f4,f5];have hl:=hlen24 (by omega);have hbe:((v 3:Int)==1)=(v 3==1):=by rw[Bool.eq_iff_iff];simp;omega
  have hm:(n - 8) % 4=r24.length % 4:=by omega
  have hfm:n % 4=0->Message.fit ⟨v 0,true,v 3==1,0,Av,v 5,r24⟩=Message.may ⟨v 0,true,v 3==1,0,Av,v 5,r24⟩:=fun h=>by
   have hrl:r24.length % 4=0:=by omega
   simp[Message.fit,Message.may,hrl]
   grind
  have hf4:¬n % 4=0->Message.fit ⟨v 0,true,v 3==1,0,Av,v 5,r24⟩=false:=fun h=>by
   have hrl:(r24.length % 4==0)=false:=by simp;omega
   simp[Message.fit,hrl]
  rw[hbe];have e0:(0+2)=2:=rfl;have e1:(1+2)=3:=rfl;have e2:(2+2)=4:=rfl;have e3:(3+2)=5:=rfl;simp only[e0,e1,e2,e3]
  grind [Y4]
 rw[if_neg k1];have e0:¬f 1=0:=by omega
 have e1:¬f 1=1:=by omega
 simp[Eh,h0,e0,e1]
end Go.Proofs.YtfjflkmhhbhceaaGreatDoor
