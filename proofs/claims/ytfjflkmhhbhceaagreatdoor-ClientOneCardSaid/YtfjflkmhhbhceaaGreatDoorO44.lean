/-
  Layer 33, walks: something comes to the document's client. Condition: numbers within their bounds.
-/
import Derived.Test.YtfjflkmhhbhceaaGreatDoorO41
import Derived.Test.YtfjflkmhhbhceaaGreatDoorO39
import Derived.Test.YtfjflkmhhbhceaaGreatDoorO32
import Derived.Test.YtfjflkmhhbhceaaGreatDoorO36
import Derived.Test.YtfjflkmhhbhceaaGreatDoorO42
set_option maxRecDepth 20000
set_option maxHeartbeats 40000000
namespace Go.Proofs.YtfjflkmhhbhceaaGreatDoor
open Go.RowKit
attribute [local go_sem ↓] Go.wp_at_zero Go.wp_at_succ
attribute [local go_sem] Ai Ag Af Ab Aj
section
attribute [local go_sem ↓] Mk Le Mx Ji Gq
attribute [local go_sem] Bv Bj Cc Bu Cd Cj Cm C2 Bc Az B7 C5 Bi C6 Bp Dt C8 C7 Dz D5 Cy
attribute [local go_sem low] Cr
attribute [local go_sem] Aa.len Message.len Ho Ks Pa
theorem Tk (s:List UInt8):(Dc s).1.body.length<=2048:=by
 rw[<-Yf];unfold Eh;by_cases h:2048<s.length
 ·rw[if_pos h];exact Nat.zero_le _
 rw[if_neg h]
 repeat' split
 all_goals first|exact Nat.zero_le _|(show (s.drop _).length<=2048;rw[List.length_drop];omega)
structure R0 (o:Option Dd) (z:Aa) (b:Bool) (n:Nat) (W:World):Prop where
 yes:b=true->∃d,o=some d/\Ib W (fun k=>n<=k) z d
theorem R0.below {o:Option Dd}{z:Aa}{b:Bool}{n:Nat}{W W':World}(h:R0 o z b n W)(hb:Below W.heap.size W W'):R0 o z b n W':=
 ⟨fun hd=>by
  obtain⟨d,h1,h2⟩:=h.yes hd;exact⟨d,h1,h2.Ik (Touch.Aq hb (fun _=>False)) (fun _ _ h=>h)⟩⟩
theorem R0.put {o:Option Dd}{z:Aa}{bb:Bool}{n:Nat}{W:World}{b:Nat}{cs:List Value}(h:R0 o z bb n W)(hb:Blk W b 51 cs)(vs:List Value):R0 o z bb n (putsW W b 0 vs):=by
 have ht:Touch (Gb W [51]) W (putsW W b 0 vs):=((Touch.refl (fun k=>k=b) W).D2 (k:=b) (.inl rfl)).mono fun k _ hk=>by subst hk;exact Jw hb (by decide)
 exact⟨fun hd=>by
  obtain⟨d,h1,r⟩:=h.yes hd;exact⟨d,h1,⟨r.bare,r.es.tou ht (by decide),r.us.tou ht (by decide),r.ie,r.iu,r.le,r.lu⟩⟩⟩
theorem Asb (p:Int)(s:List UInt8)(n:Nat)(hl:s.length<=2048)(w:World)(hn:n<=w.heap.size) :
  Calls Tryz.prog 47 #[.int .i64 p,.string (bs s)] w fun e w'=>∃z b,e=.returned (.tuple #[.agg (Aa.vals z).toArray,.bool b])/\R0 (Ok p s) z b n w'/\Below w.heap.size w w':=by
 refine(Adp p s w (by omega)).mono ?_
 intro e w' h;unfold Xf at h;cases ho:Ok p s with
 |none=>
  rw[ho]at h;obtain⟨rfl,hb⟩:=h;exact⟨Bt,false,rfl,⟨fun h=>by cases h⟩,hb⟩
 |some d=>
  rw[ho]at h;obtain⟨⟨z,rfl,h1,h2,h3⟩,hb⟩:=h;have hs:=Nw (by omega) ho;exact⟨z,true,rfl,⟨fun _=>⟨d,rfl,h1,h2.base (Nat.zero_le _),h3.base (Nat.zero_le _),fun k hk=>Nat.le_trans hn (h2.lt k hk).1,fun k hk=>Nat.le_trans hn (h3.lt k hk).1,Nat.le_trans hs.le (by decide),Nat.le_trans hs.lu (by decide)⟩⟩,hb⟩
def Lz (zb tm:Bool)(v:Value):Prop:=∃b,v=.bool b/\(b=false->zb=true/\tm=true)
theorem Lz.no (zb tm:Bool):Lz zb tm (.bool true):=⟨true,rfl,fun h=>by cases h⟩
theorem Lz.may (b:Bool):Lz true true (.bool b):=⟨b,rfl,fun _=>⟨rfl,rfl⟩⟩
theorem Ahs (F:Nat->Prop)(w:World)(g n m:Nat)(hI:FIs F w g n m)(hn:n<=900000)(hm:m<=900000)(x:B3)(step now:Int) :
  Calls Tryz.prog 14 #[.pointer (some ⟨g,0,none⟩),.agg x.vals.toArray,.int .i64 step,.int .i64 now] w (Acz F g (n+1) m w):=by
 obtain⟨z,t,l,hA,hG⟩:=hI;have bX:=Blk.new w 40 x.vals;have hB:Below w.heap.size w (w.alloc (.cells x.vals.toArray 40)):=(Below.refl _ _).alloc (Nat.le_refl _) _;obtain⟨w1,hw1⟩:∃V,V=w.alloc (.cells x.vals.toArray 40):=⟨_,rfl⟩;rw[<-hw1]at bX hB;have x2:w1.cell? ⟨w.heap.size,2,none⟩=some (.string (bs x.data)):=bX.cell 2;have HX:=Zh bX;have HB:=Zh hB;have HW1:=Zh hw1;have HE:=Zh (fun V (hb:Below w.heap.size w V)=>(show Acz F g (n+1) m w (.returned (.slice none 0 0)) V from ⟨⟨_,rfl⟩,Ex.same hA hG (Nat.le_succ n) (Nat.le_refl m) hb⟩));have HA:=Zh (And.intro hA hG);have KG9:=Zh (Vf x.data w1);have hls:l.length<=900000:=by have:=hG.recs;omega
 have hlr:z.rn=l.length:=by have:=hA.recs.lenOf;rwa [List.length_map]at this
 have HL:=Zh hlr;clear hw1 bX hB hA hG hlr;go_enter Tryz.func14,Tryz.ntmps14
 go_upto_region 1 with fail;change Code.wp _ _ _ _ (w.alloc (.cells x.vals.toArray 40));rw[<-HW1.out];rw[show Eh x.data.length (atV x.data) (x.data.drop 24) (x.data.drop 56)=Dc x.data from Yf _]at KG9;go_wp2_with fail;refine KG9.out.mono ?_
 rintro e w2 ⟨rfl,hb2⟩;have hbl:=Tk x.data;generalize Dc x.data=q at *;obtain⟨mg,er⟩:=q;simp only at hbl
 rw[show Rp (mg,er)=.tuple #[.agg mg.vals.toArray,.int .i64 er] from rfl];have bM:=Blk.new w2 81 mg.vals;have hb3:Below w2.heap.size w2 (w2.alloc (.cells mg.vals.toArray 81)):=(Below.refl _ _).alloc (Nat.le_refl _) _;obtain⟨w3,hw3⟩:∃V,V=w2.alloc (.cells mg.vals.toArray 81):=⟨_,rfl⟩;rw[<-hw3]at bM hb3;have hB3:=Ad (Ad HB.out hb2) hb3;have hA3:=HA.out.1.below hB3;have c47:w3.cell? ⟨g,47,none⟩=some (.bool z.busy):=hA3.blk.cell 47;have c2:w3.cell? ⟨g,2,none⟩=some (.int .i64 z.server):=hA3.blk.cell 2;have c54:w3.cell? ⟨g,54,none⟩=some (.slice z.ra l.length z.rc):=by rw[hA3.blk.cell 54,<-HL.out];rfl
 have bX3:=HX.out.stays (Ad hb2 hb3);have x0:w3.cell? ⟨w.heap.size,0,none⟩=some (.int .i64 x.from_):=bX3.cell 0;have m0:w3.cell? ⟨w2.heap.size,0,none⟩=some (.int .i64 mg.xid):=bM.cell 0;have m1':w3.cell? ⟨w2.heap.size,1,none⟩=some (.bool mg.answer):=bM.cell 1;have m5:w3.cell? ⟨w2.heap.size,8,none⟩=some (.int .i64 mg.accept):=bM.cell 8;have HB3:=Zh hB3;have HW3:=Zh hw3;have HM:=Zh bM;clear hw3 bM hb3 hb2 hB3 hA3 bX3 HX HB x2 KG9
 go_upto_region 2 with fail;change Code.wp _ _ _ _ (w2.alloc (.cells mg.vals.toArray 81));rw[<-HW3.out]
 go_upto_region 3 with fail
 go_cut [67] from 25 to 66 (fun v wx=>Lz z.busy (Fo now) v/\Below w3.heap.size w3 wx)
 case first=>
  have QT:∀W,Calls Tryz.prog 46 #[.int .i64 now] W fun e w'=>e=.returned (.bool (Fo now))/\∃n,w'=W.drewN n:=fun W=>(Y5 now W).mono (by rintro e w' ⟨rfl,rfl⟩;exact⟨rfl,0,rfl⟩)
  cases hbu:z.busy
  case false=>
   rw[hbu]at c47;clear QT;go_quiet (fail)
   all_goals
    go_wp2;go_meet
    case rel=>exact⟨Lz.no _ _,bdN (Below.refl _ _) _⟩
  case true=>
  rw[hbu]at c47;by_cases hfr:x.from_=z.server
  case neg=>
   have hfb:(x.from_ != z.server)=true:=by simpa using hfr
   clear QT hfr;go_quiet (fail)
   all_goals
    go_wp2;go_meet
    case rel=>exact⟨Lz.no _ _,bdN (Below.refl _ _) _⟩
  case pos=>
  rw[hfr]at x0;clear hfr;by_cases hst:step<1
  case pos=>
   clear QT;go_quiet (fail)
   all_goals
    go_wp2;go_meet
    case rel=>exact⟨Lz.no _ _,bdN (Below.refl _ _) _⟩
  case neg=>
  cases htm:Fo now
  case false=>
   rw[htm]at QT;go_quiet (first
    |(go_at_call 46;refine Calls.quiet_of (QT _))
    |fail)
   all_goals
    go_wp2;go_meet
    case rel=>exact⟨Lz.no _ _,bdN (Below.refl _ _) _⟩
  case true=>
  rw[htm]at QT;have HTM:=Zh (And.intro hbu htm);clear htm;by_cases h0:er=0
  case neg=>
   have h0b:(er != 0)=true:=by simpa using h0
   clear h0;go_quiet (first
    |(go_at_call 46;refine Calls.quiet_of (QT _))
    |fail)
   all_goals
    go_wp2;go_meet
    case rel=>exact⟨Lz.no _ _,bdN (Below.refl _ _) _⟩
  case pos=>
  subst h0;cases hma:mg.answer
  case false=>
   rw[hma]at m1';go_quiet (first
    |(go_at_call 46;refine Calls.quiet_of (QT _))
    |fail)
   all_goals
    go_wp2;go_meet
    case rel=>exact⟨Lz.no _ _,bdN (Below.refl _ _) _⟩
  case true=>
  rw[hma]at m1';by_cases hxi:mg.xid=(l.length:Int)
  case neg=>
   have hxb:(mg.xid != (l.length:Int))=true:=by simpa using hxi
   clear hxi;go_quiet (first
    |(go_at_call 46;refine Calls.quiet_of (QT _))
    |fail)
   all_goals
    go_wp2;go_meet
    case rel=>exact⟨Lz.no _ _,bdN (Below.refl _ _) _⟩
  case pos=>
   rw[hxi]at m0;clear hxi;go_quiet (first
    |(go_at_call 46;refine Calls.quiet_of (QT _))
    |fail)
   all_goals
    go_wp2;go_meet
    case rel=>exact⟨by rw[HTM.out.1,HTM.out.2];exact Lz.may _,bdN (Below.refl _ _) _⟩
 case rest=>
 obtain⟨⟨b,rfl,hok⟩,hb4⟩:=hcut;have HB4:=Zh (Ad HB3.out hb4);have hM4:=HM.out.stays hb4;clear c47 c2 c54 x0 m0 m1' m5 HB3 HM HW3;cases b
 case true=>
  go_wp2;go_ret;exact HE.out _ HB4.out
 case false=>
 obtain⟨hbu,htm⟩:=hok rfl;clear hok;have hA4:=HA.out.1.below HB4.out;have a20:wc.cell? ⟨g,20,none⟩=some (.int .i64 z.now.c.proc):=hA4.blk.cell 20;have m9:wc.cell? ⟨w2.heap.size,9,none⟩=some (.string (bs mg.body)):=hM4.cell 9;have hg4:g<wc.heap.size:=hA4.blk.lt;have hw4:w2.heap.size<wc.heap.size:=hM4.lt;have hwn:w.heap.size<=wc.heap.size:=HB4.out.size;have KG:=Zh (fun W (hn:w.heap.size<=W.heap.size)=>Asb z.now.c.proc mg.body w.heap.size hbl W hn);have HS:=Zh (fun (V:World) (h:Below wc.heap.size wc V)=>(show V.cell? ⟨g,20,none⟩=some (.int .i64 z.now.c.proc)/\V.cell? ⟨w2.heap.size,9,none⟩=some (.string (bs mg.body)) from ⟨(h.cell (p:=⟨g,20,none⟩) hg4).trans a20,(h.cell (p:=⟨w2.heap.size,9,none⟩) hw4).trans m9⟩));have HT:=Zh (And.intro hbu htm);clear hA4 a20 m9 hM4 hbu htm hb4;generalize hpr:z.now.c.proc=pr at *
 go_upto_region 5 with fail
 go_cut [12,13] from 68 to 79 (fun v12 v13 wx=>∃br rz b,v12=.pointer (some ⟨br,0,none⟩)/\v13=.bool b/\Blk wx br 51 (Aa.vals rz)/\R0 (Ok pr mg.body) rz b w.heap.size wx/\Below wc.heap.size wc wx/\wc.heap.size<=br)
 case first=>
  have hS0:=HS.out wc.drew (Below.refl _ _).drew;go_region_held3 (fun V=>V.cell? ⟨g,20,none⟩=some (.int .i64 pr)/\V.cell? ⟨w2.heap.size,9,none⟩=some (.string (bs mg.body))) (first|with_reducible assumption|exact HS.out _ ((Below.refl _ _).alloc (Nat.le_refl _) _).drew|exact HS.out _ (hb6.alloc hb6.size _)|exact HS.out _ (Below.P8 (Nat.le_refl _) hb6)|exact HS.out _ (Below.P8 hb6.size (hb6.alloc hb6.size _))) (first
   |(go_at_call 47;refine(KG.out _ ?_).mono ?_;(first|exact hwn|(simp;omega));rintro e w5 ⟨z5,b5,rfl,hG5,hb5⟩;have hb6:Below wc.heap.size wc w5:=(by first|exact Ad (Below.refl _ _).drew hb5|exact Ad ((Below.refl _ _).alloc (Nat.le_refl _) _).drew hb5);have hS5:=HS.out w5 hb6;first|(have hZ5:Blk w5 wc.heap.size 51 Bt.vals:=(Blk.new wc 51 Bt.vals).drew.stays hb5;have ht5:Ar w5 wc.heap.size 0 58=true:=hZ5.Ar 0 58 (Nat.le_refl _))|skip)
   |fail)
  all_goals clear hS5
  all_goals clear hb5
  all_goals go_wp2
  all_goals go_meet
  case rel=>exact⟨_,z5,b5,rfl,rfl,Blk.P7 rfl,hG5.below (Below.P7 rfl),Ad hb6 (Below.P7 rfl),hb6.size⟩
  case rel=>
   have q1:=hZ5.D2 0 z5.vals;rw[Lg]at q1;exact⟨_,z5,b5,rfl,rfl,q1,hG5.put hZ5 _,Below.P8 (Nat.le_refl _) hb6,Nat.le_refl _⟩
 case rest=>
 obtain⟨br,rz,b,rfl,rfl,bR,hGR,hb7,hbr⟩:=hcut;have hB7:=Ad HB4.out hb7;have hA7:=HA.out.1.below hB7;clear hb7 KG HS;cases b
 case false=>
  have HF:=Zh hB7;clear hGR hB7 hA7 bR;go_wp2;go_ret;exact HE.out _ HF.out
 case true=>
 obtain⟨d,ho,hr⟩:=hGR.yes rfl;have htm:=HT.out.2;unfold Fo at htm;simp only[Bool.and_eq_true,decide_eq_true_eq]at htm;have hlt:∀k,F k->k<w.heap.size:=HA.out.1.lt;apply_assumption;exact Ano F w _ g br n m z t l rz d step now _ hA7 HA.out.2 (Touch.Aq hB7 F) hlt HT.out.1 rfl bR hr (Nw (Nat.le_trans hbl (by decide)) ho) (Apx ho) (Nat.le_trans hwn hbr) hn hm htm _ _ _ _ _ _ _ _ _ _ _ _ _ _ _ _ _ _ _ _ _ _ _ _ _ _ _ _ _ _ _ _ _ _ _ _ _ _ _ _ _ _ _ _ _ _ _ _ _ _ _ _ _ _ _ _ _ _ _ _ _ _ _ _ _ _ _ _ _ _ _ _ _ _ _ _ _ _ _ _ _ _ _ _ _ _ _ _ _ _ _ _ _ _ _ _ _ _ _ _ _ _ _ _ _ _ _ _ _ _ _ _ _ _ _ _ _ _ _ _ _ _ _ _ _ _ _ _ _ _ _ _ _ _ _ _ _ _ _ _ _ _ _ _ _ _ _ _ _ _ _ _ _ _ _ _ _ _ _
end
end Go.Proofs.YtfjflkmhhbhceaaGreatDoor
