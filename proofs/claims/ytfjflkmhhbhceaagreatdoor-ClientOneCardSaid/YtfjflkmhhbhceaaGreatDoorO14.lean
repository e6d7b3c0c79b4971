/-
  Layer 7, walks: the document's Get (written by wip/tools/genget7.py). Condition: the text is no longer than 10^18.
-/
import Derived.Test.YtfjflkmhhbhceaaGreatDoorO13
import Derived.Test.YtfjflkmhhbhceaaGreatDoorO07
import Derived.Test.YtfjflkmhhbhceaaGreatDoorO12
set_option maxRecDepth 20000
set_option maxHeartbeats 40000000
namespace Go.Proofs.YtfjflkmhhbhceaaGreatDoor
open Go.RowKit
attribute [local go_sem ↓] Go.wp_at_zero Go.wp_at_succ
attribute [local go_sem] Ai Ag Af Ab Aj
attribute [local go_sem] Call.at0 Call.Bo Call.at1 Call.Bk Call.at2 Call.Ca Call.at3 Call.Cg Call.at4 Call.Cx Call.at5 Call.Cw Call.at6 Call.Cv Call.at7 Call.Cu Call.at8 Call.Ct Call.at9 Call.Cs Call.Ee Call.C4 Call.Fm Call.Dm Call.Fl Call.Dl Call.Ia Call.Ep Call.H9 Call.Eo Call.Lx Call.Hg Call.Lw Call.Hf Call.Lv Call.He Call.Lu Call.Hd Call.Lt Call.Hc Call.Ls Call.Ha Call.Lr Call.G9 Call.Lq Call.G8 Call.Lp Call.G7 Call.Gy Call.Fj Call.Gv Call.Fg Call.Jn Call.Gz Call.Gx Call.Fi Call.Gw Call.Fh Call.F9 Call.Et Call.F8 Call.Es Call.F7 Call.Er Call.len Ac.at0 Ac.Bo Ac.at1 Ac.Bk Ac.at2 Ac.Ca Ac.at3 Ac.Cg Ac.at4 Ac.Cx Ac.at5 Ac.Cw Ac.at6 Ac.Cv Ac.at7 Ac.Cu Ac.at8 Ac.Ct Ac.at9 Ac.Cs Ac.Cl Ac.B4 Ac.Ch Ac.Br Ac.Gn Ac.E1 Ac.Gm Ac.E0 Ac.Gl Ac.Ez Ac.Gk Ac.Ey Ac.len Opt.at0 Opt.Bo Opt.at1 Opt.Bk Opt.Ch Opt.Br Opt.len
section
attribute [local go_sem ↓] Io Hz Rn
theorem RdF.new7 (w:World)(s:List UInt8)(h:s.length<=1000000000000000000):RdF (w.alloc (.cells #[.string (bs s),.int .i64 0,.int .i64 0] 131)) w.heap.size ⟨s,0⟩:=
 ⟨s,0,Blk.new _ _ _,Nat.zero_le _,h,fun _=>rfl,fun h=>absurd rfl h⟩
theorem RdF.Am8 {w:World}{g b:Nat}{r:Rs}{T:TypeId}{cs:List Value}(h:RdF w g r)(hb:Blk w b T cs)(hT:T≠131):b≠g:=by
 obtain⟨S,a,h,_⟩:=h;exact Blk.ne_ hb h hT
def Ah1 (p:Int)(s:List UInt8):Call × Bool:=
 if (∀k (hk:k<(Al p).length),(Al p)[k].toNat=115->Zf (Al p) { Aw with proc:=p } ⟨s,0⟩ k=true)/\(cSt (Al p) { Aw with proc:=p } ⟨s,0⟩ (Al p).length).2.e=0/\¬0<J9 (cSt (Al p) { Aw with proc:=p } ⟨s,0⟩ (Al p).length).2
 then ((cSt (Al p) { Aw with proc:=p } ⟨s,0⟩ (Al p).length).1,true) else (Aw,false)
theorem Adq (p:Int)(s:List UInt8)(w:World)(hl:s.length<=1000000000000000000) :
  Calls Tryz.prog 26 #[.int .i64 p,.string (bs s)] w fun e w'=>e=.returned (.tuple #[.agg (Ah1 p s).1.vals.toArray,.bool (Ah1 p s).2])/\Below w.heap.size w w':=by
 have hs0:(w.alloc (.cells Aw.vals.toArray 36)).heap.size=w.heap.size+1:=by simp
 have hq0:=Blk.new w 36 Aw.vals;have hB0:Below w.heap.size w (w.alloc (.cells Aw.vals.toArray 36)):=(Below.refl _ _).alloc (Nat.le_refl _) _;obtain⟨w0,hw0⟩:∃u,u=w.alloc (.cells Aw.vals.toArray 36):=⟨_,rfl⟩;rw[<-hw0]at hs0 hq0 hB0;have hs1:(w0.alloc (.cells #[.string (bs s),.int .i64 0,.int .i64 0] 131)).heap.size=w.heap.size+1+1:=by simp[hs0]
 have hR1:=RdF.new7 w0 s hl;have hq1:=hq0.alloc (.cells #[.string (bs s),.int .i64 0,.int .i64 0] 131);have hB1:=hB0.alloc hB0.size (.cells #[.string (bs s),.int .i64 0,.int .i64 0] 131);rw[hs0]at hR1;obtain⟨w1,hw1⟩:∃u,u=w0.alloc (.cells #[.string (bs s),.int .i64 0,.int .i64 0] 131):=⟨_,rfl⟩;rw[<-hw1]at hs1 hR1 hq1 hB1;obtain⟨z,hz⟩:∃z:Call,z={ Aw with proc:=p }:=⟨_,rfl⟩;have hC2:=Blk.new w1 36 z.vals;have hX2:=(Below.refl w1.heap.size w1).alloc (Nat.le_refl _) (.cells z.vals.toArray 36);have hR2:=hR1.stays hX2;have hq2:=hq1.stays hX2;have hB2:=Ad hB1 hX2;rw[hs1]at hC2;obtain⟨w2,hw2⟩:∃u,u=w1.alloc (.cells z.vals.toArray 36):=⟨_,rfl⟩;rw[<-hw2]at hC2 hR2 hq2 hB2;have HD:=Zh (show Ah1 p s=if (∀k (hk:k<(Al p).length),(Al p)[k].toNat=115->Zf (Al p) { Aw with proc:=p } ⟨s,0⟩ k=true)/\(cSt (Al p) { Aw with proc:=p } ⟨s,0⟩ (Al p).length).2.e=0/\¬0<J9 (cSt (Al p) { Aw with proc:=p } ⟨s,0⟩ (Al p).length).2
  then ((cSt (Al p) { Aw with proc:=p } ⟨s,0⟩ (Al p).length).1,true) else (Aw,false) from rfl)
 have HW:=Zh (And.intro hw0 (And.intro hw1 hw2));have HZ:=Zh hz;rw[<-hz]at HD;have HAll:=Zh (And.intro hq2 (And.intro hR2 (And.intro hC2 hB2)));clear hw0 hw1 hw2 hz hC2 hX2 hR2 hq2 hB2 hR1 hq1 hB1 hq0 hB0;have hlet:=fun k (hk:k<(Al p).length)=>Hj p hk
 have hsh:=Ma p;go_enter Tryz.func26,Tryz.ntmps26
 go_wp2_with (first
  |(refine Dh (by rfl) (by rfl) 36 (by rfl) _ _ (by rfl) z.vals Aej (by rfl) (by rfl) (Call.one _) (by rfl) (by rw[HZ.out];rfl) ?_)
  |fail)
 change Calls _ _ _ (((w.alloc (.cells Aw.vals.toArray 36)).alloc (.cells #[.string (bs s),.int .i64 0,.int .i64 0] 131)).alloc (.cells z.vals.toArray 36)) _;rw[<-HW.out.1,<-HW.out.2.1,<-HW.out.2.2];refine(Jp p _).mono ?_
 rintro e w3 ⟨rfl,hb3⟩;have hq3:=HAll.out.1.stays hb3;have hR3:=HAll.out.2.1.stays hb3;have hC3:=HAll.out.2.2.1.stays hb3;have hB3:=Ad HAll.out.2.2.2 hb3;clear hb3 HAll HW hs0 hs1;obtain⟨l,hlf⟩:∃l,l=Al p:=⟨_,rfl⟩;rw[<-hlf]at hlet hsh HD ⊢;clear hlf;have hsz:=Au l;have HI:=Zh (And.intro hR3 (And.intro hC3 (And.intro hq3 hB3)));clear hR3 hC3 hq3 hB3;go_wp2
 go_loopw [9] (fun iv wr=>∃k:Nat,k<=l.length/\iv=.int .i64 k/\(∀j (hj:j<l.length),j<k->l[j].toNat=115->Zf l z ⟨s,0⟩ j=true)/\RdF wr (w.heap.size+1) (cSt l z ⟨s,0⟩ k).2/\Blk wr (w.heap.size+1+1) 36 (cSt l z ⟨s,0⟩ k).1.vals/\Blk wr w.heap.size 36 Aw.vals/\Below w.heap.size w wr) (fun iv _=>l.length - (intOf iv).toNat)
 case atStart=>exact⟨0,Nat.zero_le _,rfl,fun _ _ h=>absurd h (Nat.not_lt_zero _),HI.out.1,HI.out.2.1,HI.out.2.2.1,HI.out.2.2.2⟩
 case round=>
  clear HI;obtain⟨k,hk,rfl,hno,hR,hC,hq,hB⟩:=hrel;have hgb:=hR.Am8 hC (by decide);have hgq:=hR.Am8 hq (by decide);have hlk:=Ara l z (r:=⟨s,0⟩) (by simp only;omega) k hk;by_cases hlt:k<l.length
  ·have hS:=Ae4 l z ⟨s,0⟩ k hlt
   have hx:=hlet k hlt;have hqv:((bs l)[k]'(by rw[hsz];exact hlt)).toNat=l[k].toNat:=rfl;have hgd:(l.getD k 0).toNat=l[k].toNat:=by simp[List.getD,List.getElem?_eq_getElem hlt]
   have hN1:l[k].toNat≠115->∀j (hj:j<l.length),j<k+1->l[j].toNat=115->Zf l z ⟨s,0⟩ j=true:=fun hne j hj h h5=>by
    rcases Nat.lt_or_ge j k with h3|h3
    ·exact hno j hj h3 h5
    ·obtain rfl:j=k:=by omega
     exact absurd h5 hne
   have hN2:Ai7 115 (cSt l z ⟨s,0⟩ k).2=true->∀j (hj:j<l.length),j<k+1->l[j].toNat=115->Zf l z ⟨s,0⟩ j=true:=fun hok j hj h h5=>by
    rcases Nat.lt_or_ge j k with h3|h3
    ·exact hno j hj h3 h5
    ·obtain rfl:j=k:=by omega
     unfold Zf;rw[hgd,h5];exact hok
   have hN3:Ai7 115 (cSt l z ⟨s,0⟩ k).2=false->l[k].toNat=115->Ah1 p s=(Aw,false):=fun hbad h5=>HD.out.trans (if_neg fun h=>by
    have:=h.1 k hlt h5;unfold Zf at this;rw[hgd,h5,hbad]at this;cases this)
   clear hgd;have HN3:=Zh hN3;have HN2:=Zh hN2;have HN1:=Zh hN1;clear hN1 hN2 hN3 hno;generalize l[k].toNat=c at *;generalize cSt l z ⟨s,0⟩ k=x at *;have HS:=Zh hS;clear hS;rcases hx with rfl|rfl|rfl|rfl|rfl|rfl|rfl|rfl|rfl|rfl|rfl|rfl|rfl
   ·have hT:cTk 102 x.1 x.2=({ x.1 with fh:=(Ao 64 x.2).1 },(Ao 64 x.2).2):=rfl
    have hG:=El (w.heap.size+1) 64 x.2 wr hR hlk;generalize Ao 64 x.2=v at *;have HG:=Zh hG;have HT:=Zh (HS.out.trans hT);have HN:=Zh (HN1.out (by decide));clear hG hT HN1 HN2 HN3 HS;go_wp2_with fail;refine HG.out.mono ?_
    rintro e w4 ⟨rfl,hQ⟩;have hC1:=hQ.keeps hC hgb;have hf:=hC1.frozen;have hc1:=hC1.cell;have hA2:Blk (w4.setCell ⟨w.heap.size+1+1,1,none⟩ (.string (bs v.1))) (w.heap.size+1+1) 36 ({ x.1 with fh:=v.1 }:Call).vals:=hC1.Be 1 (.string (bs v.1));have hR2:RdF (w4.setCell ⟨w.heap.size+1+1,1,none⟩ (.string (bs v.1))) (w.heap.size+1) v.2:=hQ.1.Ak ((Touch.refl (fun k=>k=w.heap.size+1+1) w4).An (g:=w.heap.size+1+1) (o:=1) (.inl rfl) (.string (bs v.1))) (by omega);have hq2:Blk (w4.setCell ⟨w.heap.size+1+1,1,none⟩ (.string (bs v.1))) w.heap.size 36 Aw.vals:=(hQ.keeps hq hgq).far (p:=⟨w.heap.size+1+1,1,none⟩) (by show w.heap.size≠w.heap.size+1+1;omega) _;have hB2:Below w.heap.size w (w4.setCell ⟨w.heap.size+1+1,1,none⟩ (.string (bs v.1))):=(hB.trans (hQ.below (by omega) hB.size)).setCell (p:=⟨w.heap.size+1+1,1,none⟩) (by show w.heap.size<=w.heap.size+1+1;omega) _;have HH:=Zh (And.intro hR2 (And.intro hA2 (And.intro hq2 hB2)));clear hR2 hA2 hq2 hB2 hQ hR hC hq hB hC1 HG;go_wp2;go_roundw
    case rel=>exact⟨k+1,by omega,by go_num,HN.out,by rw[HT.out];exact HH.out.1,by rw[HT.out];exact HH.out.2.1,HH.out.2.2.1,HH.out.2.2.2⟩
    case measure=>simp[intOf];omega
   ·have hT:cTk 70 x.1 x.2=({ x.1 with fh2:=(Ao 64 x.2).1 },(Ao 64 x.2).2):=rfl
    have hG:=El (w.heap.size+1) 64 x.2 wr hR hlk;generalize Ao 64 x.2=v at *;have HG:=Zh hG;have HT:=Zh (HS.out.trans hT);have HN:=Zh (HN1.out (by decide));clear hG hT HN1 HN2 HN3 HS;go_wp2_with fail;refine HG.out.mono ?_
    rintro e w4 ⟨rfl,hQ⟩;have hC1:=hQ.keeps hC hgb;have hf:=hC1.frozen;have hc1:=hC1.cell;have hA2:Blk (w4.setCell ⟨w.heap.size+1+1,3,none⟩ (.string (bs v.1))) (w.heap.size+1+1) 36 ({ x.1 with fh2:=v.1 }:Call).vals:=hC1.Be 3 (.string (bs v.1));have hR2:RdF (w4.setCell ⟨w.heap.size+1+1,3,none⟩ (.string (bs v.1))) (w.heap.size+1) v.2:=hQ.1.Ak ((Touch.refl (fun k=>k=w.heap.size+1+1) w4).An (g:=w.heap.size+1+1) (o:=3) (.inl rfl) (.string (bs v.1))) (by omega);have hq2:Blk (w4.setCell ⟨w.heap.size+1+1,3,none⟩ (.string (bs v.1))) w.heap.size 36 Aw.vals:=(hQ.keeps hq hgq).far (p:=⟨w.heap.size+1+1,3,none⟩) (by show w.heap.size≠w.heap.size+1+1;omega) _;have hB2:Below w.heap.size w (w4.setCell ⟨w.heap.size+1+1,3,none⟩ (.string (bs v.1))):=(hB.trans (hQ.below (by omega) hB.size)).setCell (p:=⟨w.heap.size+1+1,3,none⟩) (by show w.heap.size<=w.heap.size+1+1;omega) _;have HH:=Zh (And.intro hR2 (And.intro hA2 (And.intro hq2 hB2)));clear hR2 hA2 hq2 hB2 hQ hR hC hq hB hC1 HG;go_wp2;go_roundw
    case rel=>exact⟨k+1,by omega,by go_num,HN.out,by rw[HT.out];exact HH.out.1,by rw[HT.out];exact HH.out.2.1,HH.out.2.2.1,HH.out.2.2.2⟩
    case measure=>simp[intOf];omega
   ·have hT:cTk 110 x.1 x.2=({ x.1 with name:=(Ao 255 x.2).1 },(Ao 255 x.2).2):=rfl
    have hG:=El (w.heap.size+1) 255 x.2 wr hR hlk;generalize Ao 255 x.2=v at *;have HG:=Zh hG;have HT:=Zh (HS.out.trans hT);have HN:=Zh (HN1.out (by decide));clear hG hT HN1 HN2 HN3 HS;go_wp2_with fail;refine HG.out.mono ?_
    rintro e w4 ⟨rfl,hQ⟩;have hC1:=hQ.keeps hC hgb;have hf:=hC1.frozen;have hc1:=hC1.cell;have hA2:Blk (w4.setCell ⟨w.heap.size+1+1,2,none⟩ (.string (bs v.1))) (w.heap.size+1+1) 36 ({ x.1 with name:=v.1 }:Call).vals:=hC1.Be 2 (.string (bs v.1));have hR2:RdF (w4.setCell ⟨w.heap.size+1+1,2,none⟩ (.string (bs v.1))) (w.heap.size+1) v.2:=hQ.1.Ak ((Touch.refl (fun k=>k=w.heap.size+1+1) w4).An (g:=w.heap.size+1+1) (o:=2) (.inl rfl) (.string (bs v.1))) (by omega);have hq2:Blk (w4.setCell ⟨w.heap.size+1+1,2,none⟩ (.string (bs v.1))) w.heap.size 36 Aw.vals:=(hQ.keeps hq hgq).far (p:=⟨w.heap.size+1+1,2,none⟩) (by show w.heap.size≠w.heap.size+1+1;omega) _;have hB2:Below w.heap.size w (w4.setCell ⟨w.heap.size+1+1,2,none⟩ (.string (bs v.1))):=(hB.trans (hQ.below (by omega) hB.size)).setCell (p:=⟨w.heap.size+1+1,2,none⟩) (by show w.heap.size<=w.heap.size+1+1;omega) _;have HH:=Zh (And.intro hR2 (And.intro hA2 (And.intro hq2 hB2)));clear hR2 hA2 hq2 hB2 hQ hR hC hq hB hC1 HG;go_wp2;go_roundw
    case rel=>exact⟨k+1,by omega,by go_num,HN.out,by rw[HT.out];exact HH.out.1,by rw[HT.out];exact HH.out.2.1,HH.out.2.2.1,HH.out.2.2.2⟩
    case measure=>simp[intOf];omega
   ·have hT:cTk 78 x.1 x.2=({ x.1 with name2:=(Ao 255 x.2).1 },(Ao 255 x.2).2):=rfl
    have hG:=El (w.heap.size+1) 255 x.2 wr hR hlk;generalize Ao 255 x.2=v at *;have HG:=Zh hG;have HT:=Zh (HS.out.trans hT);have HN:=Zh (HN1.out (by decide));clear hG hT HN1 HN2 HN3 HS;go_wp2_with fail;refine HG.out.mono ?_
    rintro e w4 ⟨rfl,hQ⟩;have hC1:=hQ.keeps hC hgb;have hf:=hC1.frozen;have hc1:=hC1.cell;have hA2:Blk (w4.setCell ⟨w.heap.size+1+1,4,none⟩ (.string (bs v.1))) (w.heap.size+1+1) 36 ({ x.1 with name2:=v.1 }:Call).vals:=hC1.Be 4 (.string (bs v.1));have hR2:RdF (w4.setCell ⟨w.heap.size+1+1,4,none⟩ (.string (bs v.1))) (w.heap.size+1) v.2:=hQ.1.Ak ((Touch.refl (fun k=>k=w.heap.size+1+1) w4).An (g:=w.heap.size+1+1) (o:=4) (.inl rfl) (.string (bs v.1))) (by omega);have hq2:Blk (w4.setCell ⟨w.heap.size+1+1,4,none⟩ (.string (bs v.1))) w.heap.size 36 Aw.vals:=(hQ.keeps hq hgq).far (p:=⟨w.heap.size+1+1,4,none⟩) (by show w.heap.size≠w.heap.size+1+1;omega) _;have hB2:Below w.heap.size w (w4.setCell ⟨w.heap.size+1+1,4,none⟩ (.string (bs v.1))):=(hB.trans (hQ.below (by omega) hB.size)).setCell (p:=⟨w.heap.size+1+1,4,none⟩) (by show w.heap.size<=w.heap.size+1+1;omega) _;have HH:=Zh (And.intro hR2 (And.intro hA2 (And.intro hq2 hB2)));clear hR2 hA2 hq2 hB2 hQ hR hC hq hB hC1 HG;go_wp2;go_roundw
    case rel=>exact⟨k+1,by omega,by go_num,HN.out,by rw[HT.out];exact HH.out.1,by rw[HT.out];exact HH.out.2.1,HH.out.2.2.1,HH.out.2.2.2⟩
    case measure=>simp[intOf];omega
   ·have hT:cTk 116 x.1 x.2=({ x.1 with text:=(Ao 255 x.2).1 },(Ao 255 x.2).2):=rfl
    have hG:=El (w.heap.size+1) 255 x.2 wr hR hlk;generalize Ao 255 x.2=v at *;have HG:=Zh hG;have HT:=Zh (HS.out.trans hT);have HN:=Zh (HN1.out (by decide));clear hG hT HN1 HN2 HN3 HS;go_wp2_with fail;refine HG.out.mono ?_
    rintro e w4 ⟨rfl,hQ⟩;have hC1:=hQ.keeps hC hgb;have hf:=hC1.frozen;have hc1:=hC1.cell;have hA2:Blk (w4.setCell ⟨w.heap.size+1+1,23,none⟩ (.string (bs v.1))) (w.heap.size+1+1) 36 ({ x.1 with text:=v.1 }:Call).vals:=hC1.Be 23 (.string (bs v.1));have hR2:RdF (w4.setCell ⟨w.heap.size+1+1,23,none⟩ (.string (bs v.1))) (w.heap.size+1) v.2:=hQ.1.Ak ((Touch.refl (fun k=>k=w.heap.size+1+1) w4).An (g:=w.heap.size+1+1) (o:=23) (.inl rfl) (.string (bs v.1))) (by omega);have hq2:Blk (w4.setCell ⟨w.heap.size+1+1,23,none⟩ (.string (bs v.1))) w.heap.size 36 Aw.vals:=(hQ.keeps hq hgq).far (p:=⟨w.heap.size+1+1,23,none⟩) (by show w.heap.size≠w.heap.size+1+1;omega) _;have hB2:Below w.heap.size w (w4.setCell ⟨w.heap.size+1+1,23,none⟩ (.string (bs v.1))):=(hB.trans (hQ.below (by omega) hB.size)).setCell (p:=⟨w.heap.size+1+1,23,none⟩) (by show w.heap.size<=w.heap.size+1+1;omega) _;have HH:=Zh (And.intro hR2 (And.intro hA2 (And.intro hq2 hB2)));clear hR2 hA2 hq2 hB2 hQ hR hC hq hB hC1 HG;go_wp2;go_roundw
    case rel=>exact⟨k+1,by omega,by go_num,HN.out,by rw[HT.out];exact HH.out.1,by rw[HT.out];exact HH.out.2.1,HH.out.2.2.1,HH.out.2.2.2⟩
    case measure=>simp[intOf];omega
   ·have hT:cTk 100 x.1 x.2=({ x.1 with data:=(Ao 256 x.2).1 },(Ao 256 x.2).2):=rfl
    have hG:=El (w.heap.size+1) 256 x.2 wr hR hlk;generalize Ao 256 x.2=v at *;have HG:=Zh hG;have HT:=Zh (HS.out.trans hT);have HN:=Zh (HN1.out (by decide));clear hG hT HN1 HN2 HN3 HS;go_wp2_with fail;refine HG.out.mono ?_
    rintro e w4 ⟨rfl,hQ⟩;have hC1:=hQ.keeps hC hgb;have hf:=hC1.frozen;have hc1:=hC1.cell;have hA2:Blk (w4.setCell ⟨w.heap.size+1+1,8,none⟩ (.string (bs v.1))) (w.heap.size+1+1) 36 ({ x.1 with data:=v.1 }:Call).vals:=hC1.Be 8 (.string (bs v.1));have hR2:RdF (w4.setCell ⟨w.heap.size+1+1,8,none⟩ (.string (bs v.1))) (w.heap.size+1) v.2:=hQ.1.Ak ((Touch.refl (fun k=>k=w.heap.size+1+1) w4).An (g:=w.heap.size+1+1) (o:=8) (.inl rfl) (.string (bs v.1))) (by omega);have hq2:Blk (w4.setCell ⟨w.heap.size+1+1,8,none⟩ (.string (bs v.1))) w.heap.size 36 Aw.vals:=(hQ.keeps hq hgq).far (p:=⟨w.heap.size+1+1,8,none⟩) (by show w.heap.size≠w.heap.size+1+1;omega) _;have hB2:Below w.heap.size w (w4.setCell ⟨w.heap.size+1+1,8,none⟩ (.string (bs v.1))):=(hB.trans (hQ.below (by omega) hB.size)).setCell (p:=⟨w.heap.size+1+1,8,none⟩) (by show w.heap.size<=w.heap.size+1+1;omega) _;have HH:=Zh (And.intro hR2 (And.intro hA2 (And.intro hq2 hB2)));clear hR2 hA2 hq2 hB2 hQ hR hC hq hB hC1 HG;go_wp2;go_roundw
    case rel=>exact⟨k+1,by omega,by go_num,HN.out,by rw[HT.out];exact HH.out.1,by rw[HT.out];exact HH.out.2.1,HH.out.2.2.1,HH.out.2.2.2⟩
    case measure=>simp[intOf];omega
   ·have hT:cTk 111 x.1 x.2=({ x.1 with offset:=(Bn x.2).1 },(Bn x.2).2):=rfl
    have hG:=Eu (w.heap.size+1) x.2 wr hR;generalize Bn x.2=v at *;have HG:=Zh hG;have HT:=Zh (HS.out.trans hT);have HN:=Zh (HN1.out (by decide));clear hG hT HN1 HN2 HN3 HS;go_wp2_with fail;refine HG.out.mono ?_
    rintro e w4 ⟨rfl,hQ⟩;have hC1:=hQ.keeps hC hgb;have hf:=hC1.frozen;have hc1:=hC1.cell;have hA2:Blk (w4.setCell ⟨w.heap.size+1+1,5,none⟩ (.int .i64 v.1)) (w.heap.size+1+1) 36 ({ x.1 with offset:=v.1 }:Call).vals:=hC1.Be 5 (.int .i64 v.1);have hR2:RdF (w4.setCell ⟨w.heap.size+1+1,5,none⟩ (.int .i64 v.1)) (w.heap.size+1) v.2:=hQ.1.Ak ((Touch.refl (fun k=>k=w.heap.size+1+1) w4).An (g:=w.heap.size+1+1) (o:=5) (.inl rfl) (.int .i64 v.1)) (by omega);have hq2:Blk (w4.setCell ⟨w.heap.size+1+1,5,none⟩ (.int .i64 v.1)) w.heap.size 36 Aw.vals:=(hQ.keeps hq hgq).far (p:=⟨w.heap.size+1+1,5,none⟩) (by show w.heap.size≠w.heap.size+1+1;omega) _;have hB2:Below w.heap.size w (w4.setCell ⟨w.heap.size+1+1,5,none⟩ (.int .i64 v.1)):=(hB.trans (hQ.below (by omega) hB.size)).setCell (p:=⟨w.heap.size+1+1,5,none⟩) (by show w.heap.size<=w.heap.size+1+1;omega) _;have HH:=Zh (And.intro hR2 (And.intro hA2 (And.intro hq2 hB2)));clear hR2 hA2 hq2 hB2 hQ hR hC hq hB hC1 HG;go_wp2;go_roundw
    case rel=>exact⟨k+1,by omega,by go_num,HN.out,by rw[HT.out];exact HH.out.1,by rw[HT.out];exact HH.out.2.1,HH.out.2.2.1,HH.out.2.2.2⟩
    case measure=>simp[intOf];omega
   ·have hT:cTk 107 x.1 x.2=({ x.1 with cookie:=(Bn x.2).1 },(Bn x.2).2):=rfl
    have hG:=Eu (w.heap.size+1) x.2 wr hR;generalize Bn x.2=v at *;have HG:=Zh hG;have HT:=Zh (HS.out.trans hT);have HN:=Zh (HN1.out (by decide));clear hG hT HN1 HN2 HN3 HS;go_wp2_with fail;refine HG.out.mono ?_
    rintro e w4 ⟨rfl,hQ⟩;have hC1:=hQ.keeps hC hgb;have hf:=hC1.frozen;have hc1:=hC1.cell;have hA2:Blk (w4.setCell ⟨w.heap.size+1+1,21,none⟩ (.int .i64 v.1)) (w.heap.size+1+1) 36 ({ x.1 with cookie:=v.1 }:Call).vals:=hC1.Be 21 (.int .i64 v.1);have hR2:RdF (w4.setCell ⟨w.heap.size+1+1,21,none⟩ (.int .i64 v.1)) (w.heap.size+1) v.2:=hQ.1.Ak ((Touch.refl (fun k=>k=w.heap.size+1+1) w4).An (g:=w.heap.size+1+1) (o:=21) (.inl rfl) (.int .i64 v.1)) (by omega);have hq2:Blk (w4.setCell ⟨w.heap.size+1+1,21,none⟩ (.int .i64 v.1)) w.heap.size 36 Aw.vals:=(hQ.keeps hq hgq).far (p:=⟨w.heap.size+1+1,21,none⟩) (by show w.heap.size≠w.heap.size+1+1;omega) _;have hB2:Below w.heap.size w (w4.setCell ⟨w.heap.size+1+1,21,none⟩ (.int .i64 v.1)):=(hB.trans (hQ.below (by omega) hB.size)).setCell (p:=⟨w.heap.size+1+1,21,none⟩) (by show w.heap.size<=w.heap.size+1+1;omega) _;have HH:=Zh (And.intro hR2 (And.intro hA2 (And.intro hq2 hB2)));clear hR2 hA2 hq2 hB2 hQ hR hC hq hB hC1 HG;go_wp2;go_roundw
    case rel=>exact⟨k+1,by omega,by go_num,HN.out,by rw[HT.out];exact HH.out.1,by rw[HT.out];exact HH.out.2.1,HH.out.2.2.1,HH.out.2.2.2⟩
    case measure=>simp[intOf];omega
   ·have hT:cTk 118 x.1 x.2=({ x.1 with verf:=(Bn x.2).1 },(Bn x.2).2):=rfl
    have hG:=Eu (w.heap.size+1) x.2 wr hR;generalize Bn x.2=v at *;have HG:=Zh hG;have HT:=Zh (HS.out.trans hT);have HN:=Zh (HN1.out (by decide));clear hG hT HN1 HN2 HN3 HS;go_wp2_with fail;refine HG.out.mono ?_
    rintro e w4 ⟨rfl,hQ⟩;have hC1:=hQ.keeps hC hgb;have hf:=hC1.frozen;have hc1:=hC1.cell;have hA2:Blk (w4.setCell ⟨w.heap.size+1+1,22,none⟩ (.int .i64 v.1)) (w.heap.size+1+1) 36 ({ x.1 with verf:=v.1 }:Call).vals:=hC1.Be 22 (.int .i64 v.1);have hR2:RdF (w4.setCell ⟨w.heap.size+1+1,22,none⟩ (.int .i64 v.1)) (w.heap.size+1) v.2:=hQ.1.Ak ((Touch.refl (fun k=>k=w.heap.size+1+1) w4).An (g:=w.heap.size+1+1) (o:=22) (.inl rfl) (.int .i64 v.1)) (by omega);have hq2:Blk (w4.setCell ⟨w.heap.size+1+1,22,none⟩ (.int .i64 v.1)) w.heap.size 36 Aw.vals:=(hQ.keeps hq hgq).far (p:=⟨w.heap.size+1+1,22,none⟩) (by show w.heap.size≠w.heap.size+1+1;omega) _;have hB2:Below w.heap.size w (w4.setCell ⟨w.heap.size+1+1,22,none⟩ (.int .i64 v.1)):=(hB.trans (hQ.below (by omega) hB.size)).setCell (p:=⟨w.heap.size+1+1,22,none⟩) (by show w.heap.size<=w.heap.size+1+1;omega) _;have HH:=Zh (And.intro hR2 (And.intro hA2 (And.intro hq2 hB2)));clear hR2 hA2 hq2 hB2 hQ hR hC hq hB hC1 HG;go_wp2;go_roundw
    case rel=>exact⟨k+1,by omega,by go_num,HN.out,by rw[HT.out];exact HH.out.1,by rw[HT.out];exact HH.out.2.1,HH.out.2.2.1,HH.out.2.2.2⟩
    case measure=>simp[intOf];omega
   ·have hT:cTk 99 x.1 x.2=({ x.1 with count:=(Am x.2).1 },(Am x.2).2):=rfl
    have hG:=Dv (w.heap.size+1) x.2 wr hR;generalize Am x.2=v at *;have HG:=Zh hG;have HT:=Zh (HS.out.trans hT);have HN:=Zh (HN1.out (by decide));clear hG hT HN1 HN2 HN3 HS;go_wp2_with fail;refine HG.out.mono ?_
    rintro e w4 ⟨rfl,hQ⟩;have hC1:=hQ.keeps hC hgb;have hf:=hC1.frozen;have hc1:=hC1.cell;have hA2:Blk (w4.setCell ⟨w.heap.size+1+1,6,none⟩ (.int .i64 v.1)) (w.heap.size+1+1) 36 ({ x.1 with count:=v.1 }:Call).vals:=hC1.Be 6 (.int .i64 v.1);have hR2:RdF (w4.setCell ⟨w.heap.size+1+1,6,none⟩ (.int .i64 v.1)) (w.heap.size+1) v.2:=hQ.1.Ak ((Touch.refl (fun k=>k=w.heap.size+1+1) w4).An (g:=w.heap.size+1+1) (o:=6) (.inl rfl) (.int .i64 v.1)) (by omega);have hq2:Blk (w4.setCell ⟨w.heap.size+1+1,6,none⟩ (.int .i64 v.1)) w.heap.size 36 Aw.vals:=(hQ.keeps hq hgq).far (p:=⟨w.heap.size+1+1,6,none⟩) (by show w.heap.size≠w.heap.size+1+1;omega) _;have hB2:Below w.heap.size w (w4.setCell ⟨w.heap.size+1+1,6,none⟩ (.int .i64 v.1)):=(hB.trans (hQ.below (by omega) hB.size)).setCell (p:=⟨w.heap.size+1+1,6,none⟩) (by show w.heap.size<=w.heap.size+1+1;omega) _;have HH:=Zh (And.intro hR2 (And.intro hA2 (And.intro hq2 hB2)));clear hR2 hA2 hq2 hB2 hQ hR hC hq hB hC1 HG;go_wp2;go_roundw
    case rel=>exact⟨k+1,by omega,by go_num,HN.out,by rw[HT.out];exact HH.out.1,by rw[HT.out];exact HH.out.2.1,HH.out.2.2.1,HH.out.2.2.2⟩
    case measure=>simp[intOf];omega
   ·have hT:cTk 104 x.1 x.2=({ x.1 with how:=(Am x.2).1 },(Am x.2).2):=rfl
    have hG:=Dv (w.heap.size+1) x.2 wr hR;generalize Am x.2=v at *;have HG:=Zh hG;have HT:=Zh (HS.out.trans hT);have HN:=Zh (HN1.out (by decide));clear hG hT HN1 HN2 HN3 HS;go_wp2_with fail;refine HG.out.mono ?_
    rintro e w4 ⟨rfl,hQ⟩;have hC1:=hQ.keeps hC hgb;have hf:=hC1.frozen;have hc1:=hC1.cell;have hA2:Blk (w4.setCell ⟨w.heap.size+1+1,7,none⟩ (.int .i64 v.1)) (w.heap.size+1+1) 36 ({ x.1 with how:=v.1 }:Call).vals:=hC1.Be 7 (.int .i64 v.1);have hR2:RdF (w4.setCell ⟨w.heap.size+1+1,7,none⟩ (.int .i64 v.1)) (w.heap.size+1) v.2:=hQ.1.Ak ((Touch.refl (fun k=>k=w.heap.size+1+1) w4).An (g:=w.heap.size+1+1) (o:=7) (.inl rfl) (.int .i64 v.1)) (by omega);have hq2:Blk (w4.setCell ⟨w.heap.size+1+1,7,none⟩ (.int .i64 v.1)) w.heap.size 36 Aw.vals:=(hQ.keeps hq hgq).far (p:=⟨w.heap.size+1+1,7,none⟩) (by show w.heap.size≠w.heap.size+1+1;omega) _;have hB2:Below w.heap.size w (w4.setCell ⟨w.heap.size+1+1,7,none⟩ (.int .i64 v.1)):=(hB.trans (hQ.below (by omega) hB.size)).setCell (p:=⟨w.heap.size+1+1,7,none⟩) (by show w.heap.size<=w.heap.size+1+1;omega) _;have HH:=Zh (And.intro hR2 (And.intro hA2 (And.intro hq2 hB2)));clear hR2 hA2 hq2 hB2 hQ hR hC hq hB hC1 HG;go_wp2;go_roundw
    case rel=>exact⟨k+1,by omega,by go_num,HN.out,by rw[HT.out];exact HH.out.1,by rw[HT.out];exact HH.out.2.1,HH.out.2.2.1,HH.out.2.2.2⟩
    case measure=>simp[intOf];omega
   ·have hT:cTk 115 x.1 x.2=({ x.1 with set:=(Cf Ac.ok Eg (Ow x.2)).1 },(Ow x.2).2):=rfl
    have hO:Ai7 115 x.2=((Cf Ac.ok Eg (Ow x.2)).2==0):=rfl;have hG:=Ye (w.heap.size+1) x.2 wr hR;rw[hO]at HN2 HN3;generalize Cf Ac.ok Eg (Ow x.2)=v at *;generalize (Ow x.2).2=r2 at *;have HG:=Zh hG;have HT:=Zh (HS.out.trans hT);clear hG hT hO HN1 HS;go_wp2_with fail;refine HG.out.mono ?_
    rintro e w4 ⟨rfl,hQ⟩;unfold Qu;have hX:=Blk.new w4 34 v.1.vals;have hX4:=(Below.refl w4.heap.size w4).alloc (Nat.le_refl _) (.cells v.1.vals.toArray 34);have hC1:Blk (w4.alloc (.cells v.1.vals.toArray 34)) (w.heap.size+1+1) 36 x.1.vals:=(hQ.keeps hC hgb).alloc _;have hq1:Blk (w4.alloc (.cells v.1.vals.toArray 34)) w.heap.size 36 Aw.vals:=(hQ.keeps hq hgq).alloc _;have hr:rowOf (w4.alloc (.cells v.1.vals.toArray 34)) w4.heap.size 0 10=some v.1.vals.toArray:=hX.row 0 10 (by simp[Ac.len]);have hB1:Below w.heap.size w (w4.alloc (.cells v.1.vals.toArray 34)):=(hB.trans (hQ.below (by omega) hB.size)).alloc (Nat.le_trans hB.size hQ.2.size) _;have hR1:=hQ.1.stays hX4;clear hX hX4 hQ hR hC hq hB HG;by_cases hok:v.2=0
    ·have HN:=Zh (HN2.out (by rw[hok];rfl))
     have hA2:Blk ((w4.alloc (.cells v.1.vals.toArray 34)).setCells (w.heap.size+1+1) 9 v.1.vals) (w.heap.size+1+1) 36 ({ x.1 with set:=v.1 }:Call).vals:=hC1.Ml v.1.vals _ 9;have hR2:RdF ((w4.alloc (.cells v.1.vals.toArray 34)).setCells (w.heap.size+1+1) 9 v.1.vals) (w.heap.size+1) r2:=hR1.Ak (Touch.setCells (F:=fun k=>k=w.heap.size+1+1) (g:=w.heap.size+1+1) (.inl rfl) v.1.vals 9 _ (Touch.refl _ _)) (by omega);have hq2:Blk ((w4.alloc (.cells v.1.vals.toArray 34)).setCells (w.heap.size+1+1) 9 v.1.vals) w.heap.size 36 Aw.vals:=Blk.Fk (by omega) v.1.vals 9 _ hq1;have hB2:Below w.heap.size w ((w4.alloc (.cells v.1.vals.toArray 34)).setCells (w.heap.size+1+1) 9 v.1.vals):=hB1.trans ((Touch.setCells (F:=fun k=>k=w.heap.size+1+1) (g:=w.heap.size+1+1) (.inl rfl) v.1.vals 9 _ (Touch.refl _ _)).below (fun k _ hk=>by omega) hB1.size);have HH:=Zh (And.intro hR2 (And.intro hA2 (And.intro hq2 hB2)));clear hR2 hA2 hq2 hB2 hR1 hq1 hB1 HN2 HN3;obtain⟨w5,hw5⟩:∃w5,w5=((w4.alloc (.cells v.1.vals.toArray 34)).setCells (w.heap.size+1+1) 9 v.1.vals):=⟨_,rfl⟩;rw[<-hw5]at HH;have HW5:=Zh hw5;clear hw5;rw[hok];have tok:True:=trivial
     go_wp2_with (first
      |(clear tok;refine Dh (by rfl) (by rfl) 34 (by rfl) _ _ (by rfl) v.1.vals Abf (by rfl) (by rfl) (Ac.one _) (by rfl) (by rfl) ?_)
      |(refine Ax (by rfl) 34 _ _ (by rfl) (w.heap.size+1+1) 9 v.1.vals _ hC1 (by simp[Ac.len,Call.len]) (by rfl) (by rfl) (by kernel_rfl) (Ac.one _) ?_;rw[<-HW5.out])
      |fail)
     go_roundw
     case rel=>exact⟨k+1,by omega,by go_num,HN.out,by rw[HT.out];exact HH.out.1,by rw[HT.out];exact HH.out.2.1,HH.out.2.2.1,HH.out.2.2.2⟩
     case measure=>simp[intOf];omega
    ·have hok2:(v.2 != 0)=true:=by simpa using hok
     have HV:=Zh (HN3.out (beq_false_of_ne hok) trivial);have HB1:=Zh hB1;clear HN2 HN3 hR1 hB1 hC1 hr hok;have tok:True:=trivial
     go_wp2_with (first
      |(clear tok;refine Dh (by rfl) (by rfl) 34 (by rfl) _ _ (by rfl) v.1.vals Abf (by rfl) (by rfl) (Ac.one _) (by rfl) (by rfl) ?_)
      |(refine Ae (by rfl) 36 _ _ (by rfl) w.heap.size Aw.vals _ hq1 (by rfl) (by rfl) (by rfl) (by kernel_rfl) (Call.one _) ?_)
      |fail)
     exact Ap w.heap.size 0 Aw.vals (.bool false) Tryz.results26 Tryz.underlying36 rfl (by kernel_rfl) rfl rfl (hq1.whole (by rfl)).range rfl ⟨by rw[HV.out],Below.Bf HB1.out (Nat.le_refl _) _⟩
   ·have hT:cTk 103 x.1 x.2=({ x.1 with guard:=D1 (Fp x.2).1 },(Fp x.2).2):=rfl
    have hG:=It (w.heap.size+1) x.2 wr hR;generalize Fp x.2=v at *;have HG:=Zh hG;have HT:=Zh (HS.out.trans hT);have HN:=Zh (HN1.out (by decide));clear hG hT HN1 HN2 HN3 HS;go_wp2_with fail;refine HG.out.mono ?_
    rintro e w4 ⟨rfl,hQ⟩;have hC1:=hQ.keeps hC hgb;have hq1:=hQ.keeps hq hgq;have hB1:=hB.trans (hQ.below (by omega) hB.size);have hA2:Blk (w4.setCells (w.heap.size+1+1) 19 (Dj v.1)) (w.heap.size+1+1) 36 ({ x.1 with guard:=D1 v.1 }:Call).vals:=hC1.Ml (Dj v.1) _ 19;have hR2:RdF (w4.setCells (w.heap.size+1+1) 19 (Dj v.1)) (w.heap.size+1) v.2:=hQ.1.Ak (Touch.setCells (F:=fun k=>k=w.heap.size+1+1) (g:=w.heap.size+1+1) (.inl rfl) (Dj v.1) 19 _ (Touch.refl _ _)) (by omega);have hq2:Blk (w4.setCells (w.heap.size+1+1) 19 (Dj v.1)) w.heap.size 36 Aw.vals:=Blk.Fk (by omega) (Dj v.1) 19 _ hq1;have hB2:Below w.heap.size w (w4.setCells (w.heap.size+1+1) 19 (Dj v.1)):=hB1.trans ((Touch.setCells (F:=fun k=>k=w.heap.size+1+1) (g:=w.heap.size+1+1) (.inl rfl) (Dj v.1) 19 _ (Touch.refl _ _)).below (fun k _ hk=>by omega) hB1.size);have HH:=Zh (And.intro hR2 (And.intro hA2 (And.intro hq2 hB2)));clear hR2 hA2 hq2 hB2 hQ hR hC hq hB hq1 hB1 HG;obtain⟨w5,hw5⟩:∃w5,w5=(w4.setCells (w.heap.size+1+1) 19 (Dj v.1)):=⟨_,rfl⟩;rw[<-hw5]at HH;have HW5:=Zh hw5;clear hw5
    go_wp2_with (first|(refine Ax (by rfl) 32 _ _ (by rfl) (w.heap.size+1+1) 19 (Dj v.1) _ hC1 (by simp[Dj,Call.len]) (by rfl) (by rfl) (by kernel_rfl) (Iu _) ?_;rw[<-HW5.out])|fail)
    go_roundw
    case rel=>exact⟨k+1,by omega,by go_num,HN.out,by rw[HT.out];exact HH.out.1,by rw[HT.out];exact HH.out.2.1,HH.out.2.2.1,HH.out.2.2.2⟩
    case measure=>simp[intOf];omega
  ·obtain rfl:k=l.length:=by omega
   have hE:=A6.err hR;have rC:rowOf wr (w.heap.size+1+1) 0 24=some (cSt l z ⟨s,0⟩ l.length).1.vals.toArray:=hC.row 0 24 (by simp[Call.len]);have HNO:=Zh (fun j (hj:j<l.length)=>hno j hj hj);generalize cSt l z ⟨s,0⟩ l.length=x at *;have HR:=Zh hR;have hltC:=hC.lt;clear hno hR hlet;by_cases he:x.2.e=0
   ·rw[he]at hE
    by_cases hz:0<J9 x.2
    ·have HV:=Zh (HD.out.trans (if_neg fun h=>h.2.2 hz))
     clear HD HNO hC;go_wp2_with fail;refine(Ra (w.heap.size+1) x.2 _ HR.out).mono ?_
     rintro e w4 ⟨rfl,hb4⟩;have hq4:=hq.stays hb4;have HB4:=Zh (Ad hB hb4);clear hq hB hb4 rC
     go_wp2_with (first|(refine Ae (by rfl) 36 _ _ (by rfl) w.heap.size Aw.vals _ hq4 (by rfl) (by rfl) (by rfl) (by kernel_rfl) (Call.one _) ?_)|fail)
     exact Ap w.heap.size 0 Aw.vals (.bool false) Tryz.results26 Tryz.underlying36 rfl (by kernel_rfl) rfl rfl (hq4.whole (by rfl)).range rfl ⟨by rw[HV.out],Below.Bf HB4.out (Nat.le_refl _) _⟩
    ·have HV:=Zh (HD.out.trans (if_pos ⟨HNO.out,he,hz⟩))
     clear HD HNO;go_wp2_with fail;refine(Ra (w.heap.size+1) x.2 _ HR.out).mono ?_
     rintro e w4 ⟨rfl,hb4⟩;have hq4:=hq.stays hb4;have rC4:rowOf w4 (w.heap.size+1+1) 0 24=some x.1.vals.toArray:=(hC.stays hb4).row 0 24 (by simp[Call.len]);have HB4:=Zh (Ad hB hb4);clear hq hB hb4 rC hC
     go_wp2_with (first|(refine Ae (by rfl) 36 _ _ (by rfl) w.heap.size x.1.vals _ hq4 (by rfl) (by rfl) (by rfl) (by kernel_rfl) (Call.one _) ?_)|fail)
     exact Ap w.heap.size 0 x.1.vals (.bool true) Tryz.results26 Tryz.underlying36 rfl (by kernel_rfl) rfl rfl (hq4.whole (by rfl)).range rfl ⟨by rw[HV.out],Below.Bf HB4.out (Nat.le_refl _) _⟩
   ·have he2:(x.2.e != 0)=true:=by simpa using he
    have HV:=Zh (HD.out.trans (if_neg fun h=>he h.2.1));have HB4:=Zh hB;clear HD HNO hC hB rC
    go_wp2_with (first|(refine Ae (by rfl) 36 _ _ (by rfl) w.heap.size Aw.vals _ hq (by rfl) (by rfl) (by rfl) (by kernel_rfl) (Call.one _) ?_)|fail)
    exact Ap w.heap.size 0 Aw.vals (.bool false) Tryz.results26 Tryz.underlying36 rfl (by kernel_rfl) rfl rfl (hq.whole (by rfl)).range rfl ⟨by rw[HV.out],Below.Bf HB4.out (Nat.le_refl _) _⟩
end
end Go.Proofs.YtfjflkmhhbhceaaGreatDoor
