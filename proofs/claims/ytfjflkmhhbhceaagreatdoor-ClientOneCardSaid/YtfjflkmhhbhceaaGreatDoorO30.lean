/-
  Layer 33, walks: a client is asked. Condition: numbers within their bounds.
-/
import Derived.Test.YtfjflkmhhbhceaaGreatDoorO29
import Derived.Test.YtfjflkmhhbhceaaGreatDoorO27
import Derived.Test.YtfjflkmhhbhceaaGreatDoorO12
import Derived.Deep.CutRange
import Derived.Test.YtfjflkmhhbhceaaGreatDoorO28
import Derived.Test.YtfjflkmhhbhceaaGreatDoorO13
import Derived.Test.YtfjflkmhhbhceaaGreatDoorO05
import Derived.StillTailTactics
set_option maxRecDepth 20000
set_option maxHeartbeats 40000000
namespace Go.Proofs.YtfjflkmhhbhceaaGreatDoor
open Go.RowKit
attribute [local go_sem ↓] Go.wp_at_zero Go.wp_at_succ
attribute [local go_sem] Ai Ag Af Ab Aj
section
attribute [local go_sem ↓] F1 D6 L6
attribute [local go_sem] Bv Bj Cc Bu Cd Cj Cm C2 Bc Az B7 C5 Bi C6 Bp Dt C8 C7 Dz D5 Cy
attribute [local go_sem low] Cr
attribute [local go_sem] F4 Call.len Ask.len D0 Nr
def Aov (g:Nat):Prop:=∀(F:Nat->Prop) (w:World) (c:ClD) (z:Di) (l:List Bz),D3 F w g c z l->Ds c->Ry F w->c.recs.length<=1000000->∀step now:Int,Fo now=true ->
 Calls Tryz.prog 38 #[.pointer (some ⟨g,0,none⟩),.int .i64 step,.int .i64 now] w (Uk F g (c.next step now).1 (c.next step now).2 w)
def Aiq (F:Nat->Prop)(g:Nat)(r:ClD × List B3 × Int)(w:World)(e:Ending)(w':World):Prop:=
 ∃v,e=.returned (.tuple #[v,.int .i64 r.2.2])/\As w' w.heap.size 40 3 v (r.2.1.map B3.vals)/\(∃G z l,D3 G w' g r.1 z l/\∀k,G k->F k\/w.heap.size<=k)/\Touch F w w'
theorem Ail (F:Nat->Prop)(w:World)(g:Nat)(c:ClD)(z:Di)(l:List Bz)(hC:D3 F w g c z l)(a:Ask)(step now:Int)(hb:c.busy=true) :
  Calls Tryz.prog 11 #[.pointer (some ⟨g,0,none⟩),.agg a.vals.toArray,.int .i64 step,.int .i64 now] w (Aiq F g (c.ask a step now) w):=by
 have HQ:=Zh (show c.ask a step now=(c,[],34) by unfold ClD.ask;rw[if_pos hb]);have hB:Below w.heap.size w (w.alloc (.cells a.vals.toArray 38)):=(Below.refl _ _).alloc (Nat.le_refl _) _;have hC1:=hC.below hB;have c49:(w.alloc (.cells a.vals.toArray 38)).cell? ⟨g,49,none⟩=some (.bool true):=by
  rw[hC1.blk.cell 49,<-hb,<-hC.is.busy];rfl
 have HC1:=Zh hC1;have HB:=Zh hB;obtain⟨w1,hw1⟩:∃V,V=w.alloc (.cells a.vals.toArray 38):=⟨_,rfl⟩;rw[<-hw1]at c49 HC1 HB;have HW:=Zh hw1;have HF:=Zh hC.lt;clear hC hC1 hB hb hw1;go_enter Tryz.func11,Tryz.ntmps11
 go_upto_region 1 with fail;change Code.wp _ _ _ _ (w.alloc (.cells a.vals.toArray 38));rw[<-HW.out];go_wp2;go_ret2
 rw[HQ.out];exact⟨_,rfl,As.none_,⟨F,z,l,HC1.out,fun k hk=>.inl hk⟩,Touch.Aq HB.out _⟩
theorem Ard (F:Nat->Prop)(w:World)(g:Nat)(c:ClD)(z:Di)(l:List Bz)(KN:Aov g)(hC:D3 F w g c z l)(hG:Ds c)(hL:Ry F w)(hrl:c.recs.length<=1000000)(a:Ask)(hg:Hk a.call)(step now:Int)(hb:c.busy=false) :
  Calls Tryz.prog 11 #[.pointer (some ⟨g,0,none⟩),.agg a.vals.toArray,.int .i64 step,.int .i64 now] w (Aiq F g (c.ask a step now) w):=by
 have bA:=Blk.new w 38 a.vals;have hB:Below w.heap.size w (w.alloc (.cells a.vals.toArray 38)):=(Below.refl _ _).alloc (Nat.le_refl _) _;have hC1:=hC.below hB;obtain⟨w1,hw1⟩:∃V,V=w.alloc (.cells a.vals.toArray 38):=⟨_,rfl⟩;rw[<-hw1]at bA hB hC1;have c49:w1.cell? ⟨g,49,none⟩=some (.bool false):=by
  rw[hC1.blk.cell 49,<-hb,<-hC.is.busy];rfl
 have rA:rowOf w1 w.heap.size 0 30=some a.vals.toArray:=bA.row 0 30 (by rw[Ask.len];omega);have HW:=Zh hw1;have HBusy:=Zh hb;have HF:=Zh hC.lt;have KQ:=Zh (fun W=>Af1 a W);have HC1:=Zh hC1;have HB:=Zh hB;have HA:=Zh bA;clear hw1 hC hC1 hB bA;go_enter Tryz.func11,Tryz.ntmps11
 go_upto_region 1 with fail;change Code.wp _ _ _ _ (w.alloc (.cells a.vals.toArray 38));rw[<-HW.out];go_wp2_with fail;refine(KQ.out _).mono ?_
 rintro e w2 ⟨A,cq,rfl,hAt,hb2⟩;obtain⟨⟨x,pl,isq⟩,hq⟩:∃q,q=Bq a:=⟨_,rfl⟩;rw[<-hq]at hAt;have hpl:pl.length<=1000:=by
  have h1:(Bq a).2.1.length<=3:=by
   unfold Bq
   repeat' split
   all_goals (first|exact Nat.le_refl 3|(show _<=3;decide)|exact Nat.le_of_ble_eq_true rfl)
  rw[<-hq]at h1;exact Nat.le_trans h1 (by decide)
 have HM:=Zh (show Pe a step now=(isq && decide (1<=step) && Fo now && pl.all Dr && Ac4 a && decide (Ev x=0)) by unfold Pe;rw[<-hq]);have HQ:=Zh hq;have hb3:Below w2.heap.size w2 (w2.alloc (.cells x.vals.toArray 36)):=(Below.refl _ _).alloc (Nat.le_refl _) _;have bX:=Blk.new w2 36 x.vals;obtain⟨w3,hw3⟩:∃V,V=w2.alloc (.cells x.vals.toArray 36):=⟨_,rfl⟩;rw[<-hw3]at hb3 bX;have hA3:=HA.out.stays (hb2.trans (hb3.mono hb2.size));have hC3:=HC1.out.below (hb2.trans (hb3.mono hb2.size));have hAt3:=Zh (hAt.below hb3);have HB3:=Zh (Ad HB.out (hb2.trans (hb3.mono hb2.size)));have HC3:=Zh hC3;have HA3:=Zh hA3;have HX3:=Zh bX;have hl2:=Zh (show w.heap.size<w2.heap.size from Nat.lt_of_lt_of_le HA.out.lt hb2.size);rw[<-hq];simp only
 have HW3:=Zh hw3;clear hw3 hq hb2 hb3 bX hA3 hC3 hAt c49 rA HC1 HA
 go_upto_region 6 with fail;change Code.wp _ _ _ _ (w2.alloc (.cells x.vals.toArray 36));rw[<-HW3.out];have c4:w3.cell? ⟨w.heap.size,4,none⟩=some (.int .i64 a.uid):=HA3.out.cell 4;have c5:w3.cell? ⟨w.heap.size,5,none⟩=some (.int .i64 a.gid):=HA3.out.cell 5;have rX:rowOf w3 w2.heap.size 0 24=some x.vals.toArray:=HX3.out.row 0 24 (by rw[Call.len];omega);have KC:=Zh (fun W=>Tt x W);have KT:=Zh (fun W=>Ada A cq pl W hpl);generalize Ev x=ck at *;generalize pl.all Dr=pa at *;generalize htm:Fo now=tm at *;cases isq
 case false=>
  have HM0:=Zh (show c.ask a step now=(c,[],2) by unfold ClD.ask;rw[if_neg (by rw[HBusy.out];decide),if_pos (by rw[HM.out];rfl)]);go_wp2;go_ret2
  rw[HM0.out];exact⟨_,rfl,As.none_,⟨F,z,l,HC3.out,fun k hk=>.inl hk⟩,Touch.Aq HB3.out _⟩
 case true=>
 go_cut [66] from 26 to 65 (fun v wx=>v=.bool (!Pe a step now)/\Below w3.heap.size w3 wx)
 case first=>
  go_wp2_with (first
   |(go_at_call 34;refine(Vb now _).mono ?_;rintro e wt ⟨rfl,hwt⟩;rw[hwt,htm];clear hwt)
   |(go_at_call 35;refine(KT.out _ hAt3.out).mono ?_;rintro e wt ⟨rfl,hwt⟩;rw[hwt];clear hwt)
   |(go_at_call 36;refine(KC.out _).mono ?_;rintro e wk ⟨rfl,hbk⟩)
   |fail)
  all_goals go_meet
  all_goals
   rw[HM.out];refine⟨congrArg Value.bool ?_,?_⟩
   ·unfold Ac4
    clear HW HF KQ HB HM HQ HB3 HC3 HA3 HX3 hl2 HW3 KC KT hAt3
    grind
   ·first|exact Below.refl _ _|assumption
 case rest=>
 obtain⟨rfl,hbc⟩:=hcut;have HC4:=Zh (HC3.out.below hbc);have HA4:=Zh (HA3.out.stays hbc);have HX4:=Zh (HX3.out.stays hbc);have HB4:=Zh (Ad HB3.out hbc);clear hbc c4 c5 rX KC KT hAt3 HC3 HA3 HX3 HB3 HM;cases hm:Pe a step now
 case false=>
  have HM0:=Zh (show c.ask a step now=(c,[],2) by unfold ClD.ask;rw[if_neg (by rw[HBusy.out];decide),if_pos hm]);go_wp2;go_ret2
  rw[HM0.out];exact⟨_,rfl,As.none_,⟨F,z,l,HC4.out,fun k hk=>.inl hk⟩,Touch.Aq HB4.out _⟩
 case true=>
 have KP:=Zh (Ag2 F wc g c z l HC4.out hG a hg step now hm);have rA:rowOf wc w.heap.size 0 30=some a.vals.toArray:=HA4.out.row 0 30 (by rw[Ask.len];omega);have rX:rowOf wc w2.heap.size 0 24=some (Bq a).1.vals.toArray:=by
  rw[<-HQ.out];exact HX4.out.row 0 24 (by rw[Call.len];omega)
 have HMay:=Zh hm;clear hm;go_wp2_with fail;refine KP.out.mono ?_
 rintro e w4 ⟨v,rfl,hrow,⟨z4,hC4⟩,ht4⟩;obtain⟨q1,q2⟩:=Arp hG hg HMay.out;generalize hpp:c.Gu a (Bq a).1=pp at *;obtain⟨c1,ps⟩:=pp;simp only at hrow hC4 q1 q2
 obtain⟨A4,cap4,rfl,-⟩:=hrow.at_;rw[List.length_map]at hrow ⊢;have d19:w4.cell? ⟨g,19,none⟩=some (.slice z4.ta z4.tn z4.tc):=hC4.blk.cell 19;have f19:=hC4.blk.frozen 19;have HP4:=Zh hpp;have HR4:=Zh hrow;have HC5:=Zh hC4;have HT4:=Zh ht4;have HQ1:=Zh (And.intro q1 q2);clear hpp hrow hC4 ht4 q1 q2 rX rA KP HX4
 go_upto_region 9 with fail;have hg4:g<w4.heap.size:=HC5.out.blk.lt;have hgF:=HF.out g HC5.out.fg;have hBw:w.heap.size<=wc.heap.size:=HB4.out.size;have hng:∀k,(Value.slice A4 ps.length cap4).ownBlock=some k->k≠g:=fun k hk e=>by have:=(HR4.out.lt k hk).1;omega
 obtain⟨w5,hw5⟩:∃V,V=w4.setCell ⟨g,19,none⟩ (.slice A4 ps.length cap4):=⟨_,rfl⟩;rw[<-hw5];have ht5:Touch (fun k=>k=g) w4 w5:=by rw[hw5];exact(Touch.refl (fun k=>k=g) w4).setCell (p:=⟨g,19,none⟩) (.inl rfl) _
 have hR5:As w5 wc.heap.size 91 29 (.slice A4 ps.length cap4) (ps.map Bm.vals):=HR4.out.Ak ht5 fun k hk e=>hng k hk e
 have b5:Blk w5 g 93 (z4.vals.set 19 (.slice A4 ps.length cap4)):=by rw[hw5];exact HC5.out.blk.Be 19 _
 rw[Ts]at b5;have e19:w5.cell? ⟨g,19,none⟩=some (.slice A4 ps.length cap4):=b5.cell 19;have hA5:Blk w5 w.heap.size 38 a.vals:=by
  have h1:=HA4.out.Ak HT4.out (by omega);exact h1.Ak ht5 (by omega)
 have hAlt:=hA5.lt;have hAn:∀k,(Value.slice A4 ps.length cap4).ownBlock=some k->k≠w.heap.size:=fun k hk e=>by
  have h1:=Ri hR5.2 k hk;obtain⟨C,hC⟩:=h1;rw[e]at hC;have h2:w5.heap[w.heap.size]?=some (.cells a.vals.toArray 38 (0,0)):=hA5;rw[h2]at hC;injection hC with hC;injection hC with _ hC;exact absurd hC (by decide)
 have HR5:=Zh hR5;have HB5:=Zh b5;have HA5:=Zh hA5;have HW5:=Zh hw5;have HNG:=Zh hng;have HAN:=Zh hAn;have hg5:g<w5.heap.size:=b5.lt;have hps:ps.length<=9223372036854775807:=by
  have:=hR5.le;rw[List.length_map]at this;exact this
 clear d19 f19 hw5 ht5 hR5 b5 hA5 hng hAn hg4 hgF hBw;go_wp2
 go_loopw [79] (fun i wr=>∃k:Nat,k<=ps.length/\i=.int .i64 k/\As wr wc.heap.size 91 29 (.slice A4 ps.length cap4) ((Zw a k ps).map Bm.vals)/\Touch (fun j=>(Value.slice A4 ps.length cap4).ownBlock=some j) w5 wr) (fun i _=>ps.length - (intOf i).toNat)
 case atStart=>exact⟨0,Nat.zero_le _,rfl,by rw[Ajg];exact HR5.out,Touch.refl _ _⟩
 case round=>
  obtain⟨k,hk,rfl,hR,hT⟩:=hrel;by_cases hlt:k<ps.length
  ·obtain⟨pre,post,hpre,hparts,hnext⟩:=Agb a hlt
   obtain⟨b,rfl⟩:∃b,A4=some ⟨b,0,none⟩:=by
    rcases hR.2.2 with ⟨h1,h2⟩|⟨g',cap',cur,h1,_⟩
    ·rw[List.length_map,Ac8]at h2;omega
    ·injection h1 with h1 _ _
     exact⟨g',h1⟩
   have hbg:b≠g:=HNG.out b rfl;have hba:b≠w.heap.size:=HAN.out b rfl;have k19:wr.cell? ⟨g,19,none⟩=some (.slice (some ⟨b,0,none⟩) ps.length cap4):=(hT.cell (p:=⟨g,19,none⟩) hg5 (fun e=>hbg (by injection e))).trans e19;have k4:wr.cell? ⟨w.heap.size,4,none⟩=some (.int .i64 a.uid):=(hT.cell (p:=⟨w.heap.size,4,none⟩) hAlt (fun e=>hba (by injection e))).trans (HA5.out.cell 4);have k5:wr.cell? ⟨w.heap.size,5,none⟩=some (.int .i64 a.gid):=(hT.cell (p:=⟨w.heap.size,5,none⟩) hAlt (fun e=>hba (by injection e))).trans (HA5.out.cell 5);have hth:=hR.Ao2 (by rw[List.length_map,Ac8]) (k*29+27) 2 (by omega);obtain⟨y27,h27⟩:=Option.isSome_iff_exists.1 (hth 0 (by omega)).1;obtain⟨y28,h28⟩:=Option.isSome_iff_exists.1 (hth 1 (by omega)).1;have f27:=(hth 0 (by omega)).2;have f28:=(hth 1 (by omega)).2;have hk0:(0:Int)<=(k:Int):=Int.natCast_nonneg _;have hk1:(k:Int)<(ps.length:Int):=by omega
   have hkw:IntKind.i64.wrap ((k:Int)+1)=((k+1:Nat):Int):=by rw[IntWalk.i64_in _ (by omega)];omega
   have n1:g≠b:=Ne.symm hbg;have n2:w.heap.size≠b:=Ne.symm hba;have HRk:=Zh (And.intro hR (And.intro hT (And.intro hpre (And.intro hparts hnext))));clear hR hT hpre hparts hnext hth e19;go_wp2;go_region;go_wp2;go_roundw
   case rel=>
    obtain⟨hR,hT,hpre,hparts,hnext⟩:=HRk.out;refine⟨k+1,by omega,by go_num,?_,?_⟩
    ·rw[hparts]at hR
     have h1:=hR.Arz a;rw[hpre,<-hnext]at h1;exact h1
    ·exact((hT.setCell (p:=⟨b,k*29+27,none⟩) (.inl rfl) _).setCell (p:=⟨b,k*29+28,none⟩) (.inl rfl) _).drew
   case measure=>simp[intOf];omega
  ·obtain rfl:k=ps.length:=by omega
   rw[Al0 a ps (Nat.le_refl _),<-List.length_map (f:=Un a)]at hR;rw[HW5.out]at hT;have hR4:=HR4.out;rw[<-List.length_map (f:=Un a)]at hR4 hT;obtain⟨hC6,hT6⟩:=HC5.out.Ams HF.out ((Touch.Aq HB4.out _).Ay HT4.out) HB4.out.size hR4 hR hT;have hL6:Ry (fun k=>F k\/(w.heap.size<=k/\k<wr.heap.size)) wr:=by
    obtain⟨w0,h1,h2,h3⟩:=hL;refine⟨w0,h1,h2.trans (hT6.below (fun k _ hk=>h3 k hk) h2.size),fun k hk=>?_⟩
    rcases hk with hk|hk
    ·exact h3 k hk
    ·have:=h2.size;omega
   obtain⟨q1,q2⟩:=HQ1.out;have hG6:Ds { c1 with parts:=ps.map (Un a) }:=⟨q1.len,q1.ps,fun p hp=>by
    obtain⟨q,hq,rfl⟩:=List.mem_map.1 hp;exact⟨(q2 q hq).call,(q2 q hq).proc,(q2 q hq).dir,(q2 q hq).to_,(q2 q hq).put⟩,q1.now,q1.made⟩
   have hr6:c1.recs=c.recs:=by
    have h1:=(c.Te a (Bq a).1).2.1;rw[HP4.out]at h1;exact h1
   have KN6:=Zh (KN _ wr { c1 with parts:=ps.map (Un a) } _ l hC6 hG6 hL6 (by show c1.recs.length<=_;rw[hr6];exact hrl) step now (by
    have:=HMay.out;simp only[Pe,Bool.and_eq_true]at this;exact this.1.1.1.2))
   have HT6:=Zh hT6;have HAsk:=Zh (show c.ask a step now=((({ c1 with parts:=ps.map (Un a) }:ClD).next step now).1,(({ c1 with parts:=ps.map (Un a) }:ClD).next step now).2,0) by
    unfold ClD.ask;rw[if_neg (by rw[HBusy.out];decide),if_neg (by rw[HMay.out];decide),HP4.out]
    rfl)
   clear hR hT hR4 hC6 hT6 hL6 hG6 hr6 q1 q2;go_wp2_with fail;refine KN6.out.mono ?_
   rintro e w6 ⟨v,rfl,hrow6,⟨G',z',l',hC',hG'⟩,ht6⟩;have HE:=Zh (And.intro hrow6 (And.intro hC' (And.intro hG' ht6)));clear hrow6 hC' hG' ht6;go_wp2;go_ret2
   rw[HAsk.out];obtain⟨e1,e2,e3,e4⟩:=HE.out;have hsz:=HT6.out.size;refine⟨v,rfl,e1.base hsz,⟨G',z',l',e2,fun k hk=>?_⟩,HT6.out.trans e4 fun i hi hk=>?_⟩
   ·rcases e3 k hk with (h|h)|h
    ·exact .inl h
    ·exact .inr h.1
    ·exact .inr (by omega)
   ·rcases hk with h|h
    ·exact h
    ·omega
theorem Abq (F:Nat->Prop)(w:World)(g:Nat)(c:ClD)(z:Di)(l:List Bz)(KN:Aov g)(hC:D3 F w g c z l)(hG:Ds c)(hL:Ry F w)(hrl:c.recs.length<=1000000)(a:Ask)(hg:Hk a.call)(step now:Int) :
  Calls Tryz.prog 11 #[.pointer (some ⟨g,0,none⟩),.agg a.vals.toArray,.int .i64 step,.int .i64 now] w (Aiq F g (c.ask a step now) w):=by
 cases hb:c.busy
 ·exact Ard F w g c z l KN hC hG hL hrl a hg step now hb
 ·exact Ail F w g c z l hC a step now hb
end
theorem Zk (F:Nat->Prop)(w:World)(g:Nat)(c:ClD)(z:Di)(l:List Bz)(hC:D3 F w g c z l):Calls Tryz.prog 16 #[.pointer (some ⟨g,0,none⟩)] w fun e w'=>e=.returned (.bool c.busy)/\w'=w:=by
 have c49:w.cell? ⟨g,49,none⟩=some (.bool c.busy):=by rw[hC.blk.cell 49,<-hC.is.busy];rfl
 generalize c.busy=b at *;clear hC;go_enter Tryz.func16,Tryz.ntmps16
 go_wp2;go_ret;exact⟨rfl,rfl⟩
section
theorem T1 (x:Entry):Da 15 (.agg x.vals.toArray)=true:=by
 obtain⟨_,_,_,⟨_,⟨⟩⟩,_⟩:=x;rfl
theorem Vj (w:World)(T:TypeId)(b:Nat)(x:Entry)(hb:b=w.heap.size):putsW (w.alloc (.cells #[.int .i64 0,.string ⟨#[]⟩,.int .i64 0,.bool false,.int .i64 0,.int .i64 0,.int .i64 0,.int .i64 0,.int .i64 0,.int .i64 0,.int .i64 0,.int .i64 0,.int .i64 0,.int .i64 0,.string ⟨#[]⟩] T)) b 0 x.vals=w.alloc (.cells x.vals.toArray T):=Cj w _ T b x.vals hb rfl
section
variable {ρ:Operand->Value} {w:World} {dst:Option Tmp} {ty:TypeId} {pos:String} {after:Array Edge} {g:Option (Nat × Bool)} {x y:Operand}
theorem Aan (hx:Dt (ρ x)=true)(hy:Da 15 (ρ y)=true)(ht:Ar w (C8 (ρ x)) (C7 (ρ x)) 15=true) :
  (execOp ρ ⟨dst,.store 126 x y,ty,pos,after,g⟩).run Tryz.prog w=.ok .skip (putsW w (C8 (ρ x)) (C7 (ρ x)) (ρ y).cells.toList):=Hh (by kernel_rfl) hx hy ht
end
attribute [local go_sem ↓] Le Ji Aan Abc Po
attribute [local go_sem] Bv Bj Cc Bu Cd Bp Cj Vj Dt C8 C7 Dz D5
attribute [local go_sem low] Cr
attribute [local go_sem] Aa.len Entry.len Ho T1
theorem X8 (r:Aa)(s:List UInt8):setAt r.vals 1 [.string (bs s)]=({ r with fh:=s }:Aa).vals:=by
 obtain⟨⟩:=r;rfl
theorem Lg (r z:Aa):setAt r.vals 0 z.vals=z.vals:=by
 have h:=J8 z.vals r.vals [] [] (by rw[Aa.len,Aa.len])
 simpa using h
def Aal (r:Aa):Aa:={ r with fh:=if r.fh=[] then r.fh else Ef r.obj.attr.gen }
theorem Agd (r:Aa)(d:Dd)(h:r.bare=d.f):(Aal r).bare=(Km d).f:=by
 have hf:r.fh=d.f.fh:=by rw[<-h];rfl
 have hg:r.obj=d.f.obj:=by rw[<-h];rfl
 show _=if d.f.fh=[] then d.f else { d.f with fh:=Ef d.f.obj.attr.gen }
 rw[<-h];unfold Aal;by_cases h0:r.fh=[]
 ·rw[if_pos (show r.bare.fh=[] from h0),if_pos h0]
 ·rw[if_neg (show ¬r.bare.fh=[] from h0),if_neg h0]
  rfl
structure Of (w:World) (r:Aa) (es:List Entry) (us:List Int) (W:World):Prop where
 a:Blk W w.heap.size 51 r.vals
 b:Blk W (w.heap.size+1) 51 Bt.vals
 e:As W (w.heap.size+2) 126 15 (.slice r.ea r.en r.ec) (es.map Entry.vals)
 u:As W (w.heap.size+2) 3 1 (.slice r.ua r.un r.uc) (us.map Fz)
 l:Below w.heap.size w W
section
variable {w W W':World} {r:Aa} {es:List Entry} {us:List Int}
theorem Of.below (h:Of w r es us W)(hb:Below W.heap.size W W'):Of w r es us W':=⟨h.a.stays hb,h.b.stays hb,h.e.stays hb,h.u.stays hb,Ad h.l hb⟩
theorem Of.fh (h:Of w r es us W)(s:List UInt8):Of w { r with fh:=s } es us (putsW W w.heap.size 1 [.string (bs s)]):=by
 have ht:Touch (fun k=>k=w.heap.size) W (putsW W w.heap.size 1 [.string (bs s)]):=(Touch.refl _ _).D2 (.inl rfl);have h1:=h.a.D2 1 [.string (bs s)];rw[X8]at h1;refine⟨h1,h.b.Jh (by omega),h.e.Ak ht fun k hk e=>?_,h.u.Ak ht fun k hk e=>?_,?_⟩
 ·have:=h.e.lt k hk;omega
 ·have:=h.u.lt k hk;omega
 ·rw[B9]
  exact Below.setCells (Nat.le_refl _) _ _ _ h.l
theorem Of.next {k:Nat}{l:List Entry}(h:Of w r (Om k l) us W)(hk:k<l.length){g:Nat}(hg:r.ea=some ⟨g,0,none⟩)(h0:l[k].fh≠[]):Of w r (Om (k+1) l) us (putsW W g (k*15+14) [.string (bs (Ef l[k].gen))]):=by
 have ht:Touch (fun j=>j=g) W (putsW W g (k*15+14) [.string (bs (Ef l[k].gen))]):=(Touch.refl _ _).D2 (.inl rfl);have he:=h.e;rw[hg]at he;have hgl:=he.lt g rfl;have hty:Touch (Gb W [126]) W (putsW W g (k*15+14) [.string (bs (Ef l[k].gen))]):=ht.mono fun j _ hj=>by
  subst hj;obtain⟨C,hC⟩:=Ri he.2 j rfl;exact⟨C,_,_,hC,by decide⟩
 refine⟨h.a.Jh (by omega),h.b.Jh (by omega),?_,h.u.tou hty (by decide),?_⟩
 ·rw[hg]
  have h1:=he;rw[S7 hk,List.map_append,List.map_cons]at h1;have h2:=As.Td (a:=l[k].vals.take 14) (m:=[.string (bs l[k].fh)]) (b:=[]) (r:=[.string (bs (Ef l[k].gen))]) (pre:=((l.take k).map Va).map Entry.vals) (post:=(l.drop (k+1)).map Entry.vals) (by
   rw[List.append_nil,show l[k].vals.take 14++[Value.string (bs l[k].fh)]=l[k].vals from rfl];exact h1) rfl (by
   have:=h1.lenOf;rw[List.append_nil,show l[k].vals.take 14++[Value.string (bs l[k].fh)]=l[k].vals from rfl];exact this)
  rw[List.length_map,List.length_map,List.length_take,Nat.min_eq_left (by omega),show (l[k].vals.take 14).length=14 from rfl,<-B9,List.append_nil]at h2;rw[Xx hk,List.map_append,List.map_cons,Ajk h0];exact h2
 ·rw[B9]
  exact Below.setCells (by omega) _ _ _ h.l
theorem Of.Ar2 {k:Nat}{l:List Entry}(h:Of w r (Om k l) us W)(hk:k<l.length)(h0:l[k].fh=[]):Of w r (Om (k+1) l) us W:=by
 rw[Xx hk,Al4 h0,<-S7 hk];exact h
end
theorem Age (x:Qv)(w:World)(hx:x.Kk w)(h1:x.es.length<=1000000)(h2:x.us.length<=1000000)(hg:x.r.obj.attr.gen<=9223372036854775807)(hgs:∀e∈x.es,e.gen<=9223372036854775807)(hL:G1 w) :
  Calls Tryz.prog 45 #[.agg x.r.vals.toArray] w fun e w'=>∃r:Aa,e=.returned (.agg r.vals.toArray)/\Ib w' (fun b=>w.heap.size<=b) r (Km ⟨x.r.bare,x.es,x.us⟩)/\Below w.heap.size w w':=by
 obtain⟨bA,bR,hB,hs⟩:=A7 w x.r.vals Bt.vals 51 51;obtain⟨w1,hw1⟩:∃V,V=(w.alloc (.cells x.r.vals.toArray 51)).alloc (.cells Bt.vals.toArray 51):=⟨_,rfl⟩;rw[<-hw1]at bA bR hB hs;have HW1:=Zh hw1;have HBA:=Zh bA;have HBR:=Zh bR;have HB:=Zh hB;have KC:=Zh (Zb x w1 (hx.below hB) h1 h2);have rA:rowOf w1 w.heap.size 0 58=some x.r.vals.toArray:=bA.row 0 58 (by rw[Aa.len];decide);have hs1:w1.heap.size=w.heap.size+2:=hs;clear hw1 bA bR hB hs;go_enter Tryz.func45,Tryz.ntmps45
 go_upto_region 1 with fail;change Code.wp _ _ _ _ ((w.alloc (.cells x.r.vals.toArray 51)).alloc (.cells Bt.vals.toArray 51));rw[<-HW1.out];go_wp2_with fail;refine KC.out.mono ?_
 rintro e w2 ⟨r,rfl,hbare,-,hE,hU,hb2⟩;have bA2:=HBA.out.stays hb2;have tA:=bA2.Ar 0 58 (by rw[Aa.len];decide);have HT2:=Zh (show Of w r x.es x.us (putsW w2 w.heap.size 0 r.vals) from by
  have ht:Touch (fun k=>k=w.heap.size) w2 (putsW w2 w.heap.size 0 r.vals):=(Touch.refl _ _).D2 (.inl rfl);have q1:=bA2.D2 0 r.vals;rw[Lg]at q1;have q2:=(HBR.out.stays hb2).Jh (b:=w.heap.size) (o:=0) (vs:=r.vals) (by omega);rw[hs1]at hE hU;refine⟨q1,q2,hE.Ak ht fun k hk e=>?_,hU.Ak ht fun k hk e=>?_,?_⟩
  ·have:=hE.lt k hk;omega
  ·have:=hU.lt k hk;omega
  ·rw[B9]
   exact Below.setCells (Nat.le_refl _) _ _ _ (Ad HB.out hb2))
 have HOb:=Zh (show r.obj=x.r.obj from congrArg Xo.obj hbare);have HBr:=Zh hbare;clear bA2 hE hU hb2 KC rA HBA HBR hbare HW1 HB
 go_upto_region 2 with fail;generalize putsW w2 w.heap.size 0 r.vals=w3 at *;have c1:w3.cell? ⟨w.heap.size,1,none⟩=some (.string (bs r.fh)):=HT2.out.a.cell 1;have c10:w3.cell? ⟨w.heap.size,10,none⟩=some (.int .i64 r.obj.attr.gen):=HT2.out.a.cell 10;clear tA;have KT:=Zh (R3 r.obj.attr.gen w3 (by rw[HOb.out];exact hg) (hL.below HT2.out.l));have tB:=Zh (fun V (hb:Below w3.heap.size w3 V)=>(HT2.out.a.stays hb).Ar 1 1 (by rw[Aa.len];decide));have HQ:=Zh (show Aal r=if (!r.fh.isEmpty)=true then { r with fh:=Ef r.obj.attr.gen } else r by
  unfold Aal;by_cases h0:r.fh=[]
  ·rw[if_pos h0,if_neg (by rw[h0];decide)]
  ·rw[if_neg h0,if_pos (by simpa using h0)])
 go_upto_if 9 with fail;generalize (!r.fh.isEmpty)=bm at *
 go_cut [] from 10 to 15 (fun wx=>Of w (Aal r) x.es x.us wx)
 case first=>
  cases bm
  case false=>
   go_wp2;go_meet
   case rel=>rw[HQ.out,if_neg (by decide)];exact HT2.out
  case true=>
   go_wp2_with fail;refine KT.out.mono ?_
   rintro e w4 ⟨rfl,hb4⟩;have t4:=tB.out _ hb4;have HB4:=Zh hb4;clear hb4 c1 c10;go_wp2;go_meet
   case rel=>rw[HQ.out,if_pos trivial];exact(HT2.out.below HB4.out).fh _
 case rest=>
 clear c1 c10 HT2;obtain⟨r2,hr2⟩:∃z,z=Aal r:=⟨_,rfl⟩;rw[<-hr2]at hcut;have HR2:=Zh hr2;have HC:=Zh hcut;have hen:r2.en=x.es.length:=by have:=hcut.e.lenOf;rwa [List.length_map]at this
 have c56:wc.cell? ⟨w.heap.size,56,none⟩=some (.slice r2.ea r2.en r2.ec):=hcut.a.cell 56;obtain⟨A,hA⟩:∃A,r2.ea=A:=⟨_,rfl⟩;rw[hen,hA]at c56;have HA:=Zh hA;clear hcut hr2 hA hen;go_wp2
 go_loopw [19] (fun i wr=>∃k:Nat,k<=x.es.length/\i=.int .i64 k/\Of w r2 (Om k x.es) x.us wr) (fun i _=>x.es.length - (intOf i).toNat)
 case atStart=>exact⟨0,Nat.zero_le _,rfl,by rw[Agc];exact HC.out⟩
 case round=>
  obtain⟨k,hk,rfl,hT⟩:=hrel;by_cases hlt:k<x.es.length
  ·have he:=hT.e
   obtain⟨g,rfl,hg2,hgw⟩:∃g,A=some ⟨g,0,none⟩/\w.heap.size+2<=g/\g<wr.heap.size:=by
    rw[HA.out]at he;rcases he.2.2 with ⟨h3,h4⟩|⟨g,cap,cur,h3,_⟩
    ·rw[List.length_map,Aak]at h4;omega
    ·injection h3 with h3 _ _
     exact⟨g,h3,he.lt g (by rw[h3];rfl)⟩
   have hea:=HA.out;have rE:rowOf wr g (k*15) 15=some x.es[k].vals.toArray:=by
    obtain⟨b2,o2,h3,h4,h5⟩:=he.rows k x.es[k].vals (by
     rw[S7 hlt,List.map_append,List.getElem?_append_right (by simp;omega)];simp[Nat.min_eq_left (Nat.le_of_lt hlt)]
     exact⟨_,List.getElem?_eq_getElem hlt,rfl⟩)
    rw[hea]at h3;injection h3 with h3;injection h3 with h6 h7 _;subst h6 h7;refine Mm (fun j u hu=>?_) (Entry.len _) (by decide)
    have h8:=h5 j u hu;rw[show 0+k*15+j=k*15+j by omega]at h8;exact h8
   have HG:=Zh (hgs _ (List.getElem_mem hlt));have HN:=Zh (fun (W:World) (hb:Below wr.heap.size wr W) (h0:x.es[k].fh≠[])=>(hT.below hb).next hlt hea h0);have HN0:=Zh (fun (W:World) (hb:Below wr.heap.size wr W) (h0:x.es[k].fh=[])=>(hT.below hb).Ar2 hlt h0);have HTh:=Zh (fun (W:World) (hb:Below wr.heap.size wr W)=>(show W.cell? ⟨w.heap.size,56,none⟩=some (.slice (some ⟨g,0,none⟩) x.es.length r2.ec)/\Ar W g (k*15+14) 1=true from by
    have h3:=hT.below hb;have h4:W.cell? ⟨w.heap.size,56,none⟩=some (.slice r2.ea r2.en r2.ec):=h3.a.cell 56;have h5:=h3.e;have h6:=h5.lenOf;rw[List.length_map,Aak]at h6;rw[hea,h6]at h4 h5;exact⟨h4,h5.Air _ _ (by omega)⟩))
   have HL4:=Zh (fun (W:World) (hb:Below wr.heap.size wr W)=>hL.below (Ad hT.l hb));generalize x.es[k]=ek at *;have hk0:(0:Int)<=(k:Int):=Int.natCast_nonneg _;have hk1:(k:Int)<(x.es.length:Int):=by omega
   have hkw:IntKind.i64.wrap ((k:Int)+1)=((k+1:Nat):Int):=by rw[IntWalk.i64_in _ (by omega)];omega
   have bE:=Blk.new wr 126 ek.vals;have hb5:Below wr.heap.size wr (wr.alloc (.cells ek.vals.toArray 126)):=(Below.refl _ _).alloc (Nat.le_refl _) _;obtain⟨w5,hw5⟩:∃V,V=wr.alloc (.cells ek.vals.toArray 126):=⟨_,rfl⟩;rw[<-hw5]at bE hb5;have HW5:=Zh hw5;have HB5:=Zh hb5;clear hw5 he hT hea hb5
   go_upto_region 7 with fail;change Code.wp _ _ _ _ (wr.alloc (.cells ek.vals.toArray 126));rw[<-HW5.out];have e0:w5.cell? ⟨wr.heap.size,0,none⟩=some (.int .i64 ek.gen):=bE.cell 0;have e14:w5.cell? ⟨wr.heap.size,14,none⟩=some (.string (bs ek.fh)):=bE.cell 14;have hl5:wr.heap.size<w5.heap.size:=bE.lt;clear rE bE;by_cases h0:ek.fh=[]
   ·have hie:ek.fh.isEmpty=true:=by rw[h0];rfl
    have HN1:=Zh (HN0.out w5 HB5.out h0);clear h0;go_wp2;go_roundw
    case rel=>exact⟨k+1,by omega,by go_num,HN1.out⟩
    case measure=>simp[intOf];omega
   ·have hie:ek.fh.isEmpty=false:=by simpa using h0
    have HN1:=Zh (fun W hb=>HN.out W hb h0);clear h0;have KT:=Zh (R3 ek.gen w5.drew HG.out (HL4.out _ HB5.out.drew));obtain⟨d56,dT⟩:=HTh.out w5.drew HB5.out.drew;have HS:=Zh (fun (W:World) (hb:Below wr.heap.size wr W) (hc:W.cell? ⟨wr.heap.size,0,none⟩=some (.int .i64 ek.gen)) (hl:wr.heap.size<W.heap.size)=>(show (putsW W g (k*15+14) [.string (bs (Ef ek.gen))]).cell? ⟨w.heap.size,56,none⟩=some (.slice (some ⟨g,0,none⟩) x.es.length r2.ec)/\(putsW W g (k*15+14) [.string (bs (Ef ek.gen))]).cell? ⟨wr.heap.size,0,none⟩=some (.int .i64 ek.gen)/\Ar (putsW W g (k*15+14) [.string (bs (Ef ek.gen))]) g (k*15+14) 1=true from
     ⟨(Az W w.heap.size 56 g _ _ (by omega) (by omega)).trans (HTh.out W hb).1,(Az W wr.heap.size 0 g _ _ (by omega) hl).trans hc,by rw[Bi];exact(HTh.out W hb).2⟩))
    go_wp2_with fail;go_region_held3 (fun V=>V.cell? ⟨w.heap.size,56,none⟩=some (.slice (some ⟨g,0,none⟩) x.es.length r2.ec)/\V.cell? ⟨wr.heap.size,0,none⟩=some (.int .i64 ek.gen)/\Ar V g (k*15+14) 1=true) (first|with_reducible assumption|exact⟨d56,e0,dT⟩) (first
     |(go_at_call 85;refine KT.out.mono ?_;rintro e w6 ⟨rfl,hb6⟩;have h6:=HTh.out w6 (HB5.out.drew.trans (hb6.mono (Nat.le_of_lt hl5)));have h60:=(hb6.cell (p:=⟨wr.heap.size,0,none⟩) hl5).trans e0;have hS6:=And.intro h6.1 (And.intro h60 h6.2);have hS7:=HS.out w6 (HB5.out.drew.trans (hb6.mono (Nat.le_of_lt hl5))) h60 (Nat.lt_of_lt_of_le hl5 hb6.size))
     |fail)
    have HB6:=Zh (HB5.out.drew.trans (hb6.mono (Nat.le_of_lt hl5)));clear hb6 hS6 hS7 h6 h60;go_wp2;go_roundw
    case rel=>exact⟨k+1,by omega,by go_num,HN1.out _ HB6.out⟩
    case measure=>simp[intOf];omega
  ·obtain rfl:k=x.es.length:=by omega
   have rA:rowOf wr w.heap.size 0 58=some r2.vals.toArray:=hT.a.row 0 58 (by rw[Aa.len];decide);have tB:=hT.b.Ar 0 58 (by rw[Aa.len];decide);have ht:Touch (fun k=>k=w.heap.size+1) wr (putsW wr (w.heap.size+1) 0 r2.vals):=(Touch.refl _ _).D2 (.inl rfl);have q1:=hT.b.D2 0 r2.vals;rw[Lg]at q1;have q2:Ib (putsW wr (w.heap.size+1) 0 r2.vals) (fun b=>w.heap.size<=b) r2 (Km ⟨x.r.bare,x.es,x.us⟩):=by
    have h3:=hT.e.Ak ht fun k hk e=>by have:=hT.e.lt k hk;omega
    have h4:=hT.u.Ak ht fun k hk e=>by have:=hT.u.lt k hk;omega
    rw[Ajj]at h3;refine⟨?_,h3.base (Nat.zero_le _),h4.base (Nat.zero_le _),fun j hj=>?_,fun j hj=>?_,?_,h2⟩
    ·rw[HR2.out]
     exact Agd r ⟨x.r.bare,x.es,x.us⟩ HBr.out
    ·have:=h3.lt j hj;omega
    ·have:=h4.lt j hj;omega
    ·show (x.es.map _).length<=_
     rw[List.length_map];exact h1
   have q3:Below w.heap.size w (putsW wr (w.heap.size+1) 0 r2.vals):=by
    rw[B9];exact Below.setCells (Nat.le_succ _) _ _ _ hT.l
   have HF:=Zh (And.intro q1 (And.intro q2 q3));clear hT ht q1 q2 q3;go_wp2;exact Cz (w.heap.size+1) 0 r2.vals Tryz.results45 Tryz.underlying51 rfl (by kernel_rfl) rfl HF.out.1.range rfl ⟨r2,rfl,HF.out.2.1,HF.out.2.2⟩
end
section
attribute [local go_sem ↓] Po Pp F1 Qy J1 Pt D6 N9 Gq Pw O3
attribute [local go_sem] Bv Bj Cc Bu Cd Cj Cm C2 Bc Az B7 C5 Bi C6 Bp Dt C8 C7 Dz D5 Cy
attribute [local go_sem low] Cr
attribute [local go_sem] F4 P6 Call.len Bm.len A8.len B3.len D0 Ot Ic
attribute [local go_sem ↓] Uh
attribute [local go_sem] Kz Ly J3 Pk List.cons_append List.nil_append
def Ja (n:Nat):Code->Code
 |.seq a b=>match a with
  |.region m _ _=>if m=n then .seq a b else Ja n b
  |_=>Ja n b
 |c=>c
abbrev Ip (bc bt:Nat)(C D:Array Value)(U:World):Prop:=rowOf U bc 0 4=some C/\rowOf U bt 0 24=some D
theorem Akq (F:Nat->Prop)(w:World)(g bx bt:Nat)(c c2:ClD)(z2:Di)(l:List Bz)(step now:Int)(p:Bm)(ps:List Bm)(sx tx:Call)(bc:Nat)(pb:List UInt8)(hgl:g<w.heap.size)(hp:c.parts=p::ps)(hrl:c.recs.length<=1000000)(hnw:0<=now/\now<=1099511627776)(Hc2:Hid (c2={ c with parts:=ps,now:=p }))(HTX:Hid (tx=c.Sj p))(HPB:Hid (pb=Rf (c.message p)))(w10:World)
  (hT10:Ph F g bx bt { c2 with made:=c.made+1 } { z2 with made:=c.made+1 } l w sx tx w10) (bC10:Blk w10 bc 63 (c.C3 p).vals) (y3 y4 y5 y6 jc jd je jf jg jh ji jj jk jl jm jn jo jp jq jr js jt ju jv jw jx jy jz j0 j1 j2 j3 j4 j5 j6 j7 j8 j9 ka kb kc kd ke kf kg kh ki kj kk kl km kn ko kp kq kr ks kt ku kv kw kx ky kz k0 k1 k2 k3 k4 k5 k6 k7 k8 k9 la lb lc ld lf lg lh li lj lk ll lm ln lo lp lq lr ls lu lv lw ly lz l0 l1 l2 l3 l4 l5 l6 l7 l8 l9 oa ob oc od oe og oh oi oj ol om on oo op oq os ot ou ov ow ox oy oz o0 o1 o2 o3 o4 o5 o6 o7 o8 o9 qa qb qc qd qe qf qg qh qi qj qk ql qm qn qo qp qq qr qs qt qu qv qw qx qy qz q0 q1 q2 q3 q4 q5 q6 q7 q8 q9 rb rd re:Value) :
  Code.wp Tryz.prog (Ja 13 (Tryz.f38.body.getD .ret)) (bodyPost Tryz.prog Tryz.f38 (Uk F g (c.next step now).1 (c.next step now).2 w)) ⟨#[.pointer (some ⟨g,0,none⟩),.int .i64 step,.int .i64 now,y3,y4,y5,y6,.pointer (some ⟨bx,0,none⟩),.pointer (some ⟨bt,0,none⟩),.pointer (some ⟨bc,0,none⟩),jc,jd,.string (bs pb),je,jf,jg,jh,ji,jj,jk,jl,jm,jn,jo,jp,jq,jr,js,jt,ju,jv,jw,jx,jy,jz,j0,j1,j2,j3,j4,j5,j6,j7,j8,j9,ka,kb,kc,kd,ke,kf,kg,kh,ki,kj,kk,kl,km,kn,ko,kp,kq,kr,ks,kt,ku,kv,kw,kx,ky,kz,k0,k1,k2,k3,k4,k5,k6,k7,k8,k9,la,lb,lc,ld,lf,lg,lh,li,lj,lk,ll,lm,ln,lo,lp,lq,lr,ls,lu,lv,lw,ly,lz,l0,l1,l2,l3,l4,l5,l6,l7,l8,l9,oa,ob,oc,od,oe,og,oh,oi,oj,ol,om,on,oo,op,oq,os,ot,ou,ov,ow,ox,oy,oz,o0,o1,o2,o3,o4,o5,o6,o7,o8,o9,qa,qb,qc,qd,qe,qf,qg,qh,qi,qj,qk,ql,qm,qn,qo,qp,qq,qr,qs,qt,qu,qv,qw,qx,qy,qz,q0,q1,q2,q3,q4,q5,q6,q7,q8,q9,rb,rd,re],[]⟩ w10:=by
 change Code.wp _ (Code.seq (Code.region 13 _ _) _) _ _ _;have HFg:=Zh hT10.cl.fg;have hbk:=hT10.cl.blk;have d1:w10.cell? ⟨g,1,none⟩=some (.int .i64 c.self):=by rw[hbk.cell 1];show some (Value.int .i64 z2.self)=_;rw[hT10.cl.is.self];show some (Value.int .i64 c2.self)=_;rw[Hc2.out]
 have d2:w10.cell? ⟨g,2,none⟩=some (.int .i64 c.server):=by rw[hbk.cell 2];show some (Value.int .i64 z2.server)=_;rw[hT10.cl.is.server];show some (Value.int .i64 c2.server)=_;rw[Hc2.out]
 have t50:=hbk.Ar 50 3 (by show 50+3<=56;decide);have HT10:=Zh hT10;have HBC10:=Zh bC10;clear hT10 bC10 hbk;go_wp2;go_region;obtain⟨pk,hpk⟩:∃k:B3,k=⟨c.self,c.server,pb⟩:=⟨_,rfl⟩;obtain⟨w11,hw11⟩:∃V,V=(putsW w10 g 50 pk.vals).drew:=⟨_,rfl⟩;change Exit.then _ _ _ _ (putsW w10 g 50 (B3.mk c.self c.server pb).vals).drew;rw[<-hpk,<-hw11];have HPK:=Zh hpk;clear hpk;have hT11:Ph F g bx bt { c2 with made:=c.made+1,sent:=pk } { z2 with made:=c.made+1,sent:=pk } l w sx tx w11:=by
  have h:=HT10.out;have ht:Touch (fun k=>k=g) w10 w11:=by rw[hw11];exact((Touch.refl (fun k=>k=g) w10).D2 (k:=g) (.inl rfl)).drew
  have hb:=(h.cl.blk.D2 50 (pk).vals).drew;rw[Ah9,<-hw11]at hb;have i:=h.cl.is;have:=h.lx;have:=h.lt;exact⟨h.xb.Ak ht (by omega),h.tb.Ak ht (by omega),h.cl.own ht hb ⟨i.id,i.self,i.server,i.ps,i.now,i.busy,rfl,i.due,i.made⟩ rfl rfl rfl rfl rfl rfl rfl rfl,h.ne,h.lx,h.lt,h.to.Ay ht⟩
 have bC11:Blk w11 bc 63 (c.C3 p).vals:=by
  rw[hw11];have hne:bc≠g:=fun e=>by
   have h1:=HBC10.out;rw[e]at h1;exact absurd (h1.ne_ HT10.out.cl.blk (by decide)) (fun h=>h rfl)
  exact(HBC10.out.Jh hne).drew
 clear hw11 t50 d1 d2 HT10 HBC10;have hcl:=hT11.cl;have hto:=hT11.to;have hrl2:c2.recs.length<=1000000:=by rw[Hc2.out];exact hrl
 have rC:rowOf w11 bc 0 4=some #[.int .i64 c.id,.int .i64 (c.made+1),.int .i64 p.uid,.int .i64 p.gid]:=bC11.row 0 4 (by rw[A8.len];omega);have d55:w11.cell? ⟨g,55,none⟩=some (.slice z2.ra z2.rn z2.rc):=hcl.blk.cell 55;have htb:=hT11.tb;have hg11:g<w11.heap.size:=hcl.blk.lt;have hap:=(hcl.Ik (G:=fun _=>False) (w':=w11.drew) (Touch.refl _ _).drew (fun _ _ h=>h)).more ⟨c.C3 p,step,0,tx,Bt⟩ ⟨c.C3 p,step,0,tx,Vd⟩ rfl rfl rfl rfl rfl rfl hrl2;have rT:rowOf w11 bt 0 24=some tx.vals.toArray:=htb.row 0 24 (by rw[Call.len];omega);obtain⟨xp,xf,xn,xg,xm,xo,xc,xh,xd,⟨⟨b1,i1⟩,⟨b2,i2⟩,⟨b3,i3⟩,⟨b4,i4⟩,⟨b5,i5⟩⟩,⟨b6,i6⟩,xk,xv,xt⟩:=tx;replace rT:rowOf w11 bt 0 24=some #[.int .i64 xp,.string (bs xf),.string (bs xn),.string (bs xg),.string (bs xm),.int .i64 xo,.int .i64 xc,.int .i64 xh,.string (bs xd),.bool b1,.int .i64 i1,.bool b2,.int .i64 i2,.bool b3,.int .i64 i3,.bool b4,.int .i64 i4,.bool b5,.int .i64 i5,.bool b6,.int .i64 i6,.int .i64 xk,.int .i64 xv,.string (bs xt)]:=rT;have HAp:=Zh (show ∃v' w',(Builtin.append_ #[60,60] 60 #[.slice z2.ra z2.rn z2.rc,.slice (some ⟨w11.heap.size,0,none⟩) 1 1]).run Tryz.prog ((w11.alloc (.cells #[.int .i64 c.id,.int .i64 (c.made+1),.int .i64 p.uid,.int .i64 p.gid,.int .i64 step,.int .i64 0,.int .i64 xp,.string (bs xf),.string (bs xn),.string (bs xg),.string (bs xm),.int .i64 xo,.int .i64 xc,.int .i64 xh,.string (bs xd),.bool b1,.int .i64 i1,.bool b2,.int .i64 i2,.bool b3,.int .i64 i3,.bool b4,.int .i64 i4,.bool b5,.int .i64 i5,.bool b6,.int .i64 i6,.int .i64 xk,.int .i64 xv,.string (bs xt),.int .i64 0,.string ⟨#[]⟩,.bool false,.int .i64 0,.int .i64 0,.int .i64 0,.int .i64 0,.int .i64 0,.int .i64 0,.int .i64 0,.int .i64 0,.int .i64 0,.int .i64 0,.bool false,.int .i64 0,.int .i64 0,.int .i64 0,.int .i64 0,.int .i64 0,.int .i64 0,.int .i64 0,.int .i64 0,.int .i64 0,.int .i64 0,.bool false,.int .i64 0,.bool false,.int .i64 0,.int .i64 0,.int .i64 0,.int .i64 0,.int .i64 0,.int .i64 0,.int .i64 0,.int .i64 0,.int .i64 0,.int .i64 0,.bool false,.int .i64 0,.bool false,.int .i64 0,.int .i64 0,.int .i64 0,.int .i64 0,.int .i64 0,.int .i64 0,.int .i64 0,.int .i64 0,.int .i64 0,.int .i64 0,.int .i64 0,.int .i64 0,.bool false,.string ⟨#[]⟩,.int .i64 0,.int .i64 0,.slice none 0 0,.slice none 0 0] 65)).drew)=.ok v' w'/\(∃A n cc,v'=.slice A n cc/\w'.cell? ⟨g,55,none⟩=some (.slice z2.ra z2.rn z2.rc)/\w'.frozen? ⟨g,55,none⟩=false/\(D3 (fun k=>F k\/(w11.drew.heap.size<=k/\k<w'.heap.size)) (w'.setCell ⟨g,55,none⟩ (.slice A n cc)) g { c2 with made:=c.made+1,sent:=pk,recs:=c2.recs++[⟨c.C3 p,step,0,⟨xp,xf,xn,xg,xm,xo,xc,xh,xd,⟨⟨b1,i1⟩,⟨b2,i2⟩,⟨b3,i3⟩,⟨b4,i4⟩,⟨b5,i5⟩⟩,⟨b6,i6⟩,xk,xv,xt⟩,Vd⟩] } { z2 with made:=c.made+1,sent:=pk,ra:=A,rn:=n,rc:=cc } (l++[⟨c.C3 p,step,0,⟨xp,xf,xn,xg,xm,xo,xc,xh,xd,⟨⟨b1,i1⟩,⟨b2,i2⟩,⟨b3,i3⟩,⟨b4,i4⟩,⟨b5,i5⟩⟩,⟨b6,i6⟩,xk,xv,xt⟩,Bt⟩])/\Touch F w11.drew (w'.setCell ⟨g,55,none⟩ (.slice A n cc)))/\Ip bc bt #[.int .i64 c.id,.int .i64 (c.made+1),.int .i64 p.uid,.int .i64 p.gid] #[.int .i64 xp,.string (bs xf),.string (bs xn),.string (bs xg),.string (bs xm),.int .i64 xo,.int .i64 xc,.int .i64 xh,.string (bs xd),.bool b1,.int .i64 i1,.bool b2,.int .i64 i2,.bool b3,.int .i64 i3,.bool b4,.int .i64 i4,.bool b5,.int .i64 i5,.bool b6,.int .i64 i6,.int .i64 xk,.int .i64 xv,.string (bs xt)] w'/\Ip bc bt #[.int .i64 c.id,.int .i64 (c.made+1),.int .i64 p.uid,.int .i64 p.gid] #[.int .i64 xp,.string (bs xf),.string (bs xn),.string (bs xg),.string (bs xm),.int .i64 xo,.int .i64 xc,.int .i64 xh,.string (bs xd),.bool b1,.int .i64 i1,.bool b2,.int .i64 i2,.bool b3,.int .i64 i3,.bool b4,.int .i64 i4,.bool b5,.int .i64 i5,.bool b6,.int .i64 i6,.int .i64 xk,.int .i64 xv,.string (bs xt)] (w'.setCell ⟨g,55,none⟩ (.slice A n cc))) by
  obtain⟨v',w',h1,A,n,cc,h2,h3,h4,h5,h6,h7⟩:=hap;obtain⟨e1,e2⟩:=h7 bc _ _ bC11.drew (by decide) (by decide);obtain⟨e3,e4⟩:=h7 bt _ _ htb.drew (by decide) (by decide);exact⟨v',w',h1,A,n,cc,h2,h3,h4,⟨h5,h6⟩,⟨e1.row 0 4 (by rw[A8.len];omega),e3.row 0 24 (by rw[Call.len];omega)⟩,⟨e2.row 0 4 (by rw[A8.len];omega),e4.row 0 24 (by rw[Call.len];omega)⟩⟩)
 have HTo:=Zh hto;have hS0:Ip bc bt #[.int .i64 c.id,.int .i64 (c.made+1),.int .i64 p.uid,.int .i64 p.gid] #[.int .i64 xp,.string (bs xf),.string (bs xn),.string (bs xg),.string (bs xm),.int .i64 xo,.int .i64 xc,.int .i64 xh,.string (bs xd),.bool b1,.int .i64 i1,.bool b2,.int .i64 i2,.bool b3,.int .i64 i3,.bool b4,.int .i64 i4,.bool b5,.int .i64 i5,.bool b6,.int .i64 i6,.int .i64 xk,.int .i64 xv,.string (bs xt)] w11.drew:=⟨rC,rT⟩;have HS0:=Zh hS0;have HSa:=Zh (fun (o:Obj)=>(show Ip bc bt #[.int .i64 c.id,.int .i64 (c.made+1),.int .i64 p.uid,.int .i64 p.gid] #[.int .i64 xp,.string (bs xf),.string (bs xn),.string (bs xg),.string (bs xm),.int .i64 xo,.int .i64 xc,.int .i64 xh,.string (bs xd),.bool b1,.int .i64 i1,.bool b2,.int .i64 i2,.bool b3,.int .i64 i3,.bool b4,.int .i64 i4,.bool b5,.int .i64 i5,.bool b6,.int .i64 i6,.int .i64 xk,.int .i64 xv,.string (bs xt)] (w11.drew.alloc o) from ⟨(Ab w11.drew o bc 0 4 bC11.lt).trans rC,(Ab w11.drew o bt 0 24 htb.lt).trans rT⟩));clear hap hcl hto htb hT11 bC11 hrl2 hS0 rC rT;go_wp2_with fail;rw[Hs 60 (.tmp 163)];go_region_held3 (fun U=>Ip bc bt #[.int .i64 c.id,.int .i64 (c.made+1),.int .i64 p.uid,.int .i64 p.gid] #[.int .i64 xp,.string (bs xf),.string (bs xn),.string (bs xg),.string (bs xm),.int .i64 xo,.int .i64 xc,.int .i64 xh,.string (bs xd),.bool b1,.int .i64 i1,.bool b2,.int .i64 i2,.bool b3,.int .i64 i3,.bool b4,.int .i64 i4,.bool b5,.int .i64 i5,.bool b6,.int .i64 i6,.int .i64 xk,.int .i64 xv,.string (bs xt)] U) (first|with_reducible assumption|exact HS0.out|exact HSa.out _) (first
  |(refine Cp (R:=fun v' w'=>(∃A n cc,v'=.slice A n cc/\w'.cell? ⟨g,55,none⟩=some (.slice z2.ra z2.rn z2.rc)/\w'.frozen? ⟨g,55,none⟩=false/\(D3 (fun k=>F k\/(w11.drew.heap.size<=k/\k<w'.heap.size)) (w'.setCell ⟨g,55,none⟩ (.slice A n cc)) g { c2 with made:=c.made+1,sent:=pk,recs:=c2.recs++[⟨c.C3 p,step,0,⟨xp,xf,xn,xg,xm,xo,xc,xh,xd,⟨⟨b1,i1⟩,⟨b2,i2⟩,⟨b3,i3⟩,⟨b4,i4⟩,⟨b5,i5⟩⟩,⟨b6,i6⟩,xk,xv,xt⟩,Vd⟩] } { z2 with made:=c.made+1,sent:=pk,ra:=A,rn:=n,rc:=cc } (l++[⟨c.C3 p,step,0,⟨xp,xf,xn,xg,xm,xo,xc,xh,xd,⟨⟨b1,i1⟩,⟨b2,i2⟩,⟨b3,i3⟩,⟨b4,i4⟩,⟨b5,i5⟩⟩,⟨b6,i6⟩,xk,xv,xt⟩,Bt⟩])/\Touch F w11.drew (w'.setCell ⟨g,55,none⟩ (.slice A n cc)))/\Ip bc bt #[.int .i64 c.id,.int .i64 (c.made+1),.int .i64 p.uid,.int .i64 p.gid] #[.int .i64 xp,.string (bs xf),.string (bs xn),.string (bs xg),.string (bs xm),.int .i64 xo,.int .i64 xc,.int .i64 xh,.string (bs xd),.bool b1,.int .i64 i1,.bool b2,.int .i64 i2,.bool b3,.int .i64 i3,.bool b4,.int .i64 i4,.bool b5,.int .i64 i5,.bool b6,.int .i64 i6,.int .i64 xk,.int .i64 xv,.string (bs xt)] w'/\Ip bc bt #[.int .i64 c.id,.int .i64 (c.made+1),.int .i64 p.uid,.int .i64 p.gid] #[.int .i64 xp,.string (bs xf),.string (bs xn),.string (bs xg),.string (bs xm),.int .i64 xo,.int .i64 xc,.int .i64 xh,.string (bs xd),.bool b1,.int .i64 i1,.bool b2,.int .i64 i2,.bool b3,.int .i64 i3,.bool b4,.int .i64 i4,.bool b5,.int .i64 i5,.bool b6,.int .i64 i6,.int .i64 xk,.int .i64 xv,.string (bs xt)] (w'.setCell ⟨g,55,none⟩ (.slice A n cc)))) (by rfl) (.tmp 164) (.tmp 169) #[60,60] (by rfl) _ _ (by rfl) (by rfl) HAp.out ?_;rintro v' w12 ⟨A,n,cc,rfl,q55,f55,hK,hS12,hS13⟩)
  |fail)
 all_goals
  obtain⟨hC12,ht12⟩:=hK;generalize w12.setCell ⟨g,55,none⟩ (.slice A n cc)=V at *;have hb12:=hC12.blk;have ja:V.cell? ⟨g,49,none⟩=some (.bool z2.busy):=hb12.cell 49;have jb:V.cell? ⟨g,53,none⟩=some (.int .i64 z2.due):=hb12.cell 53;have fV:=hb12.frozen;have hnw8:IntKind.i64.wrap (now+8)=now+8:=IntWalk.i64_in _ (by omega);have HC12:=Zh hC12;have HT12:=Zh ht12;have HB12:=Zh hb12;clear hC12 ht12 hb12
  go_upto_region 16 with fail;obtain⟨V2,hV2⟩:∃U,U=(V.setCell ⟨g,49,none⟩ (.bool true)).setCell ⟨g,53,none⟩ (.int .i64 (now+8)):=⟨_,rfl⟩;rw[<-hV2];have ht2:Touch (fun k=>k=g) V V2:=by rw[hV2];exact((Touch.refl (fun k=>k=g) V).setCell (p:=⟨g,49,none⟩) (.inl rfl) _).setCell (p:=⟨g,53,none⟩) (.inl rfl) _
  have hb2:=(HB12.out.Be 49 (.bool true)).Be 53 (.int .i64 (now+8));rw[Zc,Ah8,<-hV2]at hb2;have i12:=HC12.out.is;have hC2:=HC12.out.own ht2 hb2 (c':={ c2 with made:=c.made+1,sent:=pk,recs:=c2.recs++[⟨c.C3 p,step,0,⟨xp,xf,xn,xg,xm,xo,xc,xh,xd,⟨⟨b1,i1⟩,⟨b2,i2⟩,⟨b3,i3⟩,⟨b4,i4⟩,⟨b5,i5⟩⟩,⟨b6,i6⟩,xk,xv,xt⟩,Vd⟩],busy:=true,due:=now+8 }) ⟨i12.id,i12.self,i12.server,i12.ps,i12.now,rfl,i12.sent,rfl,i12.made⟩ rfl rfl rfl rfl rfl rfl rfl rfl;have r50:rowOf V2 g 50 3=some pk.vals.toArray:=hb2.row 50 3 (by show 50+3<=56;decide);have HC2:=Zh hC2;have HT2:=Zh (HT12.out.Ay (ht2.mono fun k _ hk=>by subst hk;exact HFg.out));clear hV2 ht2 hb2 i12 hC2 ja jb fV hnw8 HC12 HT12 HB12;go_wp2;go_ret;have hC2:=HC2.out;have hB2:Below V2.heap.size V2 (V2.alloc (.cells pk.vals.toArray 40)):=(Below.refl _ _).alloc (Nat.le_refl _) _;have hs11:=HTo.out.size;have hs2:=HT2.out.size;have hd11:w11.drew.heap.size=w11.heap.size:=rfl;have hnx:c.next step now=({ c2 with made:=c.made+1,sent:=pk,recs:=c2.recs++[⟨c.C3 p,step,0,⟨xp,xf,xn,xg,xm,xo,xc,xh,xd,⟨⟨b1,i1⟩,⟨b2,i2⟩,⟨b3,i3⟩,⟨b4,i4⟩,⟨b5,i5⟩⟩,⟨b6,i6⟩,xk,xv,xt⟩,Vd⟩],busy:=true,due:=now+8 },[pk]):=by
   have h1:=Hc2.out;have h2:=HTX.out;have h3:=HPK.out;have h4:pk=c.Ux p:=by rw[h3,HPB.out];rfl
   unfold ClD.next;rw[hp,h1,h4];dsimp only;rw[<-h2]
  rw[hnx];refine⟨_,rfl,?_,⟨_,_,_,hC2.below hB2,fun k hk=>?_⟩,?_⟩
  ·have:=As.made V2 (b:=V2.heap.size) (B:=w.heap.size) (sz:=3) (k:=1) 40 [pk.vals] (fun r hr=>by rw[List.mem_singleton]at hr;subst hr;rfl) rfl (by omega) (by simp) rfl
   rw[show [pk.vals].flatten=pk.vals by simp]at this;exact this
  ·rcases hk with hk|hk
   ·exact .inl hk
   ·exact .inr (by omega)
  ·have h0:Touch F w w11.drew:=(HTo.out.mono fun k _ hk=>by subst hk;exact HFg.out).drew
   exact(h0.Ay HT2.out).Ay (Touch.Aq hB2 _)
end
section
attribute [local go_sem ↓] Po Pp F1 Qy J1 Pt D6 N9 Gq Pw O3
attribute [local go_sem] Bv Bj Cc Bu Cd Cj Cm C2 Bc Az B7 C5 Bi C6 Bp Dt C8 C7 Dz D5 Cy
attribute [local go_sem low] Cr
attribute [local go_sem] F4 P6 Call.len Bm.len A8.len B3.len D0 Ot Ic
attribute [local go_sem ↓] Uh
attribute [local go_sem] Kz Ly J3 Pk List.cons_append List.nil_append
theorem Akr (F:Nat->Prop)(w:World)(g bx bt:Nat)(c c2:ClD)(z2:Di)(l:List Bz)(step now:Int)(p:Bm)(ps:List Bm)(sx tx:Call)(pb:List UInt8)(hgl:g<w.heap.size)(hp:c.parts=p::ps)(hG:Ds c)(hpg:Abs p)(hnow:z2.now=p)(hrl:c.recs.length<=1000000)(hnw:0<=now/\now<=1099511627776)(Hc2:Hid (c2={ c with parts:=ps,now:=p }))(HSX:Hid (sx=c.Sk p))(HTX:Hid (tx=c.Sj p))(HPB:Hid (pb=Rf (c.message p)))(wc:World)
  (hcut:Ph F g bx bt c2 z2 l w sx tx wc) (y3 y4 y5 y6 y9 ja jb jc jd je jf jg jh ji jj jk jl jm jn jo jp jq jr js jt ju jv jw jx jy jz j0 j1 j2 j3 j4 j5 j6 j7 j8 j9 ka kb kc kd ke kf kg kh ki kj kk kl km kn ko kp kq kr ks kt ku kv kw kx ky kz k0 k1 k2 k3 k4 k5 k6 k7 k8 k9 la lb lc ld lf lg lh li lj lk ll lm ln lo lp lq lr ls lu lv lw ly lz l0 l1 l2 l3 l4 l5 l6 l7 l8 l9 oa ob oc od oe og oh oi oj ok ol om on oo op oq os ot ou ov ow ox oy oz o0 o1 o2 o3 o4 o5 o6 o7 o8 o9 qa qb qc qd qe qf qg qh qi qj qk ql qm qn qo qp qq qr qs qt qu qv qw qx qy qz q0 q1 q2 q3 q4 q5 q6 q7 q8 q9 ra:Value) :
  Code.wp Tryz.prog (Ja 9 (Tryz.f38.body.getD .ret)) (bodyPost Tryz.prog Tryz.f38 (Uk F g (c.next step now).1 (c.next step now).2 w)) ⟨#[.pointer (some ⟨g,0,none⟩),.int .i64 step,.int .i64 now,y3,y4,y5,y6,.pointer (some ⟨bx,0,none⟩),.pointer (some ⟨bt,0,none⟩),y9,ja,jb,jc,jd,je,jf,jg,jh,ji,jj,jk,jl,jm,jn,jo,jp,jq,jr,js,jt,ju,jv,jw,jx,jy,jz,j0,j1,j2,j3,j4,j5,j6,j7,j8,j9,ka,kb,kc,kd,ke,kf,kg,kh,ki,kj,kk,kl,km,kn,ko,kp,kq,kr,ks,kt,ku,kv,kw,kx,ky,kz,k0,k1,k2,k3,k4,k5,k6,k7,k8,k9,la,lb,lc,ld,lf,lg,lh,li,lj,lk,ll,lm,ln,lo,lp,lq,lr,ls,lu,lv,lw,ly,lz,l0,l1,l2,l3,l4,l5,l6,l7,l8,l9,oa,ob,oc,od,oe,og,oh,oi,oj,ok,ol,om,on,oo,op,oq,os,ot,ou,ov,ow,ox,oy,oz,o0,o1,o2,o3,o4,o5,o6,o7,o8,o9,qa,qb,qc,qd,qe,qf,qg,qh,qi,qj,qk,ql,qm,qn,qo,qp,qq,qr,qs,qt,qu,qv,qw,qx,qy,qz,q0,q1,q2,q3,q4,q5,q6,q7,q8,q9,ra],[]⟩ wc:=by
 change Code.wp _ (Code.seq (Code.region 9 _ _) _) _ _ _;have hcm:z2.made=c.made:=by rw[hcut.cl.is.made,Hc2.out]
 have hgm:=hG.made;have hmw:IntKind.i64.wrap (c.made+1)=c.made+1:=IntWalk.i64_in _ (by omega);have c54:wc.cell? ⟨g,54,none⟩=some (.int .i64 c.made):=by rw[hcut.cl.blk.cell 54,<-hcm];rfl
 have f54:=hcut.cl.blk.frozen 54;have HQ:=Zh hcut;have hgc:=Zh hgm;clear hcut hgm
 go_upto_region 10 with fail;obtain⟨w7,hw7⟩:∃V,V=wc.setCell ⟨g,54,none⟩ (.int .i64 (c.made+1)):=⟨_,rfl⟩;rw[<-hw7];have hT7:Ph F g bx bt { c2 with made:=c.made+1 } { z2 with made:=c.made+1 } l w sx tx w7:=by
  have h:=HQ.out;have ht:Touch (fun k=>k=g) wc w7:=by rw[hw7];exact(Touch.refl (fun k=>k=g) wc).setCell (p:=⟨g,54,none⟩) (.inl rfl) _
  have hb:=h.cl.blk.Be 54 (.int .i64 (c.made+1));rw[Ah7,<-hw7]at hb;have i:=h.cl.is;have:=h.lx;have:=h.lt;exact⟨h.xb.Ak ht (by omega),h.tb.Ak ht (by omega),h.cl.own ht hb ⟨i.id,i.self,i.server,i.ps,i.now,i.busy,i.sent,i.due,rfl⟩ rfl rfl rfl rfl rfl rfl rfl rfl,h.ne,h.lx,h.lt,h.to.Ay ht⟩
 clear hw7 c54 f54 hmw HQ;have hbk:=hT7.cl.blk;have d0:w7.cell? ⟨g,0,none⟩=some (.int .i64 c.id):=by rw[hbk.cell 0];show some (Value.int .i64 z2.id)=_;rw[hT7.cl.is.id];show some (Value.int .i64 c2.id)=_;rw[Hc2.out]
 have d54:w7.cell? ⟨g,54,none⟩=some (.int .i64 (c.made+1)):=hbk.cell 54;have d47:w7.cell? ⟨g,47,none⟩=some (.int .i64 p.uid):=by rw[hbk.cell 47,<-hnow];rfl
 have d48:w7.cell? ⟨g,48,none⟩=some (.int .i64 p.gid):=by rw[hbk.cell 48,<-hnow];rfl
 have hg7:g<w7.heap.size:=hbk.lt;have HT7:=Zh hT7;clear hT7 hbk;go_region;change Exit.then _ _ _ _ (w7.alloc (.cells (c.C3 p).vals.toArray 63)).drew;have bC:=(Blk.new w7 63 (c.C3 p).vals).drew;have hB8:Below w7.heap.size w7 (w7.alloc (.cells (c.C3 p).vals.toArray 63)).drew:=((Below.refl _ _).alloc (Nat.le_refl _) _).drew;generalize (w7.alloc (.cells (c.C3 p).vals.toArray 63)).drew=w8 at *;have hT8:=HT7.out.below hB8;have rX:rowOf w8 bx 0 24=some sx.vals.toArray:=hT8.xb.row 0 24 (by rw[Call.len];omega);have hsg:Hk sx:=by rw[HSX.out];exact Apa (c:=c) hpg.call
 have hsp:sx.proc=p.c.proc:=by rw[HSX.out];exact Agm c p
 have hshort:=Aig (c.Sk p);have KP:=Zh (fun W=>Aml sx W hsg.offset hsg.cookie hsg.verf hsg.set hsg.guard);obtain⟨body,hbody⟩:∃b,b=(Aaa sx).1:=⟨_,rfl⟩;have KM:∀W,Calls Tryz.prog 87 #[.agg #[.int .i64 (c.made+1),.bool false,.bool false,.int .i64 p.c.proc,.int .i64 c.id,.int .i64 (c.made+1),.int .i64 p.uid,.int .i64 p.gid,.int .i64 0,.string (bs body)]] W fun e w'=>(∃er,e=.returned (.tuple #[.string (bs pb),.int .i64 er]))/\Below W.heap.size W w':=by
  intro W;rw[hbody,HSX.out,HPB.out];refine Calls.mono (Amk (c.message p) W hshort) ?_
  rintro e w' ⟨rfl,hb⟩;refine⟨?_,hb⟩
  unfold Message.Aph Rf;split
  ·exact⟨_,rfl⟩
  ·exact⟨_,rfl⟩
 replace KM:=Zh KM;have HBody:=Zh hbody;have HT8:=Zh hT8;have Hsp:=Zh hsp;have HBC:=Zh bC;have hl7:=Zh bC.lt;clear d0 d54 d47 d48 hg7 hB8 bC hT8 hsg hshort hbody hsp HT7;go_wp2_with fail;refine(KP.out _).mono ?_
 rintro e w9 ⟨rfl,hb9⟩;rw[<-HBody.out];have hT9:=HT8.out.below hb9;have bC9:=HBC.out.stays hb9;have hbk:=hT9.cl.blk;have d54:w9.cell? ⟨g,54,none⟩=some (.int .i64 (c.made+1)):=hbk.cell 54;have x0:w9.cell? ⟨bx,0,none⟩=some (.int .i64 p.c.proc):=by rw[<-Hsp.out];exact hT9.xb.cell 0
 have rC:rowOf w9 w7.heap.size 0 4=some #[.int .i64 c.id,.int .i64 (c.made+1),.int .i64 p.uid,.int .i64 p.gid]:=bC9.row 0 4 (by rw[A8.len];omega);have hg9:g<w9.heap.size:=hbk.lt;have hx9:bx<w9.heap.size:=hT9.xb.lt;have hc9:w7.heap.size<w9.heap.size:=bC9.lt;have HS12:=Zh (fun (V:World) (h:Below w9.drew.heap.size w9.drew V)=>(show V.cell? ⟨g,54,none⟩=some (.int .i64 (c.made+1))/\V.cell? ⟨bx,0,none⟩=some (.int .i64 p.c.proc)/\rowOf V w7.heap.size 0 4=some #[.int .i64 c.id,.int .i64 (c.made+1),.int .i64 p.uid,.int .i64 p.gid] from
  ⟨(h.cell (p:=⟨g,54,none⟩) hg9).trans d54,(h.cell (p:=⟨bx,0,none⟩) hx9).trans x0,(Fu h hc9 0 4).trans rC⟩))
 have HT9:=Zh hT9;have HBC9:=Zh bC9;clear hb9 hT9 bC9 hbk rX HT8 HBC KP;go_wp2_with fail;go_region_held3 (fun U=>U.cell? ⟨g,54,none⟩=some (.int .i64 (c.made+1))/\U.cell? ⟨bx,0,none⟩=some (.int .i64 p.c.proc)/\rowOf U w7.heap.size 0 4=some #[.int .i64 c.id,.int .i64 (c.made+1),.int .i64 p.uid,.int .i64 p.gid]) (first|with_reducible assumption|exact⟨d54,x0,rC⟩) (first
  |(go_at_call 87;refine(KM.out _).mono ?_;rintro e w10 ⟨⟨er,rfl⟩,hb10⟩;have s10:=HS12.out w10 hb10)
  |fail)
 have hst10:Below w9.heap.size w9 w10:=Ad (Below.refl w9.heap.size w9).drew hb10;have hT10:=HT9.out.below hst10;have bC10:=HBC9.out.stays hst10;clear s10 hst10 hb10 d54 x0 rC hg9 hx9 hc9;simp only[Exit.then];apply_assumption;exact Akq F w g bx bt c c2 z2 l step now p ps sx tx w7.heap.size pb hgl hp hrl hnw Hc2 HTX HPB w10 hT10 bC10 _ _ _ _ _ _ _ _ _ _ _ _ _ _ _ _ _ _ _ _ _ _ _ _ _ _ _ _ _ _ _ _ _ _ _ _ _ _ _ _ _ _ _ _ _ _ _ _ _ _ _ _ _ _ _ _ _ _ _ _ _ _ _ _ _ _ _ _ _ _ _ _ _ _ _ _ _ _ _ _ _ _ _ _ _ _ _ _ _ _ _ _ _ _ _ _ _ _ _ _ _ _ _ _ _ _ _ _ _ _ _ _ _ _ _ _ _ _ _ _ _ _ _ _ _ _ _ _ _ _ _ _ _ _ _ _ _ _ _ _ _ _ _ _ _ _ _ _ _ _ _ _ _ _ _ _ _ _ _ _ _ _ _ _ _ _ _ _ _ _ _ _ _ _ _ _ _ _ _
end
end Go.Proofs.YtfjflkmhhbhceaaGreatDoor
