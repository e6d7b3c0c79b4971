/-
  Layer 8, walks: the document takes the entries of results, with all that they have. Conditions: a reader and results at blocks of their own, no entries yet.
-/
import Derived.Test.YtfjflkmhhbhceaaGreatDoorO22
import Derived.Test.YtfjflkmhhbhceaaGreatDoorO21
set_option maxRecDepth 20000
set_option maxHeartbeats 40000000
namespace Go.Proofs.YtfjflkmhhbhceaaGreatDoor
open Go.RowKit
attribute [local go_sem ↓] Go.wp_at_zero Go.wp_at_succ
attribute [local go_sem] Ai Ag Af Ab Aj
attribute [local go_sem] Entry.at0 Entry.Bo Entry.at1 Entry.Bk Entry.at2 Entry.Ca Entry.at3 Entry.Cg Entry.at4 Entry.Cx Entry.at5 Entry.Cw Entry.at6 Entry.Cv Entry.at7 Entry.Cu Entry.at8 Entry.Ct Entry.at9 Entry.Cs Entry.Ee Entry.C4 Entry.Fm Entry.Dm Entry.Fl Entry.Dl Entry.Ia Entry.Ep Entry.H9 Entry.Eo Entry.L3 Entry.Js Entry.L2 Entry.Jr Entry.L1 Entry.Jq Entry.len Kz
section
attribute [local go_sem ↓] Fq Jx Y7
theorem Aqk (g b B:Nat)(z:Aa)(r:Rs)(w:World)(hR:RdF w g r)(hA:Blk w b 51 z.vals)(hne:b≠g)(hgB:g<B)(hbB:b<B)(hB:B<=w.heap.size)(h0:z.ea=none/\z.en=0/\z.ec=0)(hl:r.s.length<=9223372036854775807) :
  Calls Tryz.prog 105 #[.pointer (some ⟨g,0,none⟩),.pointer (some ⟨b,0,none⟩),.int .u8 112] w fun e w'=>e=.returned (.bool (Ii true r)) /\
   (Ii true r=true->∃A c,Blk w' b 51 ({ z with ea:=A,en:=(Bd true (Am r).2 (Am r).1).1.length,ec:=c }:Aa).vals/\RdF w' g (Bd true (Am r).2 (Am r).1).2/\As w' B 126 15 (.slice A (Bd true (Am r).2 (Am r).1).1.length c) ((Bd true (Am r).2 (Am r).1).1.map Entry.vals))/\Touch (FB g b B) w w':=by
 obtain⟨i0,hi,hz,hsize,hby⟩:=info_parts Qh;have K:=Zh (Dv g r w hR);have hql:=Nat.le_trans (Em hl) hl;have hgl:=hR.lt;have hbl:=hA.lt;have hne2:¬g=b:=fun e=>hne e.symm
 have hOK:Ii true r=(decide ((Am r).1<=64) && aok true (Am r).2 (Am r).1):=rfl;rw[hOK];clear hOK;generalize Am r=y at *;obtain⟨n,q⟩:=y;simp only at K hql ⊢
 by_cases hn:64<n
 ·have hn':(64:Int)<n:=by omega
  have HO:=Zh (show (decide (n<=64) && aok true q n)=false by simp;omega);go_enter Tryz.func105,Tryz.ntmps105
  go_wp2_with fail;refine K.out.mono ?_
  rintro e w1 ⟨rfl,hQ⟩;have HQ:=Zh (hQ.2.mono (G:=FB g b B) fun _ _ h=>.inl h);clear hQ;go_wp2;go_ret;rw[HO.out];exact⟨rfl,fun h=>absurd h (by simp),HQ.out⟩
 have hn':¬(64:Int)<n:=by omega
 have hn64:decide (n<=64)=true:=by simp;omega
 rw[hn64,Bool.true_and];clear hn64;go_enter Tryz.func105,Tryz.ntmps105
 go_wp2_with fail;refine K.out.mono ?_
 rintro e w1 ⟨rfl,hQ⟩;have hA1:=hQ.keeps hA hne;have hT1:=hQ.2.mono (G:=FB g b B) fun _ _ h=>.inl h
 have HI:=Zh (And.intro hQ.1 (And.intro hA1 hT1));have hz0:({ z with ea:=none,en:=0,ec:=0 }:Aa)=z:=by
  obtain⟨h1,h2,h3⟩:=h0;cases z
  simp only at h1 h2 h3
  subst h1 h2 h3;rfl
 have HZ:=Zh hz0;have HQL:=Zh (Ni (whole:=true) hql);clear hQ hA1 hT1 hA hR K h0 hz0 hql;go_wp2
 go_loopw [7,11] (fun ev iv wr=>∃(k:Nat) (A:Option Addr) (c:Nat) (ee:Int),k<=n/\ev=.int .i64 ee/\iv=.int .i64 k/\RdF wr g (Bd true q k).2/\((ee==0) && ((Bd true q k).2.e==0))=aok true q k/\Blk wr b 51 ({ z with ea:=A,en:=k,ec:=c }:Aa).vals/\As wr B 126 15 (.slice A k c) ((Bd true q k).1.map Entry.vals)/\Touch (FB g b B) w wr) (fun _ iv _=>n - (intOf iv).toNat)
 case atStart=>exact⟨0,none,0,0,Nat.zero_le _,rfl,rfl,HI.out.1,by unfold aok;simp[Bd],by rw[HZ.out];exact HI.out.2.1,As.none_,HI.out.2.2⟩
 case round=>
  clear HI HZ;obtain⟨k,A,c,ee,hk,rfl,rfl,hR,hok,hA,hRow,hT⟩:=hrel;have hE:=A6.err hR;by_cases hlt:k<n
  ·have hlt':(k:Int)<n:=by omega
   cases hao:aok true q k
   case true=>
    rw[hao]at hok;obtain⟨rfl,he⟩:=(Art hok).1 rfl;have hs1:Bd true q (k+1)=((Bd true q k).1++[(Hq true (Bd true q k).2).1],(Hq true (Bd true q k).2).2):=rfl;have hone:=Ki true q k;have hlen:=HQL.out k;have hok2:aok true q (k+1)=E7 true (Bd true q k).2:=by
     rw[Zt,hao];rfl
    have hsw:=hT.size;rw[he]at hE;have hlA:=Ys hlen;generalize (Bd true q k).2=qk at *;have hoo:E7 true qk=(((Cf Ah.ok Bb (Bh (Hr qk).2)).2==0) && ((Hq true qk).2.e==0)):=rfl;have hoe:Hq true qk=({ (Hr qk).1 with attr:=(Cf Ah.ok Bb (Bh (Hr qk).2)).1,fh:=(Ao 64 (Bh (Hr qk).2).2).1 },(Ao 64 (Bh (Hr qk).2).2).2):=rfl;have hoa:Hr qk=(⟨((Bn qk).1:Int),(Ao 255 (Bn qk).2).1,((Bn (Ao 255 (Bn qk).2).2).1:Int),Db,[]⟩,(Bn (Ao 255 (Bn qk).2).2).2):=rfl;rw[hoe]at hs1 hoo;rw[hoo]at hok2;obtain⟨⟨x1,q1⟩,h1⟩:∃y,Bn qk=y:=⟨_,rfl⟩;obtain⟨⟨l2,q2⟩,h2⟩:∃y,Ao 255 q1=y:=⟨_,rfl⟩;obtain⟨⟨x3,q3⟩,h3⟩:∃y,Bn q2=y:=⟨_,rfl⟩;simp only[h1,h2,h3]at hoa;rw[hoa]at hs1 hok2 hlA;simp only at hs1 hok2 hlA
    have g4:=Nu hlA;have K4:=fun W (h:RdF W g q3)=>Ns g q3 W h
    have K5:=fun W (h:RdF W g (Bh q3).2)=>El g 64 (Bh q3).2 W h g4
    simp only[Qu]at K4;generalize (Bh q3).2=q4 at *;obtain⟨⟨pp,np⟩,h4⟩:∃y,Cf Ah.ok Bb (Bh q3)=y:=⟨_,rfl⟩;rw[h4]at hs1 hok2 K4;obtain⟨⟨l5,q5⟩,h5⟩:∃y,Ao 64 q4=y:=⟨_,rfl⟩;rw[h5]at hs1 hok2 K5;simp only at hs1 hok2 K4 K5
    have K4:=Zh K4;have K5:=Zh K5;have g1:q1.s.length<=9223372036854775807:=by have:=Nat.le_trans (Hx hlen) hlen;rw[h1]at this;exact this
    have K1:=Zh (fun W (h:RdF W g qk)=>Eu g qk W h);have K2:=Zh (fun W (h:RdF W g q1)=>El g 255 q1 W h g1);have K3:=Zh (fun W (h:RdF W g q2)=>Eu g q2 W h);rw[h1]at K1;rw[h2]at K2;rw[h3]at K3;simp only at K1 K2 K3
    have hx0:=(Below.refl wr.heap.size wr).alloc (Nat.le_refl _) (.cells Dx.vals.toArray 126);have I0:InE g b B wr.heap.size qk Dx.vals { z with ea:=A,en:=k,ec:=c } ((Bd true q k).1.map Entry.vals) w (wr.alloc (.cells Dx.vals.toArray 126)):=
     ⟨hgB,hbB,hne,by omega,hR.stays hx0,Blk.new wr 126 Dx.vals,hA.stays hx0,As.stays hRow hx0,fun j hj=>by have:=(As.lt hRow j hj).2;omega,hT.Ay (Touch.Aq hx0 _)⟩
    obtain⟨wy,hwy⟩:∃V,V=wr.alloc (.cells Dx.vals.toArray 126):=⟨_,rfl⟩;rw[<-hwy]at I0;have HWY:=Zh hwy;have HS:=Zh hs1;have HOK:=Zh hok2;have hiw:IntKind.i64.wrap ((k:Int)+1)=(k:Int)+1:=IntWalk.i64_in _ (by omega);clear hR hRow hT hs1 hA hwy h1 h2 h3 h4 h5 hok hok2 hoe hoo hoa hlen hlA hx0;go_wp2_with fail;change Calls _ _ _ (wr.alloc (.cells Dx.vals.toArray 126)) _;rw[<-HWY.out];refine(K1.out _ I0.R).mono ?_
    rintro e w1 ⟨rfl,hQ⟩;have I1:=I0.read hQ;have c0:=I1.E.cell 0;have z0:=I1.E.frozen 0;have I2:=I1.set 0 (.int .i64 x1);clear hQ I0 I1;go_wp2_with fail;obtain⟨wa,hw⟩:∃V,V=w1.setCell ⟨wr.heap.size,0,none⟩ (.int .i64 x1):=⟨_,rfl⟩;rw[<-hw]at I2;have HWN:=Zh hw;clear hw;rw[<-HWN.out];clear HWN c0 z0;refine(K2.out _ I2.R).mono ?_
    rintro e w2 ⟨rfl,hQ⟩;have I3:=I2.read hQ;have c0:=I3.E.cell 1;have z0:=I3.E.frozen 1;have I4:=I3.set 1 (.string (bs l2));clear hQ I2 I3;go_wp2_with fail;obtain⟨wb,hw⟩:∃V,V=w2.setCell ⟨wr.heap.size,1,none⟩ (.string (bs l2)):=⟨_,rfl⟩;rw[<-hw]at I4;have HWN:=Zh hw;clear hw;rw[<-HWN.out];clear HWN c0 z0;refine(K3.out _ I4.R).mono ?_
    rintro e w3 ⟨rfl,hQ⟩;have I5:=I4.read hQ;have c0:=I5.E.cell 2;have z0:=I5.E.frozen 2;have I6:=I5.set 2 (.int .i64 x3);clear hQ I4 I5;go_wp2_with fail;obtain⟨wc,hw⟩:∃V,V=w3.setCell ⟨wr.heap.size,2,none⟩ (.int .i64 x3):=⟨_,rfl⟩;rw[<-hw]at I6;have HWN:=Zh hw;clear hw;rw[<-HWN.out];clear HWN c0 z0;refine(K4.out _ I6.R).mono ?_
    rintro e w4 ⟨rfl,hQ⟩;have I7:=I6.read hQ;have bE:=I7.E;have I8:=I7.Ml 3 pp.vals;clear hQ I6 I7;obtain⟨wd,hw⟩:∃V,V=w4.setCells wr.heap.size 3 pp.vals:=⟨_,rfl⟩;rw[<-hw]at I8;have HWN:=Zh hw;clear hw
    go_wp2_with (first
     |(refine Ax (by rfl) 45 _ _ (by rfl) wr.heap.size 3 pp.vals _ bE (by simp[Ah.len,Entry.len]) (by rfl) (by rfl) (by kernel_rfl) (Ah.one _) ?_;rw[<-HWN.out])
     |fail)
    clear HWN bE;refine(K5.out _ I8.R).mono ?_
    rintro e w5 ⟨rfl,hQ⟩;have I9:=I8.read hQ;have c0:=I9.E.cell 14;have z0:=I9.E.frozen 14;have I10:=I9.set 14 (.string (bs l5));clear hQ I8 I9;go_wp2_with fail;obtain⟨wf,hw⟩:∃V,V=w5.setCell ⟨wr.heap.size,14,none⟩ (.string (bs l5)):=⟨_,rfl⟩;rw[<-hw]at I10;have HWN:=Zh hw;clear hw;rw[<-HWN.out];clear HWN c0 z0;generalize wf=wc at *;replace I6:InE g b B wr.heap.size q5 (Entry.vals ⟨x1,l2,x3,pp,l5⟩) { z with ea:=A,en:=k,ec:=c } ((Bd true q k).1.map Entry.vals) w wc:=I10;clear I10;have r4:rowOf wc wr.heap.size 0 15=some (Entry.vals ⟨x1,l2,x3,pp,l5⟩).toArray:=I6.E.row 0 15 (by simp[Entry.len]);have c56:wc.cell? ⟨b,56,none⟩=some (.slice A k c):=I6.C.cell 56;have f56:=I6.C.frozen 56;have hap:=As.append (P:=Tryz.prog) 48 48 i0 Tryz.underlying48 hi hz hsize hby rfl (by omega) (by omega) (show As wc.drew _ _ _ _ _ from I6.L) (by have:=I6.T.size;have:wc.drew.heap.size=wc.heap.size:=rfl;omega) (Entry.vals ⟨x1,l2,x3,pp,l5⟩) (Entry.len _) (Entry.one _) (by rw[List.length_map,hone];omega);have HA:=Zh hap;have HI6:=Zh I6;have S0:wc.drew.cell? ⟨b,56,none⟩=some (.slice A k c)/\wc.drew.frozen? ⟨b,56,none⟩=false/\rowOf wc.drew wr.heap.size 0 15=some (Entry.vals ⟨x1,l2,x3,pp,l5⟩).toArray:=⟨c56,f56,r4⟩;have S3:(wc.alloc (.cells (Entry.vals ⟨x1,l2,x3,pp,l5⟩).toArray 126)).cell? ⟨b,56,none⟩=some (.slice A k c):=(I6.C.alloc _).cell 56;clear hap I6;go_region_law (first
     |(refine Cp (by rfl) (.tmp 179) (.tmp 181) #[48,48] (by rfl) _ _ (by rfl) (by rfl) HA.out ?_;rintro v' w' ⟨hR',hb'⟩;obtain⟨A',c',rfl,-⟩:=As.at_ hR';have S4:w'.cell? ⟨b,56,none⟩=some (.slice A k c)/\w'.frozen? ⟨b,56,none⟩=false:=⟨((show Blk wc.drew _ _ _ from HI6.out.C).below (hb' wc.drew (Below.refl _ _)) hbB).cell 56,((show Blk wc.drew _ _ _ from HI6.out.C).below (hb' wc.drew (Below.refl _ _)) hbB).frozen 56⟩))
    all_goals
     have hn1:((Bd true q k).1.map Entry.vals++[Entry.vals ⟨x1,l2,x3,pp,l5⟩]).length=k+1:=by simp[hone]
     rw[hn1]at hR';have hD:=HI6.out.done hR' (hb' wc ((Below.refl _ _).drew));have HD:=Zh hD;clear hD hR' hb' S0 S3 S4 HA HI6 c56 f56 r4 K1 K2 K3 K4 K5 hn1;go_wp2;go_roundw
     case rel=>exact⟨k+1,A',c',np,by omega,rfl,by go_num,by rw[HS.out];exact HD.out.1,by rw[HS.out];exact HOK.out.symm,HD.out.2.1,by rw[HS.out,List.map_append];exact HD.out.2.2.1,HD.out.2.2.2⟩
     case measure=>simp[intOf];omega
   case false=>
    rw[hao]at hok;have HO:=Zh (show aok true q n=false from Aoo hao hk);have HT:=Zh hT;have hbz:=(Art hok).2 rfl;generalize (Bd true q k).2.e=ek at *;clear hT hRow hA hR hok hao;by_cases he:ek=0
    ·have hee:¬ee=0:=fun h=>hbz ⟨h,he⟩
     have hee':(ee==0)=false:=by simpa using hee
     subst he;go_wp2;go_ret;rw[HO.out];exact⟨rfl,fun h=>absurd h (by simp),HT.out⟩
    ·have he':(ek==0)=false:=by simpa using he
     clear hbz;by_cases hee:ee=0
     ·subst hee
      go_wp2;go_ret;rw[HO.out];exact⟨rfl,fun h=>absurd h (by simp),HT.out⟩
     ·have hee':(ee==0)=false:=by simpa using hee
      go_wp2;go_ret;rw[HO.out];exact⟨rfl,fun h=>absurd h (by simp),HT.out⟩
  ·obtain rfl:k=n:=by omega
   have HF:=Zh (And.intro hR (And.intro hA (And.intro hRow hT)));have hone:=Ki true q k;obtain⟨ek,hek⟩:∃v,v=(Bd true q k).2.e:=⟨_,rfl⟩;rw[<-hek]at hE hok;have HO:=Zh hok.symm;clear hT hRow hA hR hek hok;by_cases hee:ee=0
   ·subst hee
    by_cases h0:ek=0
    ·subst h0
     go_wp2;go_ret;rw[HO.out,hone];exact⟨rfl,fun _=>⟨A,c,HF.out.2.1,HF.out.1,HF.out.2.2.1⟩,HF.out.2.2.2⟩
    ·have h0':(ek==0)=false:=by simpa using h0
     go_wp2;go_ret;rw[HO.out,h0'];exact⟨rfl,fun h=>absurd h (by simp),HF.out.2.2.2⟩
   ·have hee':(ee==0)=false:=by simpa using hee
    go_wp2;go_ret;rw[HO.out,hee'];exact⟨rfl,fun h=>absurd h (by simp),HF.out.2.2.2⟩
end
def Acg (c:Nat):Bool:=c==110 || (c==108 || c==112)
def Qn (B b:Nat)(row:Bool)(d:Dd)(W:World):Prop:=
 ∃z:Aa,Blk W b 51 z.vals/\z.bare=d.f/\As W B 126 15 (.slice z.ea z.en z.ec) (d.es.map Entry.vals)/\As W B 3 1 (.slice z.ua z.un z.uc) (d.us.map Fz) /\
  (row=false->(z.ea=none/\z.en=0/\z.ec=0)/\(z.ua=none/\z.un=0/\z.uc=0))
theorem As.Jk {w w':World}{B e sz:Nat}{v:Value}{rows:List (List Value)}{g b:Nat}(h:As w B e sz v rows)(hg:g<B)(hb:b<B)(hT:Touch (fun k=>k=g\/k=b) w w'):As w' B e sz v rows:=
 As.Ak h hT fun k hk hf=>by have:=(As.lt h k hk).1;omega
theorem As.Ag8 {w:World}{B e sz:Nat}{rows:List (List Value)}(h:As w B e sz (.slice none 0 0) rows):rows=[]:=by
 rcases h.2.2 with ⟨_,h⟩|⟨g,cap,cur,hv,_⟩
 ·exact List.eq_nil_of_length_eq_zero h
 ·cases hv
theorem Touch.fb {g b B:Nat}{w w':World}(h:Touch (fun k=>k=g\/k=b) w w'):Touch (FB g b B) w w':=h.mono fun _ _ hk=>hk.elim .inl fun h=>.inr (.inl h)
def Ash (c g b B:Nat)(row:Bool)(d:Dd)(r:Rs)(w:World)(e:Ending)(w':World):Prop:=
 e=.returned (.bool (Qr c r))/\(Qr c r=true->Qn B b (row || Acg c) (pTk c d r).1 w'/\RdF w' g (pTk c d r).2)/\Touch (FB g b B) w w'
theorem Ak1 (g b B:Nat)(row:Bool)(d:Dd)(r:Rs)(c:Nat)(hc:Hp c)(w:World)(hR:RdF w g r)(hD:Qn B b row d w)(hne:b≠g)(hg:g<B)(hb:b<B)(hB:B<=w.heap.size)(hrow:Acg c=true->row=false)(hl:r.s.length<=9223372036854775807) :
  Calls Tryz.prog 105 #[.pointer (some ⟨g,0,none⟩),.pointer (some ⟨b,0,none⟩),.int .u8 c] w (Ash c g b B row d r w):=by
 obtain⟨z,hA,hz,hE,hU,h0⟩:=hD;obtain⟨df,des,dus⟩:=d;simp only at hz hE hU
 subst hz;have hor:∀x:Bool,(x || false)=x:=fun x=>by simp
 rcases hc with rfl|rfl|rfl|rfl|rfl|rfl|rfl|rfl|rfl|rfl|rfl|rfl|rfl|rfl
 ·refine(Aqn g b z r w hR hA hne hl).mono ?_
  rintro e w' ⟨rfl,hT⟩;exact⟨rfl,fun _=>⟨⟨_,hT.C,rfl,hE.Jk hg hb hT.T,hU.Jk hg hb hT.T,fun h=>h0 ((hor row).symm.trans h)⟩,hT.R⟩,hT.T.fb⟩
 ·refine(Aqr g b z r w hR hA hne hl).mono ?_
  rintro e w' ⟨rfl,hT⟩;exact⟨rfl,fun _=>⟨⟨_,hT.C,rfl,hE.Jk hg hb hT.T,hU.Jk hg hb hT.T,fun h=>h0 ((hor row).symm.trans h)⟩,hT.R⟩,hT.T.fb⟩
 ·refine(Anp g b z r w hR hA hne hl).mono ?_
  rintro e w' ⟨rfl,hT⟩;exact⟨rfl,fun _=>⟨⟨_,hT.C,rfl,hE.Jk hg hb hT.T,hU.Jk hg hb hT.T,fun h=>h0 ((hor row).symm.trans h)⟩,hT.R⟩,hT.T.fb⟩
 ·refine(Aqh g b z r w hR hA hne hl).mono ?_
  rintro e w' ⟨rfl,hT⟩;exact⟨rfl,fun _=>⟨⟨_,hT.C,rfl,hE.Jk hg hb hT.T,hU.Jk hg hb hT.T,fun h=>h0 ((hor row).symm.trans h)⟩,hT.R⟩,hT.T.fb⟩
 ·refine(Ann g b z r w hR hA hne hl).mono ?_
  rintro e w' ⟨rfl,hT⟩;exact⟨rfl,fun _=>⟨⟨_,hT.C,rfl,hE.Jk hg hb hT.T,hU.Jk hg hb hT.T,fun h=>h0 ((hor row).symm.trans h)⟩,hT.R⟩,hT.T.fb⟩
 ·refine(Aqg g b z r w hR hA hne hl).mono ?_
  rintro e w' ⟨rfl,hT⟩;exact⟨rfl,fun _=>⟨⟨_,hT.C,rfl,hE.Jk hg hb hT.T,hU.Jk hg hb hT.T,fun h=>h0 ((hor row).symm.trans h)⟩,hT.R⟩,hT.T.fb⟩
 ·refine(Aqq g b z r w hR hA hne hl).mono ?_
  rintro e w' ⟨rfl,hT⟩;exact⟨rfl,fun _=>⟨⟨_,hT.C,rfl,hE.Jk hg hb hT.T,hU.Jk hg hb hT.T,fun h=>h0 ((hor row).symm.trans h)⟩,hT.R⟩,hT.T.fb⟩
 ·refine(Aqj g b z r w hR hA hne hl).mono ?_
  rintro e w' ⟨rfl,hT⟩;exact⟨rfl,fun _=>⟨⟨_,hT.C,rfl,hE.Jk hg hb hT.T,hU.Jk hg hb hT.T,fun h=>h0 ((hor row).symm.trans h)⟩,hT.R⟩,hT.T.fb⟩
 ·refine(Aqi g b z r w hR hA hne hl).mono ?_
  rintro e w' ⟨rfl,hT⟩;exact⟨rfl,fun _=>⟨⟨_,hT.C,rfl,hE.Jk hg hb hT.T,hU.Jk hg hb hT.T,fun h=>h0 ((hor row).symm.trans h)⟩,hT.R⟩,hT.T.fb⟩
 ·refine(Aqo g b z r w hR hA hne hl).mono ?_
  rintro e w' ⟨rfl,hT⟩;exact⟨rfl,fun _=>⟨⟨_,hT.C,rfl,hE.Jk hg hb hT.T,hU.Jk hg hb hT.T,fun h=>h0 ((hor row).symm.trans h)⟩,hT.R⟩,hT.T.fb⟩
 ·refine(Aqp g b z r w hR hA hne hl).mono ?_
  rintro e w' ⟨rfl,hT⟩;exact⟨rfl,fun _=>⟨⟨_,hT.C,rfl,hE.Jk hg hb hT.T,hU.Jk hg hb hT.T,fun h=>h0 ((hor row).symm.trans h)⟩,hT.R⟩,hT.T.fb⟩
 ·obtain⟨he0,hu0⟩:=h0 (hrow rfl)
  have hes:des.map Entry.vals=[]:=by
   obtain⟨e1,e2,e3⟩:=he0;rw[e1,e2,e3]at hE;exact hE.Ag8
  refine(Aql g b B z r w hR hA hne hg hb hB hu0).mono ?_
  rintro e w' ⟨rfl,hok,hT⟩;refine⟨rfl,fun h=>?_,hT⟩
  obtain⟨A,cp,hk,hr,hr2⟩:=hok h;refine⟨⟨_,hk,rfl,?_,hr2,fun h=>?_⟩,hr⟩
  ·show As w' B 126 15 (.slice z.ea z.en z.ec) (des.map Entry.vals)
   obtain⟨e1,e2,e3⟩:=he0;rw[e1,e2,e3,hes];exact As.none_
  ·simp[Acg]at h
 ·obtain⟨he0,hu0⟩:=h0 (hrow rfl)
  have hus:dus.map Fz=[]:=by
   obtain⟨e1,e2,e3⟩:=hu0;rw[e1,e2,e3]at hU;exact hU.Ag8
  refine(Aqm g b B z r w hR hA hne hg hb hB he0 hl).mono ?_
  rintro e w' ⟨rfl,hok,hT⟩;refine⟨rfl,fun h=>?_,hT⟩
  obtain⟨A,cp,hk,hr,hr2⟩:=hok h;refine⟨⟨_,hk,rfl,hr2,?_,fun h=>?_⟩,hr⟩
  ·show As w' B 3 1 (.slice z.ua z.un z.uc) (dus.map Fz)
   obtain⟨e1,e2,e3⟩:=hu0;rw[e1,e2,e3,hus];exact As.none_
  ·simp[Acg]at h
 ·obtain⟨he0,hu0⟩:=h0 (hrow rfl)
  have hus:dus.map Fz=[]:=by
   obtain⟨e1,e2,e3⟩:=hu0;rw[e1,e2,e3]at hU;exact hU.Ag8
  refine(Aqk g b B z r w hR hA hne hg hb hB he0 hl).mono ?_
  rintro e w' ⟨rfl,hok,hT⟩;refine⟨rfl,fun h=>?_,hT⟩
  obtain⟨A,cp,hk,hr,hr2⟩:=hok h;refine⟨⟨_,hk,rfl,hr2,?_,fun h=>?_⟩,hr⟩
  ·show As w' B 3 1 (.slice z.ua z.un z.uc) (dus.map Fz)
   obtain⟨e1,e2,e3⟩:=hu0;rw[e1,e2,e3,hus];exact As.none_
  ·simp[Acg]at h
attribute [local go_sem] Aa.at0 Aa.Bo Aa.at1 Aa.Bk Aa.at2 Aa.Ca Aa.at3 Aa.Cg Aa.at4 Aa.Cx Aa.at5 Aa.Cw Aa.at6 Aa.Cv Aa.at7 Aa.Cu Aa.at8 Aa.Ct Aa.at9 Aa.Cs Aa.Ee Aa.C4 Aa.Fm Aa.Dm Aa.Fl Aa.Dl Aa.Ia Aa.Ep Aa.H9 Aa.Eo Aa.Lx Aa.Hg Aa.Lw Aa.Hf Aa.Lv Aa.He Aa.Lu Aa.Hd Aa.Lt Aa.Hc Aa.Ls Aa.Ha Aa.Lr Aa.G9 Aa.Lq Aa.G8 Aa.Lp Aa.G7 Aa.Aah Aa.Sx Aa.Aag Aa.Sw Aa.Aaf Aa.Sv Aa.Aae Aa.Su Aa.Aad Aa.St Aa.Aac Aa.Ss Aa.Afz Aa.Wn Aa.Afy Aa.Wm Aa.Afx Aa.Wl Aa.Afw Aa.Wk Aa.Afv Aa.Wj Aa.Afu Aa.Wi Aa.Aft Aa.Wh Aa.Afs Aa.Wg Aa.Afr Aa.Wf Aa.Afq Aa.We Aa.Afp Aa.Wd Aa.Afo Aa.Wc Aa.Afn Aa.Wb Aa.Afm Aa.Wa Aa.Afl Aa.V9 Aa.Afk Aa.V8 Aa.Afj Aa.V7 Aa.Afi Aa.V6 Aa.Afh Aa.V0 Aa.Afg Aa.Vz Aa.Aff Aa.Vy Aa.Afe Aa.Vx Aa.Afd Aa.Vw Aa.Afc Aa.Vv Aa.Afb Aa.Vu Aa.Afa Aa.Vt Aa.Ae9 Aa.Vs Aa.Ae8 Aa.Vr Aa.Oq Aa.Mu Aa.Fa Aa.Ec Aa.E9 Aa.Eb Aa.Mj Aa.Kh Aa.Mi Aa.Kg Aa.Mh Aa.Kf Aa.Oo Aa.Mt Aa.Mg Aa.Ke Aa.Mf Aa.Kd Aa.Me Aa.Kc Aa.On Aa.Ms Aa.Md Aa.Kb Aa.Mc Aa.Ka Aa.len
section
attribute [local go_sem ↓] Qg
theorem RdF.new8 (w:World)(s:List UInt8)(h:s.length<=1000000000000000000):RdF (w.alloc (.cells #[.string (bs s),.int .i64 0,.int .i64 0] 131)) w.heap.size ⟨s,0⟩:=
 ⟨s,0,Blk.new _ _ _,Nat.zero_le _,h,fun _=>rfl,fun h=>absurd rfl h⟩
theorem Xj (fine:Bool):∀s∈Dn fine,s.length<=9:=by cases fine<;>decide
theorem Pb (p:Int)(fine:Bool):(Bg p fine).length<=9:=by
 unfold Bg;split
 ·simp
 ·rcases Nat.lt_or_ge p.toNat (Dn fine).length with h|h
  ·have he:(Dn fine).getD p.toNat []=(Dn fine)[p.toNat]:=by simp[List.getD,List.getElem?_eq_getElem h]
   rw[he];exact Xj fine _ (List.getElem_mem h)
  ·simp[List.getD,List.getElem?_eq_none h]
def Aap (c:Nat):Nat:=if Acg c then 0 else c
theorem U3 (fine:Bool):∀s∈Dn fine,(s.map fun c=>Aap c.toNat).Nodup:=by cases fine<;>decide
theorem Yo (p:Int)(fine:Bool):((Bg p fine).map fun c=>Aap c.toNat).Nodup:=by
 unfold Bg;split
 ·exact List.nodup_nil
 ·rcases Nat.lt_or_ge p.toNat (Dn fine).length with h|h
  ·have he:(Dn fine).getD p.toNat []=(Dn fine)[p.toNat]:=by simp[List.getD,List.getElem?_eq_getElem h]
   rw[he];exact U3 fine _ (List.getElem_mem h)
  ·simp[List.getD,List.getElem?_eq_none h]
def X6 (l:List UInt8)(k:Nat):Bool:=(l.take k).any fun c=>Acg c.toNat
theorem Agp (l:List UInt8)(k:Nat)(hk:k<l.length):X6 l (k+1)=(X6 l k || Acg l[k].toNat):=by
 unfold X6;rw[List.take_add_one,List.getElem?_eq_getElem hk,List.any_append];simp
theorem Amb {l:List UInt8}(hn:(l.map fun c=>Aap c.toNat).Nodup){k:Nat}(hk:k<l.length)(h:Acg l[k].toNat=true):X6 l k=false:=by
 rw[Bool.eq_false_iff];intro hu;unfold X6 at hu;obtain⟨c,hc,hp⟩:=List.any_eq_true.1 hu;obtain⟨j,hj,rfl⟩:=List.getElem_of_mem hc;have hj2:j<k:=by rw[List.length_take]at hj;omega
 rw[List.getElem_take]at hp;have:=(List.pairwise_iff_getElem.1 hn) j k (by rw[List.length_map];omega) (by rw[List.length_map];omega) hj2;rw[List.getElem_map,List.getElem_map]at this;refine this ?_
 show Aap _=Aap _
 unfold Aap;rw[if_pos hp,if_pos h]
def Xf (x:Option Dd)(w:World)(e:Ending)(w':World):Prop:=
 (match x with
  |some d=>∃z:Aa,e=.returned (.tuple #[.agg z.vals.toArray,.bool true])/\z.bare=d.f/\As w' w.heap.size 126 15 (.slice z.ea z.en z.ec) (d.es.map Entry.vals)/\As w' w.heap.size 3 1 (.slice z.ua z.un z.uc) (d.us.map Fz)
  |none=>e=.returned (.tuple #[.agg Bt.vals.toArray,.bool false]))/\Below w.heap.size w w'
theorem Xf.no {x:Option Dd}{w w':World}(h:x=none)(hB:Below w.heap.size w w'):Xf x w (.returned (.tuple #[.agg Bt.vals.toArray,.bool false])) w':=by subst h;exact⟨rfl,hB⟩
theorem Qn.stays {B b:Nat}{row:Bool}{d:Dd}{W W':World}(h:Qn B b row d W)(hb:Below W.heap.size W W'):Qn B b row d W':=by
 obtain⟨z,hA,hz,hE,hU,h0⟩:=h;exact⟨z,hA.stays hb,hz,As.stays hE hb,As.stays hU hb,h0⟩
theorem Adp (p:Int)(s:List UInt8)(w:World)(hl:s.length<=1000000000000000000) :
  Calls Tryz.prog 47 #[.int .i64 p,.string (bs s)] w (Xf (Ok p s) w):=by
 have b0:=Blk.new w 51 Bt.vals;have hB0:Below w.heap.size w (w.alloc (.cells Bt.vals.toArray 51)):=(Below.refl _ _).alloc (Nat.le_refl _) _;have hs0:(w.alloc (.cells Bt.vals.toArray 51)).heap.size=w.heap.size+1:=by simp
 have K:=fun W g (h:RdF W g ⟨s,0⟩)=>Dv g ⟨s,0⟩ W h
 have HP:=Zh (show Ok p s=if (Am ⟨s,0⟩).2.e≠0\/Ih (Am ⟨s,0⟩).1=false then none
  else if (∀k,k<(Bg p ((Am ⟨s,0⟩).1==0)).length->Nv (Bg p ((Am ⟨s,0⟩).1==0)) (Ir (Am ⟨s,0⟩).1) (Am ⟨s,0⟩).2 k=true) /\
   Qq (pSt (Bg p ((Am ⟨s,0⟩).1==0)) (Ir (Am ⟨s,0⟩).1) (Am ⟨s,0⟩).2 (Bg p ((Am ⟨s,0⟩).1==0)).length).2=0
  then some (pSt (Bg p ((Am ⟨s,0⟩).1==0)) (Ir (Am ⟨s,0⟩).1) (Am ⟨s,0⟩).2 (Bg p ((Am ⟨s,0⟩).1==0)).length).1 else none from rfl)
 have hq:(Am ⟨s,0⟩).2.s.length<=9223372036854775807:=by
  have h1:(⟨s,0⟩:Rs).s.length<=9223372036854775807:=by show s.length<=_;omega
  exact Nat.le_trans (Em h1) h1
 generalize Ok p s=RES at *;generalize Am ⟨s,0⟩=y at *;obtain⟨n,q⟩:=y;simp only at K HP hq
 have K:=Zh K;have hR1:=RdF.new8 (w.alloc (.cells Bt.vals.toArray 51)) s hl;have hB1:Below (w.alloc (.cells Bt.vals.toArray 51)).heap.size (w.alloc (.cells Bt.vals.toArray 51)) ((w.alloc (.cells Bt.vals.toArray 51)).alloc (.cells #[.string (bs s),.int .i64 0,.int .i64 0] 131)):=(Below.refl _ _).alloc (Nat.le_refl _) _;obtain⟨w1,hw1⟩:∃V,V=(w.alloc (.cells Bt.vals.toArray 51)).alloc (.cells #[.string (bs s),.int .i64 0,.int .i64 0] 131):=⟨_,rfl⟩;rw[<-hw1]at hR1 hB1;rw[hs0]at hR1;replace b0:=b0.stays hB1;have hBB1:=Ad hB0 hB1;have HW1:=Zh hw1;clear hB0 hB1 hs0 hw1;go_enter Tryz.func47,Tryz.ntmps47
 go_wp2_with fail;change Calls _ _ _ ((w.alloc (.cells Bt.vals.toArray 51)).alloc (.cells #[.string (bs s),.int .i64 0,.int .i64 0] 131)) _;rw[<-HW1.out];refine(K.out _ _ hR1).mono ?_
 rintro e w2 ⟨rfl,hQ⟩;have hg0:w.heap.size≠w.heap.size+1:=by omega
 replace b0:=hQ.keeps b0 hg0;have hlw:=b0.lt;have hB2:=hBB1.trans (hQ.below (B:=w.heap.size) (by omega) hBB1.size);have hgl:=hQ.1.lt;obtain⟨z,hz⟩:∃z:Aa,z={ Bt with status:=n }:=⟨_,rfl⟩;have hx:=(Below.refl w2.heap.size w2).alloc (Nat.le_refl _) (.cells z.vals.toArray 51);have x3:=Blk.new w2 51 z.vals;have hsz3:(w2.alloc (.cells z.vals.toArray 51)).heap.size=w2.heap.size+1:=by simp
 obtain⟨w3,hw3⟩:∃V,V=w2.alloc (.cells z.vals.toArray 51):=⟨_,rfl⟩;rw[<-hw3]at hx x3 hsz3;have HW3:=Zh hw3;have HZ:=Zh hz;replace b0:=b0.stays hx;have hR3:=hQ.1.stays hx;have HB:=Zh (Ad hB2 hx);have c0:w3.cell? ⟨w2.heap.size,0,none⟩=some (.int .i64 n):=by rw[x3.cell 0,HZ.out];rfl
 have hE3:=A6.err hR3;clear hQ hB2 hx hw3 hz hBB1 hR1 K;by_cases he:q.e=0
 case neg=>
  have he2:(q.e != 0)=true:=by simpa using he
  go_wp2_with (first
   |(refine De (by rfl) 51 _ _ (by rfl) z.vals Bt.vals w2 51 rfl (by rfl) (by rfl) (by rw[HZ.out];rfl) (by kernel_rfl) (Aa.one _) ?_;rw[<-HW3.out])
   |(refine Ae (by rfl) 51 _ _ (by rfl) w.heap.size Bt.vals _ b0 (by rfl) (by rfl) (by rfl) (by kernel_rfl) (Aa.one _) ?_)
   |fail)
  refine Ap w.heap.size 0 Bt.vals (.bool false) Tryz.results47 Tryz.underlying51 rfl (by kernel_rfl) rfl rfl (b0.whole (by rfl)).range rfl ?_
  exact Xf.no (by rw[HP.out];grind) (Below.Bf HB.out (Nat.le_refl _) _)
 rw[he]at hE3
 go_wp2_with (first
  |(refine De (by rfl) 51 _ _ (by rfl) z.vals Bt.vals w2 51 rfl (by rfl) (by rfl) (by rw[HZ.out];rfl) (by kernel_rfl) (Aa.one _) ?_;rw[<-HW3.out])
  |fail)
 refine(Sm n _).mono ?_
 rintro e w4 ⟨rfl,hb⟩;replace b0:=b0.stays hb;replace x3:=x3.stays hb;replace hR3:=hR3.stays hb;have hsz4:=hb.size;replace HB:=Zh (Ad HB.out hb);have c0:w4.cell? ⟨w2.heap.size,0,none⟩=some (.int .i64 n):=by rw[x3.cell 0,HZ.out];rfl
 clear hb hE3;cases hk:Ih n
 case false=>
  go_wp2_with (first|(refine Ae (by rfl) 51 _ _ (by rfl) w.heap.size Bt.vals _ b0 (by rfl) (by rfl) (by rfl) (by kernel_rfl) (Aa.one _) ?_)|fail)
  refine Ap w.heap.size 0 Bt.vals (.bool false) Tryz.results47 Tryz.underlying51 rfl (by kernel_rfl) rfl rfl (b0.whole (by rfl)).range rfl ?_
  exact Xf.no (by rw[HP.out,if_pos (.inr hk)]) (Below.Bf HB.out (Nat.le_refl _) _)
 have HP2:=Zh (HP.out.trans (if_neg (show ¬(q.e≠0\/Ih n=false) by simp[he,hk])));have KF:=Nt p (n==0);have hlet0:∀k (hk:k<(Bg p (n==0)).length),(Bg p (n==0))[k].toNat<128/\Hp (Bg p (n==0))[k].toNat:=fun k hk=>G5 p _ hk
 have hnd:=Z8 p (n==0);have hnr:=Yo p (n==0);obtain⟨l,hlf⟩:∃l,l=Bg p (n==0):=⟨_,rfl⟩;have hsh:l.length<=9:=by rw[hlf];exact Pb p _
 rw[<-hlf]at HP2 KF hlet0 hnd hnr;have KF:=Zh KF;have hbe:((n:Int)==0)=(n==0):=by rw[Bool.eq_iff_iff];simp
 have HBE:=Zh hbe;clear hlf HP hk hbe;go_wp2_with fail;rw[HBE.out];refine(KF.out _).mono ?_
 rintro e w5 ⟨rfl,hb⟩;have hD0:Qn (w2.heap.size+1) w2.heap.size false (Ir n) w5:=⟨z,x3.stays hb,by rw[HZ.out];rfl,by rw[HZ.out];exact As.none_,by rw[HZ.out];exact As.none_,fun _=>by rw[HZ.out];exact⟨⟨rfl,rfl,rfl⟩,⟨rfl,rfl,rfl⟩⟩⟩;replace b0:=b0.stays hb;replace hR3:=hR3.stays hb;replace HB:=Zh (Ad HB.out hb);have hsz5:w2.heap.size+1<=w5.heap.size:=by have:=hb.size;omega
 clear hb x3 c0 KF hsz4 hsz3;have hbs:=Au l;have HST:=Zh (fun k (hk:k<l.length)=>(show Nv l (Ir n) q k=Qr l[k].toNat (pSt l (Ir n) q k).2 by simp[Nv,List.getD,List.getElem?_eq_getElem hk]));have HSS:=Zh (fun k hk=>Ps l (Ir n) q k hk);have HSL:=Zh (fun k hk=>Xp l (Ir n) hq k hk);have HSE:=Zh (fun hok=>(Amu l (fun k hk=>(hlet0 k hk).2) hnd (Ir n) q he hq hok l.length (Nat.le_refl _)).2.1);have HND:=Zh (fun k hk=>Amb hnr (k:=k) hk);have HRU:=Zh (fun k hk=>Agp l k hk);clear hnd hnr;go_wp2
 go_loopw [9] (fun iv wr=>∃k:Nat,k<=l.length/\iv=.int .i64 k/\(∀j,j<k->Nv l (Ir n) q j=true)/\Qn (w2.heap.size+1) w2.heap.size (X6 l k) (pSt l (Ir n) q k).1 wr/\RdF wr (w.heap.size+1) (pSt l (Ir n) q k).2/\Blk wr w.heap.size 51 Bt.vals/\Below w.heap.size w wr/\w2.heap.size+1<=wr.heap.size) (fun iv _=>l.length - (intOf iv).toNat)
 case atStart=>exact⟨0,Nat.zero_le _,rfl,fun _ h=>absurd h (Nat.not_lt_zero _),hD0,hR3,b0,HB.out,hsz5⟩
 case round=>
  clear hD0 hR3 b0 HB;obtain⟨k,hk,rfl,hall,hD,hR,b0,hB,hsw⟩:=hrel;by_cases hlk:k<l.length
  ·have hqv:((bs l)[k]'(by rw[hbs];exact hlk)).toNat=l[k].toNat:=rfl
   have KT:=Zh (Ak1 (w.heap.size+1) w2.heap.size (w2.heap.size+1) (X6 l k) _ _ l[k].toNat (hlet0 k hlk).2 wr hR hD (by omega) (by omega) (by omega) hsw (HND.out k hlk) (HSL.out k hk));go_wp2_with fail;refine KT.out.mono ?_
   rintro e w7 ⟨rfl,hok,hT⟩;have b3:=b0.Ak hT (fun e=>by rcases e with e|e|e<;>omega);have hB3:=hB.trans (hT.below (B:=w.heap.size) (fun j _ hf=>by rcases hf with rfl|rfl|hf<;>omega) hB.size);have hsw7:=hT.size;cases hb:Qr l[k].toNat (pSt l (Ir n) q k).2
   case true=>
    obtain⟨hD3,hR3⟩:=hok hb;rw[<-HSS.out k hlk]at hD3 hR3;rw[<-HRU.out k hlk]at hD3;have HALL:=Zh (show ∀j,j<k+1->Nv l (Ir n) q j=true from fun j hj=>by
     rcases Nat.lt_or_ge j k with h|h
     ·exact hall j h
     ·obtain rfl:j=k:=by omega
      rw[HST.out j hlk];exact hb)
    have hiw:IntKind.i64.wrap ((k:Int)+1)=(k:Int)+1:=IntWalk.i64_in _ (by omega);clear hD hR hB b0 hok hall KT hT;go_wp2;go_roundw
    case rel=>exact⟨k+1,by omega,by go_num,HALL.out,hD3,hR3,b3,hB3,by omega⟩
    case measure=>simp[intOf];omega
   case false=>
    have HN:=Zh (show RES=none by
     rw[HP2.out];refine if_neg fun h=>?_
     have:=h.1 k hlk;rw[HST.out k hlk,hb]at this;cases this)
    have b0:=b3;have HB:=Zh hB3;clear hD hR hB hok hall KT hT
    go_wp2_with (first|(refine Ae (by rfl) 51 _ _ (by rfl) w.heap.size Bt.vals _ b0 (by rfl) (by rfl) (by rfl) (by kernel_rfl) (Aa.one _) ?_)|fail)
    refine Ap w.heap.size 0 Bt.vals (.bool false) Tryz.results47 Tryz.underlying51 rfl (by kernel_rfl) rfl rfl (b0.whole (by rfl)).range rfl ?_
    exact Xf.no HN.out (Below.Bf HB.out (Nat.le_refl _) _)
  ·obtain rfl:k=l.length:=by omega
   have HB:=Zh hB;have HALL:=Zh hall;have HD:=Zh hD;have HR:=Zh hR;have hQE:=HSE.out hall;clear hB hall hD hR;go_wp2_with fail;refine(Ra _ _ _ HR.out).mono ?_
   rintro e w7 ⟨rfl,hb7⟩;replace b0:=b0.stays hb7;replace HB:=Zh (Ad HB.out hb7);replace HD:=Zh (HD.out.stays hb7);clear hb7 HR;by_cases hd:0<J9 (pSt l (Ir n) q l.length).2
   case pos=>
    have HN:=Zh (show RES=none by
     rw[HP2.out];exact if_neg fun h=>(Yl.1 h.2).2 hd)
    go_wp2_with (first|(refine Ae (by rfl) 51 _ _ (by rfl) w.heap.size Bt.vals _ b0 (by rfl) (by rfl) (by rfl) (by kernel_rfl) (Aa.one _) ?_)|fail)
    refine Ap w.heap.size 0 Bt.vals (.bool false) Tryz.results47 Tryz.underlying51 rfl (by kernel_rfl) rfl rfl (b0.whole (by rfl)).range rfl ?_
    exact Xf.no HN.out (Below.Bf HB.out (Nat.le_refl _) _)
   have HS:=Zh (show RES=some (pSt l (Ir n) q l.length).1 by
    rw[HP2.out];exact if_pos ⟨HALL.out,Yl.2 ⟨hQE,hd⟩⟩)
   obtain⟨z',hA,hz',hE,hU,-⟩:=HD.out;have r4:=hA.row 0 58 (by simp[Aa.len]);rw[show (z'.vals.drop 0).take 58=z'.vals by rw[List.drop_zero,List.take_of_length_le (by rw[Aa.len];omega)]]at r4;have hTz:=Touch.setCells (F:=fun k=>k=w.heap.size) (g:=w.heap.size) (.inl rfl) z'.vals 0 w7 (Touch.refl _ _);have hE2:=As.base (C:=w.heap.size) (As.Ak hE hTz (fun k hk hf=>by subst hf;exact Blk.M1 hE.2 b0 (by decide) hk)) (by omega);have hU2:=As.base (C:=w.heap.size) (As.Ak hU hTz (fun k hk hf=>by subst hf;exact Blk.M1 hU.2 b0 (by decide) hk)) (by omega);have HL:=Zh (And.intro hz' (And.intro hE2 (And.intro hU2 (Below.Bf HB.out (Nat.le_refl _) z'.vals))));clear hz' hE hU hE2 hU2 hTz hA
   go_wp2_with (first|(refine Ae (by rfl) 51 _ _ (by rfl) w.heap.size z'.vals _ b0 (by rfl) (by rfl) (by rfl) (by kernel_rfl) (Aa.one _) ?_)|fail)
   refine Ap w.heap.size 0 z'.vals (.bool true) Tryz.results47 Tryz.underlying51 rfl (by kernel_rfl) rfl rfl (b0.whole (by rfl)).range rfl ?_
   rw[HS.out];exact⟨⟨z',rfl,HL.out.1,HL.out.2.1,HL.out.2.2.1⟩,HL.out.2.2.2⟩
end
end Go.Proofs.YtfjflkmhhbhceaaGreatDoor
