/-
  Layer 8, walks: the document's Bytes of results (written by wip/tools/genbytes8.py). Conditions: the results may be; their numbers are machine numbers.
-/
import Derived.Test.YtfjflkmhhbhceaaGreatDoorO22
import Derived.Test.YtfjflkmhhbhceaaGreatDoorO42
set_option maxRecDepth 20000
set_option maxHeartbeats 40000000
namespace Go.Proofs.YtfjflkmhhbhceaaGreatDoor
open Go.RowKit
attribute [local go_sem ↓] Go.wp_at_zero Go.wp_at_succ
attribute [local go_sem] Ai Ag Af Ab Aj
attribute [local go_sem] Aa.at0 Aa.Bo Aa.at1 Aa.Bk Aa.at2 Aa.Ca Aa.at3 Aa.Cg Aa.at4 Aa.Cx Aa.at5 Aa.Cw Aa.at6 Aa.Cv Aa.at7 Aa.Cu Aa.at8 Aa.Ct Aa.at9 Aa.Cs Aa.Ee Aa.C4 Aa.Fm Aa.Dm Aa.Fl Aa.Dl Aa.Ia Aa.Ep Aa.H9 Aa.Eo Aa.Lx Aa.Hg Aa.Lw Aa.Hf Aa.Lv Aa.He Aa.Lu Aa.Hd Aa.Lt Aa.Hc Aa.Ls Aa.Ha Aa.Lr Aa.G9 Aa.Lq Aa.G8 Aa.Lp Aa.G7 Aa.Aah Aa.Sx Aa.Aag Aa.Sw Aa.Aaf Aa.Sv Aa.Aae Aa.Su Aa.Aad Aa.St Aa.Aac Aa.Ss Aa.Afz Aa.Wn Aa.Afy Aa.Wm Aa.Afx Aa.Wl Aa.Afw Aa.Wk Aa.Afv Aa.Wj Aa.Afu Aa.Wi Aa.Aft Aa.Wh Aa.Afs Aa.Wg Aa.Afr Aa.Wf Aa.Afq Aa.We Aa.Afp Aa.Wd Aa.Afo Aa.Wc Aa.Afn Aa.Wb Aa.Afm Aa.Wa Aa.Afl Aa.V9 Aa.Afk Aa.V8 Aa.Afj Aa.V7 Aa.Afi Aa.V6 Aa.Afh Aa.V0 Aa.Afg Aa.Vz Aa.Aff Aa.Vy Aa.Afe Aa.Vx Aa.Afd Aa.Vw Aa.Afc Aa.Vv Aa.Afb Aa.Vu Aa.Afa Aa.Vt Aa.Ae9 Aa.Vs Aa.Ae8 Aa.Vr Aa.Oq Aa.Mu Aa.Fa Aa.Ec Aa.E9 Aa.Eb Aa.Mj Aa.Kh Aa.Mi Aa.Kg Aa.Mh Aa.Kf Aa.Oo Aa.Mt Aa.Mg Aa.Ke Aa.Mf Aa.Kd Aa.Me Aa.Kc Aa.On Aa.Ms Aa.Md Aa.Kb Aa.Mc Aa.Ka Aa.len Entry.at0 Entry.Bo Entry.at1 Entry.Bk Entry.at2 Entry.Ca Entry.at3 Entry.Cg Entry.at4 Entry.Cx Entry.at5 Entry.Cw Entry.at6 Entry.Cv Entry.at7 Entry.Cu Entry.at8 Entry.Ct Entry.at9 Entry.Cs Entry.Ee Entry.C4 Entry.Fm Entry.Dm Entry.Fl Entry.Dl Entry.Ia Entry.Ep Entry.H9 Entry.Eo Entry.L3 Entry.Js Entry.L2 Entry.Jr Entry.L1 Entry.Jq Entry.len List.length_append
section
attribute [local go_sem ↓] Qg Fq Lb Jx
attribute [local go_sem ↓] Aim
theorem Z4 (p:Int)(z:Aa)(es:List Entry)(us:List Int)(w:World)(hes:z.en=es.length)(hus:z.un=us.length)(hE:At w 15 z.ea (es.map Entry.vals))(hU:At w 1 z.ua (us.map Fz))(hs0:0<=z.status)(hs1:z.status<=4294967295)(hM:∀k (hk:k<(Bg p (z.status==0)).length),rM8 ⟨z.bare,es,us⟩ (Bg p (z.status==0))[k].toNat) :
  Calls Tryz.prog 30 #[.int .i64 p,.agg z.vals.toArray] w fun e w'=>e=.returned (.string (bs (num z.status.toNat 4++La ⟨z.bare,es,us⟩ (Bg p (z.status==0)) (Bg p (z.status==0)).length)))/\Below w.heap.size w w':=by
 have hb:=Blk.new w 51 z.vals;have hB:Below w.heap.size w (w.alloc (.cells z.vals.toArray 51)):=(Below.refl _ _).alloc (Nat.le_refl _) _;have hc:=hb.cell;obtain⟨st,hst0⟩:∃n:Nat,z.status=n:=⟨z.status.toNat,by omega⟩;have hstl:(st:Int)<=9223372036854775807:=by omega
 rw[hst0,Int.toNat_natCast];rw[hst0]at hM;have hlet:=fun k (hk:k<(Bg p ((st:Int)==0)).length)=>(G5 p _ hk).2
 have hsh:=Pb p ((st:Int)==0);have KF:=Zh (fun W=>Nt p ((st:Int)==0) W);generalize Bg p ((st:Int)==0)=l at *;have hlen:=Aa1 ⟨z.bare,es,us⟩ l hlet hM;have hsz:=Au l;go_enter Tryz.func30,Tryz.ntmps30
 go_wp2_with fail;refine(KF.out _).mono ?_
 rintro e w1 ⟨rfl,hb1⟩;have hX:=hb.stays hb1;have HB1:=Zh (Ad hB hb1);have hE1:=(hE.below hB).below hb1;have hU1:=(hU.below hB).below hb1;have hcx:=hX.cell;have ra:rowOf w1 w.heap.size 2 11=some z.obj.vals.toArray:=hX.row 2 11 (by simp[Aa.len]);have rD:rowOf w1 w.heap.size 13 11=some z.dir.vals.toArray:=hX.row 13 11 (by simp[Aa.len]);have rw':rowOf w1 w.heap.size 24 13=some z.wcc.vals.toArray:=hX.row 24 13 (by simp[Aa.len]);have rW:rowOf w1 w.heap.size 37 13=some z.wcc2.vals.toArray:=hX.row 37 13 (by simp[Aa.len]);have c56:w1.cell? ⟨w.heap.size,56,none⟩=some (.slice z.ea es.length z.ec):=by rw[hX.cell 56,<-hes];rfl
 have c57:w1.cell? ⟨w.heap.size,57,none⟩=some (.slice z.ua us.length z.uc):=by rw[hX.cell 57,<-hus];rfl
 have hlt:=hX.lt;clear hb hB hc hb1 hX hE hU KF;have hcst:w1.cell? ⟨w.heap.size,0,none⟩=some (.int .i64 st):=by rw[hcx 0,<-hst0];rfl
 go_wp2_with fail;refine(Bs st 4 _ hstl (by decide)).mono ?_
 rintro e w2 ⟨rfl,hb2⟩;have hst2:=Stb.of hb2;have HW12:=Zh hb2;clear hb2;have hn4:=Ce st 4;obtain⟨s0,hs00⟩:∃s,s=num st 4:=⟨_,rfl⟩;rw[<-hs00]at hn4 ⊢;have HS0:=Zh hs00;clear hs00;go_wp2
 go_loopw [6,7] (fun sv iv wr=>∃k:Nat,k<=l.length/\sv=.string (bs (s0++La ⟨z.bare,es,us⟩ l k))/\iv=.int .i64 k/\Stb w1 wr) (fun _ iv _=>l.length - (intOf iv).toNat)
 case atStart=>exact⟨0,Nat.zero_le _,by simp[La],rfl,hst2⟩
 case round=>
  clear hst2 HW12;obtain⟨k,hk,rfl,rfl,hst⟩:=hrel;by_cases hlt2:k<l.length
  ·have hS:=Tf ⟨z.bare,es,us⟩ l k hlt2
   have hm:=hM k hlt2;have hq:((bs l)[k]'(by rw[hsz];exact hlt2)).toNat=l[k].toNat:=rfl;have hl1:=hlen k (Nat.le_of_lt hlt2);have hx:=hlet k hlt2;have hl2:=Aiz ⟨z.bare,es,us⟩ l[k].toNat hm hx;generalize hcd:l[k].toNat=c at *;have HS:=Zh (show s0++La ⟨z.bare,es,us⟩ l (k+1)=s0++La ⟨z.bare,es,us⟩ l k++rB8 ⟨z.bare,es,us⟩ c by rw[hS,List.append_assoc]);have hl3:(s0++La ⟨z.bare,es,us⟩ l k).length<=300000:=by rw[List.length_append,hn4];omega
   clear hS hlen hlet hM hl1;generalize s0++La ⟨z.bare,es,us⟩ l k=m at *;have hz1:=Au m;have hiw:IntKind.i64.wrap ((k:Int)+1)=(k:Int)+1:=IntWalk.i64_in _ (by omega);rcases hx with rfl|rfl|rfl|rfl|rfl|rfl|rfl|rfl|rfl|rfl|rfl|rfl|rfl|rfl
   ·have hb3:rB8 ⟨z.bare,es,us⟩ 104=opq z.fh:=rfl
    have hm:z.fh.length<=64:=hm;have hml:z.fh.length<=1000000000:=by omega
    have hz2:=Au (rB8 ⟨z.bare,es,us⟩ 104);rw[hb3]at hz2 hl2 HS;clear hm hb3 hE1 hU1;go_wp2_with fail;refine(E6 z.fh _ hml).mono ?_
    rintro e w2 ⟨rfl,hb2⟩;have hst2:=Zh (hst.call hb2);clear hst hb2;go_wp2;go_roundw
    case rel=>exact⟨k+1,by omega,by rw[HS.out];try rw[Bl],by go_num,hst2.out⟩
    case measure=>simp[intOf];omega
   ·have hb3:rB8 ⟨z.bare,es,us⟩ 97=z.obj.bytes:=rfl
    have hm:z.obj.ok=true/\z.obj.C9:=hm;obtain⟨m1,m2⟩:=hm;have hz2:=Au (rB8 ⟨z.bare,es,us⟩ 97);rw[hb3]at hz2 hl2 HS;clear hm hb3 hE1 hU1;go_wp2_with fail;refine(Kw z.obj _ m1 m2).mono ?_
    rintro e w2 ⟨rfl,hb2⟩;have hst2:=Zh (hst.call hb2);clear hst hb2;go_wp2;go_roundw
    case rel=>exact⟨k+1,by omega,by rw[HS.out];try rw[Bl],by go_num,hst2.out⟩
    case measure=>simp[intOf];omega
   ·have hb3:rB8 ⟨z.bare,es,us⟩ 68=z.dir.bytes:=rfl
    have hm:z.dir.ok=true/\z.dir.C9:=hm;obtain⟨m1,m2⟩:=hm;have hz2:=Au (rB8 ⟨z.bare,es,us⟩ 68);rw[hb3]at hz2 hl2 HS;clear hm hb3 hE1 hU1;go_wp2_with fail;refine(Kw z.dir _ m1 m2).mono ?_
    rintro e w2 ⟨rfl,hb2⟩;have hst2:=Zh (hst.call hb2);clear hst hb2;go_wp2;go_roundw
    case rel=>exact⟨k+1,by omega,by rw[HS.out];try rw[Bl],by go_num,hst2.out⟩
    case measure=>simp[intOf];omega
   ·have hb3:rB8 ⟨z.bare,es,us⟩ 119=z.wcc.bytes:=rfl
    have hm:z.wcc.ok=true/\z.wcc.C9:=hm;obtain⟨m1,m2⟩:=hm;have hz2:=Au (rB8 ⟨z.bare,es,us⟩ 119);rw[hb3]at hz2 hl2 HS;clear hm hb3 hE1 hU1;go_wp2_with fail;refine(Si z.wcc _ m1 m2).mono ?_
    rintro e w2 ⟨rfl,hb2⟩;have hst2:=Zh (hst.call hb2);clear hst hb2;go_wp2;go_roundw
    case rel=>exact⟨k+1,by omega,by rw[HS.out];try rw[Bl],by go_num,hst2.out⟩
    case measure=>simp[intOf];omega
   ·have hb3:rB8 ⟨z.bare,es,us⟩ 87=z.wcc2.bytes:=rfl
    have hm:z.wcc2.ok=true/\z.wcc2.C9:=hm;obtain⟨m1,m2⟩:=hm;have hz2:=Au (rB8 ⟨z.bare,es,us⟩ 87);rw[hb3]at hz2 hl2 HS;clear hm hb3 hE1 hU1;go_wp2_with fail;refine(Si z.wcc2 _ m1 m2).mono ?_
    rintro e w2 ⟨rfl,hb2⟩;have hst2:=Zh (hst.call hb2);clear hst hb2;go_wp2;go_roundw
    case rel=>exact⟨k+1,by omega,by rw[HS.out];try rw[Bl],by go_num,hst2.out⟩
    case measure=>simp[intOf];omega
   ·have hb3:rB8 ⟨z.bare,es,us⟩ 120=num z.access.toNat 4:=rfl
    have hm:Rj z.access:=hm;obtain⟨n,hn⟩:∃n:Nat,z.access=n:=⟨z.access.toNat,by have:=hm.1;omega⟩;rw[hn,Int.toNat_natCast]at hb3;have hn2:(n:Int)<=9223372036854775807:=by have:=hm.2;omega
    have hz2:=Au (rB8 ⟨z.bare,es,us⟩ 120);rw[hb3]at hz2 hl2 HS;clear hm hb3 hE1 hU1;go_wp2_with fail;refine(Bs n 4 _ hn2 (by decide)).mono ?_
    rintro e w2 ⟨rfl,hb2⟩;have hst2:=Zh (hst.call hb2);clear hst hb2;go_wp2;go_roundw
    case rel=>exact⟨k+1,by omega,by rw[HS.out];try rw[Bl],by go_num,hst2.out⟩
    case measure=>simp[intOf];omega
   ·have hb3:rB8 ⟨z.bare,es,us⟩ 99=num z.count.toNat 4:=rfl
    have hm:Rj z.count:=hm;obtain⟨n,hn⟩:∃n:Nat,z.count=n:=⟨z.count.toNat,by have:=hm.1;omega⟩;rw[hn,Int.toNat_natCast]at hb3;have hn2:(n:Int)<=9223372036854775807:=by have:=hm.2;omega
    have hz2:=Au (rB8 ⟨z.bare,es,us⟩ 99);rw[hb3]at hz2 hl2 HS;clear hm hb3 hE1 hU1;go_wp2_with fail;refine(Bs n 4 _ hn2 (by decide)).mono ?_
    rintro e w2 ⟨rfl,hb2⟩;have hst2:=Zh (hst.call hb2);clear hst hb2;go_wp2;go_roundw
    case rel=>exact⟨k+1,by omega,by rw[HS.out];try rw[Bl],by go_num,hst2.out⟩
    case measure=>simp[intOf];omega
   ·have hb3:rB8 ⟨z.bare,es,us⟩ 115=num z.stable.toNat 4:=rfl
    have hm:Rj z.stable:=hm;obtain⟨n,hn⟩:∃n:Nat,z.stable=n:=⟨z.stable.toNat,by have:=hm.1;omega⟩;rw[hn,Int.toNat_natCast]at hb3;have hn2:(n:Int)<=9223372036854775807:=by have:=hm.2;omega
    have hz2:=Au (rB8 ⟨z.bare,es,us⟩ 115);rw[hb3]at hz2 hl2 HS;clear hm hb3 hE1 hU1;go_wp2_with fail;refine(Bs n 4 _ hn2 (by decide)).mono ?_
    rintro e w2 ⟨rfl,hb2⟩;have hst2:=Zh (hst.call hb2);clear hst hb2;go_wp2;go_roundw
    case rel=>exact⟨k+1,by omega,by rw[HS.out];try rw[Bl],by go_num,hst2.out⟩
    case measure=>simp[intOf];omega
   ·have hb3:rB8 ⟨z.bare,es,us⟩ 118=num z.verf.toNat 8:=rfl
    have hm:Rj z.verf:=hm;obtain⟨n,hn⟩:∃n:Nat,z.verf=n:=⟨z.verf.toNat,by have:=hm.1;omega⟩;rw[hn,Int.toNat_natCast]at hb3;have hn2:(n:Int)<=9223372036854775807:=by have:=hm.2;omega
    have hz2:=Au (rB8 ⟨z.bare,es,us⟩ 118);rw[hb3]at hz2 hl2 HS;clear hm hb3 hE1 hU1;go_wp2_with fail;refine(Bs n 8 _ hn2 (by decide)).mono ?_
    rintro e w2 ⟨rfl,hb2⟩;have hst2:=Zh (hst.call hb2);clear hst hb2;go_wp2;go_roundw
    case rel=>exact⟨k+1,by omega,by rw[HS.out];try rw[Bl],by go_num,hst2.out⟩
    case measure=>simp[intOf];omega
   ·have hb3:rB8 ⟨z.bare,es,us⟩ 101=Jo z.eof:=rfl
    have hz2:=Au (rB8 ⟨z.bare,es,us⟩ 101);rw[hb3]at hz2 hl2 HS;clear hm hb3 hE1 hU1;go_wp2_with fail;refine(Kt z.eof _).mono ?_
    rintro e w2 ⟨rfl,hb2⟩;have hst2:=Zh (hst.call hb2);clear hst hb2;go_wp2;go_roundw
    case rel=>exact⟨k+1,by omega,by rw[HS.out];try rw[Bl],by go_num,hst2.out⟩
    case measure=>simp[intOf];omega
   ·have hb3:rB8 ⟨z.bare,es,us⟩ 100=opq z.data:=rfl
    have hm:z.data.length<=256:=hm;have hml:z.data.length<=1000000000:=by omega
    have hz2:=Au (rB8 ⟨z.bare,es,us⟩ 100);rw[hb3]at hz2 hl2 HS;clear hm hb3 hE1 hU1;go_wp2_with fail;refine(E6 z.data _ hml).mono ?_
    rintro e w2 ⟨rfl,hb2⟩;have hst2:=Zh (hst.call hb2);clear hst hb2;go_wp2;go_roundw
    case rel=>exact⟨k+1,by omega,by rw[HS.out];try rw[Bl],by go_num,hst2.out⟩
    case measure=>simp[intOf];omega
   ·have hb3:rB8 ⟨z.bare,es,us⟩ 110=num us.length 4++us.flatMap Qc:=rfl
    have hm:us.length<=16/\∀n∈us,Rj n:=hm;obtain⟨m1,m2⟩:=hm;rw[hb3,<-List.append_assoc]at HS;have KN:=Zh (fun W=>Bs us.length 4 W (by omega) (by decide));have hn4':=Ce us.length 4;generalize num us.length 4=s4 at *;have hz2:=Au s4;have hml:(m++s4).length<=300004:=by rw[List.length_append];omega
    have hml2:m.length+s4.length<=9223372036854775807:=by omega
    clear hb3 hl2;go_wp2_with fail;refine(KN.out _).mono ?_
    rintro e w2 ⟨rfl,hb2⟩;have hst2:=Zh (hst.call hb2);clear hst hb2;go_wp2
    go_loopw [6,8] (fun sv jv wr=>∃j:Nat,j<=us.length/\sv=.string (bs (m++s4++(us.take j).flatMap Qc))/\jv=.int .i64 j/\Stb w1 wr) (fun _ jv _=>us.length - (intOf jv).toNat)
    case atStart=>exact⟨0,Nat.zero_le _,by simp[Bl],rfl,hst2.out⟩
    case round=>
     clear hst2;obtain⟨j,hj,rfl,rfl,hst⟩:=hrel;have b57:=(hst.1 _ 57 hlt).trans c57;by_cases hltj:j<us.length
     ·obtain⟨bb,off,he1,hbb,-,cc⟩:=Hw (vals:=Fz) (fun _=>rfl) (by decide) (hU1.below hst.below) hltj
      have c0:=cc 0 _ rfl;simp only[Nat.mul_one,Nat.add_zero]at c0;rw[he1]at b57;have hk0:(0:Int)<=(j:Int):=Int.natCast_nonneg _;have hk1:(j:Int)<(us.length:Int):=by omega
      have hnm:=m2 us[j] (List.getElem_mem hltj);obtain⟨n,hn⟩:∃n:Nat,us[j]=n:=⟨us[j].toNat,by have:=hnm.1;omega⟩;have hn2:(n:Int)<=9223372036854775807:=by have:=hnm.2;omega
      have HS2:=Zh (show m++s4++(us.take (j+1)).flatMap Qc=m++s4++(us.take j).flatMap Qc++num n 8 by rw[U5 Qc us j hltj,hn];simp[Qc]);rw[hn]at c0;have hfl:=Pf Qc 8 us (fun n _=>Nat.le_of_eq (Aec n)) j;have hlj:(m++s4++(us.take j).flatMap Qc).length<=300200:=by rw[List.length_append];omega
      have hz3:=Au (num n 8);have hn8:=Ce n 8;generalize m++s4++(us.take j).flatMap Qc=mj at *;have hz4:=Au mj;have hiw2:IntKind.i64.wrap ((j:Int)+1)=(j:Int)+1:=IntWalk.i64_in _ (by omega);have HSTN:=Zh hst;clear cc he1 hn hfl m2 hE1 hnm hst;go_wp2_with fail;refine(Bs n 8 _ hn2 (by decide)).mono ?_
      rintro e w3 ⟨rfl,hb3⟩;have hst3:=Zh (HSTN.out.call hb3);have hlen8:mj.length+(num n 8).length<=9223372036854775807:=by omega
      clear hb3;go_wp2;go_roundw
      case rel=>exact⟨j+1,by omega,by rw[HS2.out];try rw[Bl],by go_num,hst3.out⟩
      case measure=>simp[intOf];omega
     ·obtain rfl:j=us.length:=by omega
      have HST:=Zh hst;clear hst;go_wp2;go_roundw
      case rel=>exact⟨k+1,by omega,by rw[HS.out,List.take_length],by go_num,HST.out⟩
      case measure=>simp[intOf];omega
   ·have hb3:rB8 ⟨z.bare,es,us⟩ 108=num es.length 4++es.flatMap (J4 false):=rfl
    have hm:es.length<=64/\∀x∈es,Xn false x:=hm;obtain⟨m1,m2⟩:=hm;rw[hb3,<-List.append_assoc]at HS;have KN:=Zh (fun W=>Bs es.length 4 W (by omega) (by decide));have hn4':=Ce es.length 4;generalize num es.length 4=s4 at *;have hz2:=Au s4;have hml:(m++s4).length<=300004:=by rw[List.length_append];omega
    have hml2:m.length+s4.length<=9223372036854775807:=by omega
    clear hb3 hl2;go_wp2_with fail;refine(KN.out _).mono ?_
    rintro e w2 ⟨rfl,hb2⟩;have hst2:=Zh (hst.call hb2);clear hst hb2;go_wp2
    go_loopw [6,9] (fun sv jv wr=>∃j:Nat,j<=es.length/\sv=.string (bs (m++s4++(es.take j).flatMap (J4 false)))/\jv=.int .i64 j/\Stb w1 wr) (fun _ jv _=>es.length - (intOf jv).toNat)
    case atStart=>exact⟨0,Nat.zero_le _,by simp[Bl],rfl,hst2.out⟩
    case round=>
     clear hst2;obtain⟨j,hj,rfl,rfl,hst⟩:=hrel;have b56:=(hst.1 _ 56 hlt).trans c56;by_cases hltj:j<es.length
     ·obtain⟨bb,off,he1,hbb,r1,-⟩:=Hw Entry.len (by decide) (hE1.below hst.below) hltj
      rw[he1]at b56;have hk0:(0:Int)<=(j:Int):=Int.natCast_nonneg _;have hk1:(j:Int)<(es.length:Int):=by omega
      have hnm:=m2 es[j] (List.getElem_mem hltj);have hfl:=Pf (J4 false) 500 es (fun x hx=>Ui false x (m2 x hx)) j;have hft:=U5 (J4 false) es j hltj;generalize es[j]=x at *;have hlj:(m++s4++(es.take j).flatMap (J4 false)).length<=340000:=by rw[List.length_append];omega
      obtain⟨⟨g0,g1⟩,nl,⟨k0,k1⟩,hwh⟩:=hnm;obtain⟨xg,hxg⟩:∃n:Nat,x.gen=n:=⟨x.gen.toNat,by omega⟩;obtain⟨xk,hxk⟩:∃n:Nat,x.cookie=n:=⟨x.cookie.toNat,by omega⟩;have K1:=fun W=>Bs xg 8 W (by omega) (by decide)
      have K2:=fun W=>E6 x.name W (by omega)
      have K3:=fun W=>Bs xk 8 W (by omega) (by decide)
      have l1:=Ce xg 8;have l2:=Nx x.name;have l3:=Ce xk 8;have HS2:=(show m++s4++(es.take (j+1)).flatMap (J4 false)=m++s4++(es.take j).flatMap (J4 false)++num xg 8++opq x.name++num xk 8 by rw[hft];simp[J4,hxg,hxk]);generalize m++s4++(es.take j).flatMap (J4 false)=mj at *;generalize num xg 8=a1 at *;generalize opq x.name=a2 at *;generalize num xk 8=a3 at *;have HS2:=Zh HS2;have K1:=Zh K1;have K2:=Zh K2;have K3:=Zh K3;have e1:mj.length+a1.length<=9223372036854775807:=by omega
      have e2:mj.length+a1.length+a2.length<=9223372036854775807:=by omega
      have e3:mj.length+(a1.length+a2.length)+a3.length<=9223372036854775807:=by omega
      have hy:=Blk.new wr 126 x.vals;have hby:=(Below.refl wr.heap.size wr).alloc (Nat.le_refl _) (.cells x.vals.toArray 126);have hstE:=hst.call hby
      obtain⟨wy,hwy⟩:∃V,V=wr.alloc (.cells x.vals.toArray 126):=⟨_,rfl⟩;rw[<-hwy]at hy hby hstE;have HWY:=Zh hwy;have hiw2:IntKind.i64.wrap ((j:Int)+1)=(j:Int)+1:=IntWalk.i64_in _ (by omega);have y0:wy.cell? ⟨wr.heap.size,0,none⟩=some (.int .i64 xg):=by rw[hy.cell 0,<-hxg];rfl
      have y1:wy.cell? ⟨wr.heap.size,1,none⟩=some (.string (bs x.name)):=hy.cell 1;have y2:wy.cell? ⟨wr.heap.size,2,none⟩=some (.int .i64 xk):=by rw[hy.cell 2,<-hxk];rfl
      have y3:rowOf wy wr.heap.size 3 11=some x.attr.vals.toArray:=hy.row 3 11 (by simp[Entry.len]);have y14:wy.cell? ⟨wr.heap.size,14,none⟩=some (.string (bs x.fh)):=hy.cell 14;have hyl:=hy.lt;clear hwy he1 hfl hft m2 hU1 hE1 hst l1 l2 l3 g0 g1 k0 k1 hlj hz1 hz2 hml hml2 hxg hxk hby
      go_wp2_with (first
       |(refine De (by rfl) 126 _ _ (by rfl) x.vals Dx.vals wr 126 rfl (by rfl) (by rfl) (by rfl) (by kernel_rfl) (Entry.one _) ?_;rw[<-HWY.out])
       |fail)
      go_region_held3 (fun W=>Stb wy W) (first|exact Stb.start|assumption|(exact Stb.alloc (by assumption) _)|(exact Stb.call (by assumption) (by assumption))) (first
       |(go_at_call_of 60 (xg);refine(K1.out _).mono ?_;rintro e w3 ⟨rfl,hb⟩)
       |(go_at_call 68;refine(K2.out _).mono ?_;rintro e w3 ⟨rfl,hb⟩)
       |(go_at_call_of 60 (xk);refine(K3.out _).mono ?_;rintro e w3 ⟨rfl,hb⟩)
       |fail)
      have hs5:Stb wy w3:=by assumption
      have HS9:=Zh (hstE.call hs5.below);clear hs5 hstE;go_wp2;go_roundw
      case rel=>exact⟨j+1,by omega,by rw[HS2.out];first|rfl|simp only[List.append_assoc],by go_num,HS9.out⟩
      case measure=>simp[intOf];omega
     ·obtain rfl:j=es.length:=by omega
      have HST:=Zh hst;clear hst;go_wp2;go_roundw
      case rel=>exact⟨k+1,by omega,by rw[HS.out,List.take_length],by go_num,HST.out⟩
      case measure=>simp[intOf];omega
   ·have hb3:rB8 ⟨z.bare,es,us⟩ 112=num es.length 4++es.flatMap (J4 true):=rfl
    have hm:es.length<=64/\∀x∈es,Xn true x:=hm;obtain⟨m1,m2⟩:=hm;rw[hb3,<-List.append_assoc]at HS;have KN:=Zh (fun W=>Bs es.length 4 W (by omega) (by decide));have hn4':=Ce es.length 4;generalize num es.length 4=s4 at *;have hz2:=Au s4;have hml:(m++s4).length<=300004:=by rw[List.length_append];omega
    have hml2:m.length+s4.length<=9223372036854775807:=by omega
    clear hb3 hl2;go_wp2_with fail;refine(KN.out _).mono ?_
    rintro e w2 ⟨rfl,hb2⟩;have hst2:=Zh (hst.call hb2);clear hst hb2;go_wp2
    go_loopw [6,9] (fun sv jv wr=>∃j:Nat,j<=es.length/\sv=.string (bs (m++s4++(es.take j).flatMap (J4 true)))/\jv=.int .i64 j/\Stb w1 wr) (fun _ jv _=>es.length - (intOf jv).toNat)
    case atStart=>exact⟨0,Nat.zero_le _,by simp[Bl],rfl,hst2.out⟩
    case round=>
     clear hst2;obtain⟨j,hj,rfl,rfl,hst⟩:=hrel;have b56:=(hst.1 _ 56 hlt).trans c56;by_cases hltj:j<es.length
     ·obtain⟨bb,off,he1,hbb,r1,-⟩:=Hw Entry.len (by decide) (hE1.below hst.below) hltj
      rw[he1]at b56;have hk0:(0:Int)<=(j:Int):=Int.natCast_nonneg _;have hk1:(j:Int)<(es.length:Int):=by omega
      have hnm:=m2 es[j] (List.getElem_mem hltj);have hfl:=Pf (J4 true) 500 es (fun x hx=>Ui true x (m2 x hx)) j;have hft:=U5 (J4 true) es j hltj;generalize es[j]=x at *;have hlj:(m++s4++(es.take j).flatMap (J4 true)).length<=340000:=by rw[List.length_append];omega
      obtain⟨⟨g0,g1⟩,nl,⟨k0,k1⟩,hwh⟩:=hnm;obtain⟨xg,hxg⟩:∃n:Nat,x.gen=n:=⟨x.gen.toNat,by omega⟩;obtain⟨xk,hxk⟩:∃n:Nat,x.cookie=n:=⟨x.cookie.toNat,by omega⟩;have K1:=fun W=>Bs xg 8 W (by omega) (by decide)
      have K2:=fun W=>E6 x.name W (by omega)
      have K3:=fun W=>Bs xk 8 W (by omega) (by decide)
      have l1:=Ce xg 8;have l2:=Nx x.name;have l3:=Ce xk 8;obtain⟨po,pg,fl⟩:=hwh rfl;have K4:=fun W=>Kw x.attr W po pg
      have K5:=fun W=>E6 x.fh W (by omega)
      have l4:=x.attr.Dk;have l5:=Nx x.fh;have HS2:=(show m++s4++(es.take (j+1)).flatMap (J4 true)=m++s4++(es.take j).flatMap (J4 true)++num xg 8++opq x.name++num xk 8++x.attr.bytes++opq x.fh by rw[hft];simp[J4,hxg,hxk]);generalize x.attr.bytes=a4 at *;generalize opq x.fh=a5 at *;generalize m++s4++(es.take j).flatMap (J4 true)=mj at *;generalize num xg 8=a1 at *;generalize opq x.name=a2 at *;generalize num xk 8=a3 at *;have HS2:=Zh HS2;have K1:=Zh K1;have K2:=Zh K2;have K3:=Zh K3;have e1:mj.length+a1.length<=9223372036854775807:=by omega
      have e2:mj.length+a1.length+a2.length<=9223372036854775807:=by omega
      have e3:mj.length+(a1.length+a2.length)+a3.length<=9223372036854775807:=by omega
      have e4:mj.length+(a1.length+(a2.length+a3.length))+a4.length<=9223372036854775807:=by omega
      have e5:mj.length+(a1.length+(a2.length+(a3.length+a4.length)))+a5.length<=9223372036854775807:=by omega
      have K4:=Zh K4;have K5:=Zh K5;have hy:=Blk.new wr 126 x.vals;have hby:=(Below.refl wr.heap.size wr).alloc (Nat.le_refl _) (.cells x.vals.toArray 126);have hstE:=hst.call hby
      obtain⟨wy,hwy⟩:∃V,V=wr.alloc (.cells x.vals.toArray 126):=⟨_,rfl⟩;rw[<-hwy]at hy hby hstE;have HWY:=Zh hwy;have hiw2:IntKind.i64.wrap ((j:Int)+1)=(j:Int)+1:=IntWalk.i64_in _ (by omega);have y0:wy.cell? ⟨wr.heap.size,0,none⟩=some (.int .i64 xg):=by rw[hy.cell 0,<-hxg];rfl
      have y1:wy.cell? ⟨wr.heap.size,1,none⟩=some (.string (bs x.name)):=hy.cell 1;have y2:wy.cell? ⟨wr.heap.size,2,none⟩=some (.int .i64 xk):=by rw[hy.cell 2,<-hxk];rfl
      have y3:rowOf wy wr.heap.size 3 11=some x.attr.vals.toArray:=hy.row 3 11 (by simp[Entry.len]);have y14:wy.cell? ⟨wr.heap.size,14,none⟩=some (.string (bs x.fh)):=hy.cell 14;have hyl:=hy.lt;clear hwy he1 hfl hft m2 hU1 hE1 hst l1 l2 l3 g0 g1 k0 k1 hlj hz1 hz2 hml hml2 hxg hxk hby
      go_wp2_with (first
       |(refine De (by rfl) 126 _ _ (by rfl) x.vals Dx.vals wr 126 rfl (by rfl) (by rfl) (by rfl) (by kernel_rfl) (Entry.one _) ?_;rw[<-HWY.out])
       |fail)
      go_region_held3 (fun W=>Stb wy W) (first|exact Stb.start|assumption|(exact Stb.alloc (by assumption) _)|(exact Stb.call (by assumption) (by assumption))) (first
       |(go_at_call_of 60 (xg);refine(K1.out _).mono ?_;rintro e w3 ⟨rfl,hb⟩)
       |(go_at_call 68;refine(K2.out _).mono ?_;rintro e w3 ⟨rfl,hb⟩)
       |(go_at_call_of 60 (xk);refine(K3.out _).mono ?_;rintro e w3 ⟨rfl,hb⟩)
       |fail)
      have hs5:Stb wy w3:=by assumption
      replace hy:=hy.below hs5.below (by omega);have hs6:=hstE.call hs5.below;have y3:rowOf w3 wr.heap.size 3 11=some x.attr.vals.toArray:=hy.row 3 11 (by simp[Entry.len]);have y14:w3.cell? ⟨wr.heap.size,14,none⟩=some (.string (bs x.fh)):=hy.cell 14;have hyl:=hy.lt;clear hs5 hstE;go_wp2_with fail;go_region_held3 (fun W=>Stb w3 W) (first|exact Stb.start|assumption|(exact Stb.alloc (by assumption) _)|(exact Stb.call (by assumption) (by assumption))) (first
       |(go_at_call 69;refine(K4.out _).mono ?_;rintro e w5 ⟨rfl,hb⟩)
       |(go_at_call 68;refine(K5.out _).mono ?_;rintro e w5 ⟨rfl,hb⟩)
       |fail)
      have hs7:Stb w3 w5:=by assumption
      have HS9:=Zh (hs6.call hs7.below);clear hs7 hs6;go_wp2;go_roundw
      case rel=>exact⟨j+1,by omega,by rw[HS2.out];first|rfl|simp only[List.append_assoc],by go_num,HS9.out⟩
      case measure=>simp[intOf];omega
     ·obtain rfl:j=es.length:=by omega
      have HST:=Zh hst;clear hst;go_wp2;go_roundw
      case rel=>exact⟨k+1,by omega,by rw[HS.out,List.take_length],by go_num,HST.out⟩
      case measure=>simp[intOf];omega
  ·obtain rfl:k=l.length:=by omega
   have HST:=Zh (Ad HB1.out hst.below);clear hst;go_wp2;go_ret;exact⟨D9 (by rw[HS0.out]),HST.out⟩
end
end Go.Proofs.YtfjflkmhhbhceaaGreatDoor
