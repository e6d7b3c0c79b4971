/-
  Layer 8, walks: what must come of fixed calls; the law ReplyFields. No condition.
-/
import Derived.Test.YtfjflkmhhbhceaaGreatDoorO18
import Derived.Test.YtfjflkmhhbhceaaGreatDoorO06
import Derived.Test.YtfjflkmhhbhceaaGreatDoorO10
import Derived.Test.YtfjflkmhhbhceaaGreatDoorO03
import Derived.Test.YtfjflkmhhbhceaaGreatDoorO08
import Derived.Test.YtfjflkmhhbhceaaGreatDoorO02
import Derived.Lib.SliceRun
import Derived.Test.YtfjflkmhhbhceaaGreatDoorO07
import Derived.Test.YtfjflkmhhbhceaaGreatDoorO12
import Derived.Test.YtfjflkmhhbhceaaGreatDoorO05
set_option maxRecDepth 20000
set_option maxHeartbeats 40000000
namespace Go.Proofs.YtfjflkmhhbhceaaGreatDoor
open Go.RowKit
attribute [local go_sem ↓] Go.wp_at_zero Go.wp_at_succ
attribute [local go_sem] Ai Ag Af Ab Aj
section
theorem Jx {ρ:Operand->Value}{w:World}{dst:Option Tmp}{ty:TypeId}{pos:String}{after:Array Edge}{g:Option (Nat × Bool)}{x:Operand}(h:(rowAt w 15 (ρ x)).isSome=true) :
  (execOp ρ ⟨dst,.load 126 x,ty,pos,after,g⟩).run Tryz.prog w=.ok (.value (.agg ((rowAt w 15 (ρ x)).getD #[]))) w:=D8 126 15 Tryz.underlying126 rfl (by kernel_rfl) h
attribute [local go_sem ↓] Jx
def Fz (n:Int):List Value:=[.int .i64 n]
theorem Hw {α:Type}{w:World}{sz:Nat}{A:Option Addr}{l:List α}{vals:α->List Value}(hsz:∀x,(vals x).length=sz)(h0:0<sz)(hA:At w sz A (l.map vals)){k:Nat}(hk:k<l.length) :
  ∃b off,A=some ⟨b,off,none⟩/\b<w.heap.size/\rowOf w b (off+k*sz) sz=some (vals l[k]).toArray/\∀j u,(vals l[k])[j]?=some u->w.cell? ⟨b,off+k*sz+j,none⟩=some u:=by
 obtain⟨b,off,rfl,hb,hc⟩:=hA.getD (k:=k) (by simpa using hk);have hc2:∀j u,(vals l[k])[j]?=some u->w.cell? ⟨b,off+k*sz+j,none⟩=some u:=fun j u hu=>hc j u (by simpa using hu)
 exact⟨b,off,rfl,hb,Mm hc2 (hsz _) h0,hc2⟩
end
theorem Qh:(Tryz.prog.info? 126).map (fun i=>(i.zero,i.size,i.bytes))=some (some (.agg (Entry.mk 0 [] 0 Db []).vals.toArray),15,136):=by kernel_rfl
theorem Y3:(Tryz.prog.info? 3).map (fun i=>(i.zero,i.size,i.bytes))=some (some (.int .i64 0),1,8):=by kernel_rfl
theorem K6 {sz:Nat}:∀(rows:List (List Value)),(∀r∈rows,r.length=sz)->rows.flatten.length=rows.length*sz
 |[],_=>by simp
 |r::rows,h=>by
  rw[List.flatten_cons,List.length_append,h r (by simp),K6 rows (fun q hq=>h q (List.mem_cons_of_mem _ hq)),List.length_cons,Nat.succ_mul];omega
theorem At.flat {w:World}{sz:Nat}{A:Addr}{rows:List (List Value)}(h:At w sz (some A) rows)(hl:∀r∈rows,r.length=sz)(h0:0<sz):∀j u,rows.flatten[j]?=some u->w.cell? (A.add j)=some u:=by
 intro j u hj;have hlen:rows.flatten.length=rows.length*sz:=by
  have:=K6 rows hl;exact this
 have hj2:=(List.getElem?_eq_some_iff.1 hj).1;rw[hlen]at hj2;have hq:j / sz<rows.length:=(Nat.div_lt_iff_lt_mul h0).2 hj2;obtain⟨b,off,hA,hb,hc⟩:=h.getD hq;have hdm:j / sz*sz+j % sz=j:=Nat.div_add_mod' j sz;have hm:j % sz<sz:=Nat.mod_lt _ h0;have hrl:=hl _ (List.getElem_mem hq);have hg:=flat_get rows hl (j / sz) _ (List.getElem?_eq_getElem hq) (j % sz) _ (List.getElem?_eq_getElem (by omega));rw[hdm]at hg;rw[hg]at hj;cases hj
 have:=hc (j % sz) _ (List.getElem?_eq_getElem (by omega));injection hA with hA;subst hA;rw[Addr.add_mid,show off+j=off+j / sz*sz+j % sz by omega];exact this
theorem Ah5 (A:Option Addr)(c:Nat)(l:List Entry)(w:World)(hl:l.length<=1000000)(hA:At w 15 A (l.map Entry.vals)) :
  Calls Tryz.prog 107 #[.slice A l.length c] w fun e w'=>∃v,e=.returned v/\As w' w.heap.size 126 15 v (l.map Entry.vals)/\Below w.heap.size w w':=by
 obtain⟨i0,hi,hz,hsize,hby⟩:=info_parts Qh;have q22:∀(w:World) (a:Option Addr) (n c n' c':Nat),(binOp .eql 48 (.slice a n c) (.slice none n' c')).run Tryz.prog w=.ok (.bool a.isNone) w:=fun w a n c n' c'=>Lib.run_eql_slice_nil w _ _ a n c n' c' Tryz.underlying48
 have hlen:∀r∈l.map Entry.vals,r.length=15:=by
  intro r hr;obtain⟨x,_,rfl⟩:=List.mem_map.1 hr;rfl
 cases A with
 |none=>
  have h0:l=[]:=by
   cases l with
   |nil=>rfl
   |cons x l=>obtain⟨b,off,h,_⟩:=hA 0 x.vals (by simp);cases h
  subst h0;go_enter Tryz.func107,Tryz.ntmps107
  go_wp2;go_ret;exact⟨_,rfl,As.none_,Below.refl _ _⟩
 |some A=>
  have hcell:=hA.flat hlen (by omega);have hfl:=K6 _ hlen;rw[List.length_map]at hfl;have H:=Zh (And.intro hcell (And.intro hlen hfl));clear hcell hlen hfl hA;go_enter Tryz.func107,Tryz.ntmps107
  go_wp2_with (at_builtin;refine wpList_append_own _ rfl _ _ 48 rfl w.heap.size 126 i0 (.agg (Entry.mk 0 [] 0 Db []).vals.toArray) 15 136 Tryz.underlying48 hi hz hsize hby rfl (by decide) _ _ _ rfl (World.ownsRow_made w #[] 0 (Nat.le_refl _) (Nat.zero_le _) rfl) A l.length c (l.map Entry.vals).flatten rfl ?qc1 ?qc2 ?qc3 ?qc4 ?qc5 ?qc6 ?_)
  case qc1=>exact H.out.2.2
  case qc2=>exact fun j u hj=>Lib.cell?_alloc_some _ (H.out.1 j u hj)
  case qc3=>
   intro u hu;obtain⟨r,hr,hu⟩:=List.mem_flatten.1 hu;obtain⟨x,_,rfl⟩:=List.mem_map.1 hr;exact x.one u hu
  case qc4=>unfold maxLen;omega
  case qc5=>omega
  case qc6=>simp
  intro v' w1 hown hgrow hnil;go_wp2;go_ret;refine⟨v',rfl,⟨H.out.2.1,?_⟩,?_⟩
  ·rw[List.length_map]
   simpa using hown
  ·exact((Below.refl _ w).alloc (Nat.le_refl _) _).grown hgrow (by simp) (by intro k hk;simp[Value.ownBlock]at hk;omega)
theorem Ah4 (A:Option Addr)(c:Nat)(l:List Int)(w:World)(hl:l.length<=1000000)(hA:At w 1 A (l.map Fz)) :
  Calls Tryz.prog 108 #[.slice A l.length c] w fun e w'=>∃v,e=.returned v/\As w' w.heap.size 3 1 v (l.map Fz)/\Below w.heap.size w w':=by
 obtain⟨i0,hi,hz,hsize,hby⟩:=info_parts Y3;have q22:∀(w:World) (a:Option Addr) (n c n' c':Nat),(binOp .eql 49 (.slice a n c) (.slice none n' c')).run Tryz.prog w=.ok (.bool a.isNone) w:=fun w a n c n' c'=>Lib.run_eql_slice_nil w _ _ a n c n' c' Tryz.underlying49
 have hlen:∀r∈l.map Fz,r.length=1:=by
  intro r hr;obtain⟨x,_,rfl⟩:=List.mem_map.1 hr;rfl
 cases A with
 |none=>
  have h0:l=[]:=by
   cases l with
   |nil=>rfl
   |cons x l=>obtain⟨b,off,h,_⟩:=hA 0 (Fz x) (by simp);cases h
  subst h0;go_enter Tryz.func108,Tryz.ntmps108
  go_wp2;go_ret;exact⟨_,rfl,As.none_,Below.refl _ _⟩
 |some A=>
  have hcell:=hA.flat hlen (by omega);have hfl:=K6 _ hlen;rw[List.length_map]at hfl;have H:=Zh (And.intro hcell (And.intro hlen hfl));clear hcell hlen hfl hA;go_enter Tryz.func108,Tryz.ntmps108
  go_wp2_with (at_builtin;refine wpList_append_own _ rfl _ _ 49 rfl w.heap.size 3 i0 (.int .i64 0) 1 8 Tryz.underlying49 hi hz hsize hby rfl (by decide) _ _ _ rfl (World.ownsRow_made w #[] 0 (Nat.le_refl _) (Nat.zero_le _) rfl) A l.length c (l.map Fz).flatten rfl ?qc1 ?qc2 ?qc3 ?qc4 ?qc5 ?qc6 ?_)
  case qc1=>exact H.out.2.2
  case qc2=>exact fun j u hj=>Lib.cell?_alloc_some _ (H.out.1 j u hj)
  case qc3=>
   intro u hu;obtain⟨r,hr,hu⟩:=List.mem_flatten.1 hu;obtain⟨x,_,rfl⟩:=List.mem_map.1 hr;simp[Fz]at hu
   subst hu;rfl
  case qc4=>unfold maxLen;omega
  case qc5=>omega
  case qc6=>simp
  intro v' w1 hown hgrow hnil;go_wp2;go_ret;refine⟨v',rfl,⟨H.out.2.1,?_⟩,?_⟩
  ·rw[List.length_map]
   simpa using hown
  ·exact((Below.refl _ w).alloc (Nat.le_refl _) _).grown hgrow (by simp) (by intro k hk;simp[Value.ownBlock]at hk;omega)
theorem Alh (A:Option Addr)(c:Nat)(l:List Entry)(w:World)(hl:l.length<=1000000)(hA:At w 15 A (l.map Entry.vals)) :
  Calls Tryz.prog 107 #[.slice A l.length c] w fun e w'=>∃A' c',e=.returned (.slice A' l.length c')/\As w' w.heap.size 126 15 (.slice A' l.length c') (l.map Entry.vals)/\Below w.heap.size w w':=by
 refine(Ah5 A c l w hl hA).mono ?_
 rintro e w' ⟨v,rfl,hR,hb⟩;obtain⟨A',c',rfl,-⟩:=hR.at_;rw[List.length_map]at hR ⊢;exact⟨A',c',rfl,hR,hb⟩
theorem Alg (A:Option Addr)(c:Nat)(l:List Int)(w:World)(hl:l.length<=1000000)(hA:At w 1 A (l.map Fz)) :
  Calls Tryz.prog 108 #[.slice A l.length c] w fun e w'=>∃A' c',e=.returned (.slice A' l.length c')/\As w' w.heap.size 3 1 (.slice A' l.length c') (l.map Fz)/\Below w.heap.size w w':=by
 refine(Ah4 A c l w hl hA).mono ?_
 rintro e w' ⟨v,rfl,hR,hb⟩;obtain⟨A',c',rfl,-⟩:=hR.at_;rw[List.length_map]at hR ⊢;exact⟨A',c',rfl,hR,hb⟩
theorem Agh (g h:Nat)(r:Rs)(w:World)(hR:Rd w g r)(hH:Blk w h 167 [.pointer (some ⟨g,0,none⟩)])(hl:r.s.length<=9223372036854775807) :
  Calls Tryz.prog 148 #[.pointer (some ⟨h,0,none⟩)] w fun e w'=>e=.returned (.tuple #[.int .i64 (Bn r).1,.bool ((Bn r).2.e==0)])/\Reads g (Bn r).2 w w':=by
 have c1:w.cell? ⟨h,0,none⟩=some (.pointer (some ⟨g,0,none⟩)):=hH.cell 0;have hne:=hH.ne_ hR.1 (by decide);have hlt:=hH.lt;have K:=Zh (Mp g r w.drew (Rd.An5 hR) hl);clear hH hR;generalize Bn r=y at *;obtain⟨n,q⟩:=y;go_enter Tryz.func148,Tryz.ntmps148
 go_wp2_with fail;go_region_held3 (fun W=>StQ g w W) (with_reducible first|assumption|exact StQ.start|(refine StQ.call ?_ hT;first|assumption|exact StQ.start)) (first
  |(go_at_call 145;refine K.out.mono ?_;rintro e w1 ⟨rfl,hQ⟩;have hT:=hQ.2)
  |(go_at_call 100;refine(Cn g q _ hQ.1).mono ?_;rintro e w2 ⟨rfl,rfl⟩))
 all_goals
  have HQ:=Zh hQ;clear hQ hT;go_wp2;go_ret2
  exact⟨rfl,HQ.out.1,(Touch.refl _ _).drew.Ay HQ.out.2⟩
theorem Sa {r:Rs}(h:r.s.length<=9223372036854775807):∀k,(B8 r k).2.s.length<=9223372036854775807
 |0=>h
 |k+1=>Nat.le_trans (Hx (Sa h k)) (Sa h k)
theorem R9 (r:Rs):∀k,(B8 r k).1.length=k
 |0=>rfl
 |k+1=>by simp[B8,R9 r k]
theorem Adr {r:Rs}(h:r.e≠0):(Bn r).2.e≠0:=by
 have h1:F3 8 r=(0,r):=Adv h;unfold Bn;rw[h1]
 simpa using h
theorem Vn {r:Rs}{k:Nat}(h:(B8 r k).2.e≠0):∀m,k<=m->(B8 r m).2.e≠0:=by
 intro m hm
 induction m with
 |zero=>
      obtain rfl:k=0:=by omega
      exact h
 |succ m ih=>
  by_cases hk:k=m+1
  ·subst hk;exact h
  ·exact Adr (ih (by omega))
def Arv {α:Type}(T:TypeId)(sz:Nat)(vals:α->List Value)(ok:Bool)(l:List α)(g:Nat)(q:Rs)(w:World)(e:Ending)(w':World):Prop:=
 ∃v,e=.returned (.tuple #[v,.bool ok])/\(ok=true->As w' w.heap.size T sz v (l.map vals)/\Rd w' g q)/\(ok=false->v=.slice none 0 0)/\Touch (fun k=>k=g) w w'
theorem Rd.Zm {w w':World}{g B:Nat}{r:Rs}(h:Rd w g r)(hb:Below B w w')(hg:g<B):Rd w' g r:=⟨h.1.below hb hg,h.2⟩
theorem Touch.Zm {F:Nat->Prop}{w W W':World}(h:Touch F w W)(hb:Below w.heap.size W W'):Touch F w W':=
 ⟨hb.os.trans h.os,hb.tape.trans h.tape,hb.output.trans h.output,Nat.le_trans h.size hb.size,fun k hk hn=>(hb.block k hk).trans (h.block k hk hn)⟩
def Nz (r:Rs):Bool:=decide ((Am r).1<=16) && ((B8 (Am r).2 (Am r).1).2.e==0)
theorem Ajq (g h:Nat)(r:Rs)(w:World)(hR:Rd w g r)(hH:Blk w h 167 [.pointer (some ⟨g,0,none⟩)])(hl:r.s.length<=9223372036854775807) :
  Calls Tryz.prog 147 #[.pointer (some ⟨g,0,none⟩),.int .i64 16,.func (.func 148) #[] #[.pointer (some ⟨h,0,none⟩)]] w
   (Arv 3 1 Fz (Nz r) (B8 (Am r).2 (Am r).1).1 g (B8 (Am r).2 (Am r).1).2 w):=by
 obtain⟨i0,hi,hz,hsize,hby⟩:=info_parts Y3;have K:=Zh (G3 g r w hR hl);have hq:=Nat.le_trans (Em hl) hl;have hne:=hH.ne_ hR.1 (by decide);have hgl:=hR.lt;have hhl:=hH.lt;unfold Nz;clear hR hl;generalize Am r=y at *;obtain⟨n,q⟩:=y;simp only at hq ⊢
 by_cases hn:16<n
 ·have hn':(16:Int)<n:=by omega
  have HO:=Zh (show (decide (n<=16) && ((B8 q n).2.e==0))=false by simp;omega);go_enter Tryz.func147,Tryz.ntmps147
  go_wp2_with fail;refine K.out.mono ?_
  rintro e w1 ⟨rfl,hQ⟩;have HQ:=Zh hQ;clear hQ;go_wp2;go_ret2
  rw[HO.out];refine⟨.slice none 0 0,rfl,fun h=>?_,fun _=>rfl,HQ.out.2⟩
  exact absurd h (by simp)
 have hn':¬(16:Int)<n:=by omega
 have HLEN:=Zh (Sa hq);go_enter Tryz.func147,Tryz.ntmps147
 go_wp2_with fail;refine K.out.mono ?_
 rintro e w1 ⟨rfl,hQ⟩;have hH1:=hH.Ak hQ.2 hne;have HQ:=Zh hQ;clear hQ hH;go_wp2
 go_loopw [9,18] (fun v i wr=>∃k,k<=n/\i=.int .i64 k/\As wr w.heap.size 3 1 v ((B8 q k).1.map Fz)/\Rd wr g (B8 q k).2/\(0<k->(B8 q k).2.e=0)/\(k=0->v=.slice none 0 0)/\Blk wr h 167 [.pointer (some ⟨g,0,none⟩)]/\Touch (fun k=>k=g) w wr) (fun _ i _=>n - (intOf i).toNat)
 case atStart=>exact⟨0,by omega,rfl,As.none_,HQ.out.1,fun h=>by omega,fun _=>rfl,hH1,HQ.out.2⟩
 case round=>
  obtain⟨k,hk,rfl,hRow,hR,he,hv0,hH,hT⟩:=hrel;have hgw:=hR.lt;have hsz:=hT.size;by_cases hlt:k<n
  ·have hlt':(k:Int)<n:=by omega
   have KT:=Zh (Agh g h _ wr hR hH (HLEN.out k));have hs1:B8 q (k+1)=((B8 q k).1++[((Bn (B8 q k).2).1:Int)],(Bn (B8 q k).2).2):=rfl;have hone:=R9 q k;have HST:=Zh (Vn (r:=q) (k:=k+1));rw[hs1]at HST;clear hR;generalize Bn (B8 q k).2=z at *;obtain⟨x,q1⟩:=z;simp only at hs1 HST
   by_cases he1:q1.e=0
   ·have he2:(q1.e==0)=true:=by simpa using he1
    rw[he2]at KT;go_wp2_with fail;refine KT.out.mono ?_
    rintro e w2 ⟨rfl,hQ2⟩;have hRow2:=As.Ak hRow hQ2.2 (fun j hj hg=>by have:=(As.lt hRow j hj).1;omega);have hH2:=hH.Ak hQ2.2 hne;have hT2:=hT.Ay hQ2.2;have hz2:=hT2.size;have hap:=As.append (P:=Tryz.prog) 49 49 i0 Tryz.underlying49 hi hz hsize hby rfl (by omega) (by omega) hRow2 (by omega) (Fz (x:Int)) rfl (by simp[Fz,Value.oneCell']) (by rw[List.length_map,hone];omega);have HA:=Zh hap;have HK:=Zh (And.intro hQ2.1 (And.intro hH2 hT2));have HS:=Zh hs1;have hiw:IntKind.i64.wrap ((k:Int)+1)=(k:Int)+1:=IntWalk.i64_in _ (by omega);clear hap hQ2 hH2 hT2 hRow2 hRow hH hT hs1 hv0 KT
    go_wp2_with (first
     |(refine Fy (by rfl) (.tmp 27) (.tmp 29) #[49,49] (by rfl) _ _ (by rfl) (by rfl) HA.out ?_;rintro v' w' ⟨hR',hb'⟩)
     |fail)
    have hb1:=hb' w2 (Below.refl _ _);have HR:=Zh hR';have HQ2:=Zh (Rd.Zm HK.out.1 hb1 (by omega));have HH:=Zh (HK.out.2.1.below hb1 (by omega));have HT:=Zh (HK.out.2.2.Zm hb1);clear hR' hb' hb1 HK HA;go_roundw
    case rel=>exact⟨k+1,by omega,by go_num,by rw[HS.out,List.map_append];exact HR.out,by rw[HS.out];exact HQ2.out,fun _=>by rw[HS.out];exact he1,fun h=>by omega,HH.out,HT.out⟩
    case measure=>simp[intOf];omega
   ·have he2:(q1.e==0)=false:=by simpa using he1
    rw[he2]at KT;have HO:=Zh (show (decide (n<=16) && ((B8 q n).2.e==0))=false by have:=HST.out he1 n (by omega);simp[this]);go_wp2_with fail;refine KT.out.mono ?_
    rintro e w2 ⟨rfl,hQ2⟩;have HT:=Zh (hT.Ay hQ2.2);clear hQ2 hRow hH hT KT;go_wp2;go_ret2
    rw[HO.out];refine⟨.slice none 0 0,rfl,fun h=>?_,fun _=>rfl,HT.out⟩
    exact absurd h (by simp)
  ·obtain rfl:k=n:=by omega
   have HR:=Zh hRow;have HQ2:=Zh hR;have HT:=Zh hT;have HV:=Zh hv0;have HE:=Zh he;obtain⟨Q,hQd⟩:∃Q,Q=(B8 q k).2:=⟨_,rfl⟩;rw[<-hQd]at HQ2 HE;clear hRow hH hT hv0 he;go_wp2_with fail;refine(Cn g Q _ HQ2.out).mono ?_
   rintro e w2 ⟨rfl,rfl⟩;by_cases hQe:Q.e=0
   ·have hQe2:(Q.e==0)=true:=by simpa using hQe
    have HO:=Zh (show (decide (k<=16) && ((B8 q k).2.e==0))=true by rw[<-hQd];simp[hQe];omega);rw[hQe];go_wp2;go_ret2
    rw[HO.out,<-hQd];refine⟨_,rfl,fun _=>⟨HR.out,HQ2.out⟩,fun h=>?_,HT.out⟩
    exact absurd h (by simp)
   ·have hk0:k=0:=by
     rcases Nat.eq_zero_or_pos k with h|h
     ·exact h
     ·exact absurd (HE.out h) hQe
    have HO:=Zh (show (decide (k<=16) && ((B8 q k).2.e==0))=false by rw[<-hQd];simp[hQe]);have hv:=HV.out hk0;subst hv;have hQe2:(Q.e==0)=false:=by simpa using hQe
    go_wp2;go_ret2
    rw[HO.out];refine⟨.slice none 0 0,?_,fun h=>?_,fun _=>rfl,HT.out⟩
    ·simp
     intro h;exact hQe (by rw[hQd,hk0];exact h)
    ·exact absurd h (by simp)
section
attribute [local go_sem ↓] Fq Lb
theorem Touch.wider {F G:Nat->Prop}{w w':World}(h:Touch F w w')(hFG:∀k,F k->G k):Touch G w w':=h.mono fun k _ hk=>hFG k hk
theorem Vl (g b o:Nat)(cs:List Value)(r:Rs)(w:World)(hR:Rd w g r)(hB:Blk w b 51 cs)(ho:o+11<=cs.length)(hl:r.s.length<=9223372036854775807) :
  Calls Tryz.prog 143 #[.pointer (some ⟨g,0,none⟩),.pointer (some ⟨b,o,none⟩)] w fun e w'=>e=.returned (.bool ((Cf Ah.ok Bb (Bh r)).2==0)) /\
   Rd w' g (Bh r).2/\Blk w' b 51 (setAt cs o (Cf Ah.ok Bb (Bh r)).1.vals)/\Touch (fun k=>k=g\/k=b) w w':=by
 have K:=Ws g r w hR hl;have hne:=hB.ne_ hR.1 (by decide);have hbl:=hB.lt;have hgl:=hR.lt;simp only[Qu]at K;generalize Cf Ah.ok Bb (Bh r)=x at *;generalize (Bh r).2=q at *;obtain⟨p,n⟩:=x;simp only at K ⊢
 have K:=Zh K;clear hR;go_enter Tryz.func143,Tryz.ntmps143
 go_wp2_with fail;refine K.out.mono ?_
 rintro e w1 ⟨rfl,hQ⟩;have hB1:=hB.Ak hQ.2 hne;have hz1:=hQ.2.size;obtain⟨w2,hw2⟩:∃V,V=w1.alloc (.cells p.vals.toArray 45):=⟨_,rfl⟩;have hx:=(Below.refl w1.heap.size w1).alloc (Nat.le_refl _) (.cells p.vals.toArray 45);have x2:=Blk.new w1 45 p.vals;have hB2:=hB1.stays hx;have hR2:=hQ.1.stays hx;have hT2:Touch (fun k=>k=g\/k=b) w _:=(hQ.2.wider (fun _ h=>.inl h)).Ay (Touch.Aq hx _);rw[<-hw2]at x2 hB2 hR2 hT2;have HW2:=Zh hw2;have r2:=x2.row 0 11 (by simp[Ah.len]);rw[show (p.vals.drop 0).take 11=p.vals by rw[List.drop_zero,List.take_of_length_le (by rw[Ah.len];omega)]]at r2;obtain⟨w3,hw3⟩:∃V,V=w2.setCells b o p.vals:=⟨_,rfl⟩;have hB3:=hB2.Ml p.vals _ o;have hR3:Rd (w2.setCells b o p.vals) g q:=hR2.Ak (Touch.setCells (F:=fun k=>k=b) (.inl rfl) _ o w2 (Touch.refl _ _)) (fun hh=>hne hh.symm);have hT3:=Touch.setCells (F:=fun k=>k=g\/k=b) (a:=w) (.inl (.inr rfl)) p.vals o w2 hT2;rw[<-hw3]at hB3 hR3 hT3;have HW3:=Zh hw3;have HL:=Zh (And.intro hR3 (And.intro hB3 hT3));clear hQ hB1 hx hR2 hT2 hw2 hw3 hB3 hR3 hT3 x2 hB
 go_wp2_with (first
  |(refine De (by rfl) 45 _ _ (by rfl) p.vals Bb.vals w1 45 rfl (by rfl) (by rfl) (by rfl) (by kernel_rfl) (Ah.one _) ?_;rw[<-HW2.out])
  |(refine Ax (by rfl) 45 _ _ (by rfl) b o p.vals _ hB2 (by rw[Ah.len];omega) (by rfl) (by rfl) (by kernel_rfl) (Ah.one _) ?_;rw[<-HW3.out])
  |fail)
 go_ret;exact⟨rfl,HL.out⟩
theorem Abn (g b o:Nat)(cs:List Value)(r:Rs)(w:World)(hR:Rd w g r)(hB:Blk w b 51 cs)(ho:o+13<=cs.length)(hl:r.s.length<=9223372036854775807) :
  Calls Tryz.prog 144 #[.pointer (some ⟨g,0,none⟩),.pointer (some ⟨b,o,none⟩)] w fun e w'=>e=.returned (.bool ((Cf Wcc.ok Df (Ei r)).2==0)) /\
   Rd w' g (Ei r).2/\Blk w' b 51 (setAt cs o (Cf Wcc.ok Df (Ei r)).1.vals)/\Touch (fun k=>k=g\/k=b) w w':=by
 have K:=Ahh g r w hR hl;have hne:=hB.ne_ hR.1 (by decide);have hbl:=hB.lt;have hgl:=hR.lt;simp only[Qu]at K;generalize Cf Wcc.ok Df (Ei r)=x at *;generalize (Ei r).2=q at *;obtain⟨p,n⟩:=x;simp only at K ⊢
 have K:=Zh K;clear hR;go_enter Tryz.func144,Tryz.ntmps144
 go_wp2_with fail;refine K.out.mono ?_
 rintro e w1 ⟨rfl,hQ⟩;have hB1:=hB.Ak hQ.2 hne;have hz1:=hQ.2.size;obtain⟨w2,hw2⟩:∃V,V=w1.alloc (.cells p.vals.toArray 47):=⟨_,rfl⟩;have hx:=(Below.refl w1.heap.size w1).alloc (Nat.le_refl _) (.cells p.vals.toArray 47);have x2:=Blk.new w1 47 p.vals;have hB2:=hB1.stays hx;have hR2:=hQ.1.stays hx;have hT2:Touch (fun k=>k=g\/k=b) w _:=(hQ.2.wider (fun _ h=>.inl h)).Ay (Touch.Aq hx _);rw[<-hw2]at x2 hB2 hR2 hT2;have HW2:=Zh hw2;have r2:=x2.row 0 13 (by simp[Wcc.len]);rw[show (p.vals.drop 0).take 13=p.vals by rw[List.drop_zero,List.take_of_length_le (by rw[Wcc.len];omega)]]at r2;obtain⟨w3,hw3⟩:∃V,V=w2.setCells b o p.vals:=⟨_,rfl⟩;have hB3:=hB2.Ml p.vals _ o;have hR3:Rd (w2.setCells b o p.vals) g q:=hR2.Ak (Touch.setCells (F:=fun k=>k=b) (.inl rfl) _ o w2 (Touch.refl _ _)) (fun hh=>hne hh.symm);have hT3:=Touch.setCells (F:=fun k=>k=g\/k=b) (a:=w) (.inl (.inr rfl)) p.vals o w2 hT2;rw[<-hw3]at hB3 hR3 hT3;have HW3:=Zh hw3;have HL:=Zh (And.intro hR3 (And.intro hB3 hT3));clear hQ hB1 hx hR2 hT2 hw2 hw3 hB3 hR3 hT3 x2 hB
 go_wp2_with (first
  |(refine De (by rfl) 47 _ _ (by rfl) p.vals Df.vals w1 47 rfl (by rfl) (by rfl) (by rfl) (by kernel_rfl) (Wcc.one _) ?_;rw[<-HW2.out])
  |(refine Ax (by rfl) 47 _ _ (by rfl) b o p.vals _ hB2 (by rw[Wcc.len];omega) (by rfl) (by rfl) (by kernel_rfl) (Wcc.one _) ?_;rw[<-HW3.out])
  |fail)
 go_ret;exact⟨rfl,HL.out⟩
end
attribute [local go_sem] Entry.at0 Entry.Bo Entry.at1 Entry.Bk Entry.at2 Entry.Ca Entry.at3 Entry.Cg Entry.at4 Entry.Cx Entry.at5 Entry.Cw Entry.at6 Entry.Cv Entry.at7 Entry.Cu Entry.at8 Entry.Ct Entry.at9 Entry.Cs Entry.Ee Entry.C4 Entry.Fm Entry.Dm Entry.Fl Entry.Dl Entry.Ia Entry.Ep Entry.H9 Entry.Eo Entry.L3 Entry.Js Entry.L2 Entry.Jr Entry.L1 Entry.Jq Entry.len
section
attribute [local go_sem ↓] Fq Jx
theorem X7 (w:World)(b o n o':Nat){b':Nat}(hn:¬b=b')(v:Value):rowOf (w.setCell ⟨b',o',none⟩ v) b o n=rowOf w b o n:=by
 simp only[rowOf,Below.heap_setCell w ⟨b',o',none⟩ v b hn]
def Dx:Entry:=⟨0,[],0,Db,[]⟩
def Aio (whole:Bool)(r:Rs)(g:Nat)(w:World)(e:Ending)(w':World):Prop:=
 ∃x:Entry,e=.returned (.tuple #[.agg x.vals.toArray,.bool (E7 whole r)])/\(E7 whole r=true->x=(Hq whole r).1/\Rd w' g (Hq whole r).2)/\Touch (fun k=>k=g) w w'
theorem Aio.of {whole:Bool}{r:Rs}{g:Nat}{w w':World}{x:Entry}{b:Bool}(hb:E7 whole r=b)(h:b=true->x=(Hq whole r).1/\Rd w' g (Hq whole r).2)(hT:Touch (fun k=>k=g) w w') :
  Aio whole r g w (.returned (.tuple #[.agg x.vals.toArray,.bool b])) w':=by subst hb;exact⟨x,rfl,h,hT⟩
theorem Nu {r:Rs}(h:r.s.length<=9223372036854775807):(Bh r).2.s.length<=9223372036854775807:=Nat.le_trans (Aj6 h) h
theorem M8 {n:Int}{r:Rs}(h:r.s.length<=9223372036854775807):(Ao n r).2.s.length<=r.s.length:=by
 unfold Ao;split
 ·exact Em h
 ·split
  ·simp[Rs.fail]
  ·exact Nat.le_trans (Vh (Nat.le_trans (Em h) h)) (Em h)
theorem Ap0 (g:Nat)(whole:Bool)(r:Rs)(w:World)(hR:Rd w g r)(hl:r.s.length<=9223372036854775807) :
  Calls Tryz.prog 151 #[.pointer (some ⟨g,0,none⟩),.bool whole] w (Aio whole r g w):=by
 obtain⟨⟨x1,q1⟩,h1⟩:∃y,Bn r=y:=⟨_,rfl⟩;obtain⟨⟨l2,q2⟩,h2⟩:∃y,Ao 255 q1=y:=⟨_,rfl⟩;obtain⟨⟨x3,q3⟩,h3⟩:∃y,Bn q2=y:=⟨_,rfl⟩;have g1:q1.s.length<=9223372036854775807:=by have:=Hx hl;rw[h1]at this;exact Nat.le_trans this hl
 have g2:q2.s.length<=9223372036854775807:=by have:=Nat.le_trans (M8 (n:=255) g1) g1;rw[h2]at this;exact this
 have g3:q3.s.length<=9223372036854775807:=by have:=Nat.le_trans (Hx g2) g2;rw[h3]at this;exact this
 have hA:Hr r=(⟨x1,l2,x3,Db,[]⟩,q3):=by simp only[Hr,h1,h2,h3]
 have K1:=Zh (fun W (h:Rd W g r)=>Mp g r W h hl);have K2:=Zh (fun W (h:Rd W g q1)=>Oy g 255 q1 W h g1);have K3:=Zh (fun W (h:Rd W g q2)=>Mp g q2 W h g2);rw[h1]at K1;rw[h2]at K2;rw[h3]at K3;simp only at K1 K2 K3
 obtain⟨br,be,hB0,hs0⟩:=A7 w Dx.vals Dx.vals 126 126;obtain⟨w0,hw0⟩:∃V,V=(w.alloc (.cells Dx.vals.toArray 126)).alloc (.cells Dx.vals.toArray 126):=⟨_,rfl⟩;rw[<-hw0]at br be hB0 hs0;have HW0:=Zh hw0;have hgl:=hR.lt;replace hR:=hR.stays hB0;have hT:=Touch.Aq hB0 (fun k=>k=g);have ne:w.heap.size+1≠g:=by omega
 have nr:w.heap.size≠g:=by omega
 clear hw0 hB0 hs0 h1 h2 h3 hl;go_enter Tryz.func151,Tryz.ntmps151
 go_wp2_with fail;change Calls _ _ _ ((w.alloc (.cells Dx.vals.toArray 126)).alloc (.cells Dx.vals.toArray 126)) _;rw[<-HW0.out];refine(K1.out _ hR).mono ?_
 rintro e w1 ⟨rfl,hQ⟩;replace be:=be.Ak hQ.2 ne;replace br:=br.Ak hQ.2 nr;replace hT:=hT.Ay hQ.2;replace hR:=hQ.1;clear hQ;have c0:=be.cell 0;have z0:=be.frozen 0;have bex:Blk (w1.setCell ⟨w.heap.size+1,0,none⟩ (.int .i64 x1)) (w.heap.size+1) 126 (Entry.vals ⟨x1,[],0,Db,[]⟩):=be.Be 0 (.int .i64 x1);have brx:=br.far (p:=⟨w.heap.size+1,0,none⟩) (by simp) (.int .i64 x1);have hRx:Rd (w1.setCell ⟨w.heap.size+1,0,none⟩ (.int .i64 x1)) g q1:=⟨hR.1.far (p:=⟨w.heap.size+1,0,none⟩) (fun e=>ne e.symm) (.int .i64 x1),hR.2⟩;have hTx:=hT.An (g:=w.heap.size+1) (o:=0) (.inr (by omega)) (.int .i64 x1);go_wp2_with fail;obtain⟨wa,hw⟩:∃V,V=w1.setCell ⟨w.heap.size+1,0,none⟩ (.int .i64 x1):=⟨_,rfl⟩;rw[<-hw]at bex brx hRx hTx;have HWN:=Zh hw;clear hw be br hR hT;have be:=bex;have br:=brx;have hR:=hRx;have hT:=hTx;clear bex brx hRx hTx;rw[<-HWN.out];clear HWN c0 z0;refine(K2.out _ hR).mono ?_
 rintro e w2 ⟨rfl,hQ⟩;replace be:=be.Ak hQ.2 ne;replace br:=br.Ak hQ.2 nr;replace hT:=hT.Ay hQ.2;replace hR:=hQ.1;clear hQ;have c1:=be.cell 1;have z1:=be.frozen 1;have bex:Blk (w2.setCell ⟨w.heap.size+1,1,none⟩ (.string (bs l2))) (w.heap.size+1) 126 (Entry.vals ⟨x1,l2,0,Db,[]⟩):=be.Be 1 (.string (bs l2));have brx:=br.far (p:=⟨w.heap.size+1,1,none⟩) (by simp) (.string (bs l2));have hRx:Rd (w2.setCell ⟨w.heap.size+1,1,none⟩ (.string (bs l2))) g q2:=⟨hR.1.far (p:=⟨w.heap.size+1,1,none⟩) (fun e=>ne e.symm) (.string (bs l2)),hR.2⟩;have hTx:=hT.An (g:=w.heap.size+1) (o:=1) (.inr (by omega)) (.string (bs l2));go_wp2_with fail;obtain⟨wb,hw⟩:∃V,V=w2.setCell ⟨w.heap.size+1,1,none⟩ (.string (bs l2)):=⟨_,rfl⟩;rw[<-hw]at bex brx hRx hTx;have HWN:=Zh hw;clear hw be br hR hT;have be:=bex;have br:=brx;have hR:=hRx;have hT:=hTx;clear bex brx hRx hTx;rw[<-HWN.out];clear HWN c1 z1;refine(K3.out _ hR).mono ?_
 rintro e w3 ⟨rfl,hQ⟩;replace be:=be.Ak hQ.2 ne;replace br:=br.Ak hQ.2 nr;replace hT:=hT.Ay hQ.2;replace hR:=hQ.1;clear hQ;have c2:=be.cell 2;have z2:=be.frozen 2;have bex:Blk (w3.setCell ⟨w.heap.size+1,2,none⟩ (.int .i64 x3)) (w.heap.size+1) 126 (Entry.vals ⟨x1,l2,x3,Db,[]⟩):=be.Be 2 (.int .i64 x3);have brx:=br.far (p:=⟨w.heap.size+1,2,none⟩) (by simp) (.int .i64 x3);have hRx:Rd (w3.setCell ⟨w.heap.size+1,2,none⟩ (.int .i64 x3)) g q3:=⟨hR.1.far (p:=⟨w.heap.size+1,2,none⟩) (fun e=>ne e.symm) (.int .i64 x3),hR.2⟩;have hTx:=hT.An (g:=w.heap.size+1) (o:=2) (.inr (by omega)) (.int .i64 x3);cases whole
 case false=>
  have HOK:=Zh (show E7 false r=(q3.e==0) by simp[E7,Hq,hA]);have HE:=Zh (show Hq false r=(⟨x1,l2,x3,Db,[]⟩,q3) by simp[Hq,hA]);go_wp2_with fail;obtain⟨wc,hw⟩:∃V,V=w3.setCell ⟨w.heap.size+1,2,none⟩ (.int .i64 x3):=⟨_,rfl⟩;rw[<-hw]at bex brx hRx hTx;have HWN:=Zh hw;clear hw be br hR hT;have be:=bex;have br:=brx;have hR:=hRx;have hT:=hTx;clear bex brx hRx hTx;rw[<-HWN.out];clear HWN c2 z2;have r4:rowOf wc (w.heap.size+1) 0 15=some #[.int .i64 x1,.string (bs l2),.int .i64 x3,.bool false,.int .i64 0,.int .i64 0,.int .i64 0,.int .i64 0,.int .i64 0,.int .i64 0,.int .i64 0,.int .i64 0,.int .i64 0,.int .i64 0,.string ⟨#[]⟩]:=be.row 0 15 (by simp[Entry.len]);have cr:=br.cell;have zr:=br.frozen;have HL:=Zh (And.intro hR (And.intro br hT));have hRd:Rd wc.drew g q3:=hR;have r4d:=r4;rw[<-Ag]at r4d;have nrb:¬w.heap.size+1=w.heap.size:=by omega
  go_region_held3 (fun V=>rowOf V (w.heap.size+1) 0 15=some #[.int .i64 x1,.string (bs l2),.int .i64 x3,.bool false,.int .i64 0,.int .i64 0,.int .i64 0,.int .i64 0,.int .i64 0,.int .i64 0,.int .i64 0,.int .i64 0,.int .i64 0,.int .i64 0,.string ⟨#[]⟩]) (first|(with_reducible assumption)|(simp only[Ag,X7 _ _ _ _ _ nrb];with_reducible assumption)) (first
   |(go_at_call 100;refine(Cn g q3 _ hRd).mono ?_;rintro e wq ⟨rfl,rfl⟩))
  all_goals
   change Exit.then _ _ _ _ (wc.setCells w.heap.size 0 (Entry.vals ⟨x1,l2,x3,Db,[]⟩)).drew;obtain⟨hR9,br9,hT9⟩:=HL.out;obtain⟨wy,hwy⟩:∃V,V=wc.setCells w.heap.size 0 (Entry.vals ⟨x1,l2,x3,Db,[]⟩):=⟨_,rfl⟩;have bz:Blk wy w.heap.size 126 (Entry.vals ⟨x1,l2,x3,Db,[]⟩):=by rw[hwy];exact br9.whole (by rfl)
   have hRz:Rd wy g q3:=by rw[hwy];exact hR9.Ak (Touch.setCells (F:=fun k=>k=w.heap.size) (.inl rfl) (Entry.vals ⟨x1,l2,x3,Db,[]⟩) 0 wc (Touch.refl _ _)) (fun hh=>nr hh.symm)
   have hTz:Touch (fun k=>k=g) w wy:=by rw[hwy];exact Touch.setCells (.inr (Nat.le_refl _)) (Entry.vals ⟨x1,l2,x3,Db,[]⟩) 0 wc hT9
   rw[<-hwy];clear hwy hR9 br9 hT9 cr zr r4 r4d
   try clear ‹rowOf _ _ 0 15=_›
   replace bz:=bz.drew;replace hRz:=Rd.An5 hRz;replace hTz:=hTz.drew;go_wp2;refine Ap w.heap.size 0 (Entry.vals ⟨x1,l2,x3,Db,[]⟩) (.bool (q3.e==0)) Tryz.results151 Tryz.underlying126 rfl (by kernel_rfl) rfl rfl bz.range rfl ?_
   exact Aio.of HOK.out (fun _=>⟨by rw[HE.out],by rw[HE.out];exact hRz⟩) hTz
 case true=>
  have HX0:=Zh hA;have K4:=Ws g q3;have g4:=Nu g3;obtain⟨⟨p,n⟩,h4⟩:∃y,Cf Ah.ok Bb (Bh q3)=y:=⟨_,rfl⟩;obtain⟨q4,h4q⟩:∃y,(Bh q3).2=y:=⟨_,rfl⟩;rw[h4,h4q]at K4;rw[h4q]at g4;simp only[Qu]at K4;obtain⟨⟨l5,q5⟩,h5⟩:∃y,Ao 64 q4=y:=⟨_,rfl⟩;have K5:=Zh (fun W (h:Rd W g q4)=>Oy g 64 q4 W h g4);rw[h5]at K5;simp only at K5
  have K4:=Zh (fun W h=>K4 W h g3);have HOK:=Zh (show E7 true r=((n==0) && (q5.e==0)) by simp[E7,Hq,hA,h4,h4q,h5]);have HE:=Zh (show Hq true r=(⟨x1,l2,x3,p,l5⟩,q5) by simp[Hq,hA,h4,h4q,h5]);clear h4 h4q h5 hA g4;go_wp2_with fail;obtain⟨wc,hw⟩:∃V,V=w3.setCell ⟨w.heap.size+1,2,none⟩ (.int .i64 x3):=⟨_,rfl⟩;rw[<-hw]at bex brx hRx hTx;have HWN:=Zh hw;clear hw be br hR hT;have be:=bex;have br:=brx;have hR:=hRx;have hT:=hTx;clear bex brx hRx hTx;rw[<-HWN.out];clear HWN c2 z2;refine(K4.out _ hR).mono ?_
  rintro e w4 ⟨rfl,hQ⟩;replace be:=be.Ak hQ.2 ne;replace br:=br.Ak hQ.2 nr;replace hT:=hT.Ay hQ.2;replace hR:=hQ.1;clear hQ;obtain⟨w5,hw5⟩:∃V,V=w4.alloc (.cells p.vals.toArray 45):=⟨_,rfl⟩;have hx:=(Below.refl w4.heap.size w4).alloc (Nat.le_refl _) (.cells p.vals.toArray 45);have x5:=Blk.new w4 45 p.vals;replace be:=be.stays hx;replace br:=br.stays hx;replace hR:=hR.stays hx;replace hT:=hT.Ay (Touch.Aq hx _);rw[<-hw5]at x5 be br hR hT;have HW5:=Zh hw5;have hpb:w.heap.size+1<w4.heap.size:=by
   have h:=be.lt;rw[HW5.out]at h;have:=x5.ne_ be (by decide);simp at h
   omega
  clear hw5 hx;have r5:=x5.row 0 11 (by simp[Ah.len]);rw[show (p.vals.drop 0).take 11=p.vals by rw[List.drop_zero,List.take_of_length_le (by rw[Ah.len];omega)]]at r5;have r4:=be.row 0 15 (by simp[Entry.len]);rw[show ((Entry.vals ⟨x1,l2,x3,Db,[]⟩).drop 0).take 15=Entry.vals ⟨x1,l2,x3,Db,[]⟩ from rfl]at r4;by_cases hn:n=0
  case neg=>
   have HO:=Zh (show E7 true r=false by rw[HOK.out];simp[hn])
   go_wp2_with (first
    |(refine De (by rfl) 45 _ _ (by rfl) p.vals Bb.vals w4 45 rfl (by rfl) (by rfl) (by rfl) (by kernel_rfl) (Ah.one _) ?_;rw[<-HW5.out])
    |(refine Ae (by rfl) 126 _ _ (by rfl) w.heap.size (Entry.vals ⟨x1,l2,x3,Db,[]⟩) _ br (by rfl) (by rfl) (by rfl) (by kernel_rfl) (Entry.one _) ?_)
    |fail)
   refine Ap w.heap.size 0 (Entry.vals ⟨x1,l2,x3,Db,[]⟩) (.bool false) Tryz.results151 Tryz.underlying126 rfl (by kernel_rfl) rfl rfl (br.whole (by rfl)).range rfl ?_
   exact Aio.of HO.out (fun h=>by cases h) (Touch.setCells (.inr (Nat.le_refl _)) _ _ _ hT)
  obtain⟨w6,hw6⟩:∃V,V=w5.setCells (w.heap.size+1) 3 p.vals:=⟨_,rfl⟩;have be6:Blk w6 (w.heap.size+1) 126 (Entry.vals ⟨x1,l2,x3,p,[]⟩):=by rw[hw6];exact be.Ml p.vals _ 3
  have br6:Blk w6 w.heap.size 126 (Entry.vals Dx):=by rw[hw6];exact Blk.Fk (by omega) p.vals 3 _ br
  have hR6:Rd w6 g q4:=by rw[hw6];exact hR.Ak (Touch.setCells (F:=fun k=>k=w.heap.size+1) (.inl rfl) p.vals 3 w5 (Touch.refl _ _)) (fun hh=>ne hh.symm)
  have hT6:Touch (fun k=>k=g) w w6:=by rw[hw6];exact Touch.setCells (.inr (by omega)) p.vals 3 w5 hT
  have HW6:=Zh hw6;clear hw6;subst hn
  go_wp2_with (first
   |(refine De (by rfl) 45 _ _ (by rfl) p.vals Bb.vals w4 45 rfl (by rfl) (by rfl) (by rfl) (by kernel_rfl) (Ah.one _) ?_;rw[<-HW5.out])
   |(refine Ax (by rfl) 45 _ _ (by rfl) (w.heap.size+1) 3 p.vals _ be (by rw[Ah.len];simp[Entry.len]) (by rfl) (by rfl) (by kernel_rfl) (Ah.one _) ?_;rw[<-HW6.out])
   |fail)
  clear be br hR hT x5 r5 r4;have be:=be6;have br:=br6;have hR:=hR6;have hT:=hT6;clear be6 br6 hR6 hT6;refine(K5.out _ hR).mono ?_
  rintro e w7 ⟨rfl,hQ⟩;replace be:=be.Ak hQ.2 ne;replace br:=br.Ak hQ.2 nr;replace hT:=hT.Ay hQ.2;replace hR:=hQ.1;clear hQ;have c14:=be.cell 14;have z14:=be.frozen 14;have bex:Blk (w7.setCell ⟨w.heap.size+1,14,none⟩ (.string (bs l5))) (w.heap.size+1) 126 (Entry.vals ⟨x1,l2,x3,p,l5⟩):=be.Be 14 (.string (bs l5));have brx:=br.far (p:=⟨w.heap.size+1,14,none⟩) (by simp) (.string (bs l5));have hRx:Rd (w7.setCell ⟨w.heap.size+1,14,none⟩ (.string (bs l5))) g q5:=⟨hR.1.far (p:=⟨w.heap.size+1,14,none⟩) (fun e=>ne e.symm) (.string (bs l5)),hR.2⟩;have hTx:=hT.An (g:=w.heap.size+1) (o:=14) (.inr (by omega)) (.string (bs l5));go_wp2_with fail;obtain⟨wc,hw⟩:∃V,V=w7.setCell ⟨w.heap.size+1,14,none⟩ (.string (bs l5)):=⟨_,rfl⟩;rw[<-hw]at bex brx hRx hTx;have HWN:=Zh hw;clear hw be br hR hT;have be:=bex;have br:=brx;have hR:=hRx;have hT:=hTx;clear bex brx hRx hTx;rw[<-HWN.out];clear HWN c14 z14;obtain⟨pi,a0,a1,a2,a3,a4,a5,a6,a7,a8,a9⟩:=p;have r4:rowOf wc (w.heap.size+1) 0 15=some #[.int .i64 x1,.string (bs l2),.int .i64 x3,.bool pi,.int .i64 a0,.int .i64 a1,.int .i64 a2,.int .i64 a3,.int .i64 a4,.int .i64 a5,.int .i64 a6,.int .i64 a7,.int .i64 a8,.int .i64 a9,.string (bs l5)]:=be.row 0 15 (by simp[Entry.len]);have cr:=br.cell;have zr:=br.frozen;have HL:=Zh (And.intro hR (And.intro br hT));have hRd:Rd wc.drew g q5:=hR;have r4d:=r4;rw[<-Ag]at r4d;have nrb:¬w.heap.size+1=w.heap.size:=by omega
  go_region_held3 (fun V=>rowOf V (w.heap.size+1) 0 15=some #[.int .i64 x1,.string (bs l2),.int .i64 x3,.bool pi,.int .i64 a0,.int .i64 a1,.int .i64 a2,.int .i64 a3,.int .i64 a4,.int .i64 a5,.int .i64 a6,.int .i64 a7,.int .i64 a8,.int .i64 a9,.string (bs l5)]) (first|(with_reducible assumption)|(simp only[Ag,X7 _ _ _ _ _ nrb];with_reducible assumption)) (first
   |(go_at_call 100;refine(Cn g q5 _ hRd).mono ?_;rintro e wq ⟨rfl,rfl⟩))
  all_goals
   change Exit.then _ _ _ _ (wc.setCells w.heap.size 0 (Entry.vals ⟨x1,l2,x3,⟨pi,⟨a0,a1,a2,a3,a4,a5,a6,a7,a8,a9⟩⟩,l5⟩)).drew;obtain⟨hR9,br9,hT9⟩:=HL.out;obtain⟨wy,hwy⟩:∃V,V=wc.setCells w.heap.size 0 (Entry.vals ⟨x1,l2,x3,⟨pi,⟨a0,a1,a2,a3,a4,a5,a6,a7,a8,a9⟩⟩,l5⟩):=⟨_,rfl⟩;have bz:Blk wy w.heap.size 126 (Entry.vals ⟨x1,l2,x3,⟨pi,⟨a0,a1,a2,a3,a4,a5,a6,a7,a8,a9⟩⟩,l5⟩):=by rw[hwy];exact br9.whole (by rfl)
   have hRz:Rd wy g q5:=by rw[hwy];exact hR9.Ak (Touch.setCells (F:=fun k=>k=w.heap.size) (.inl rfl) (Entry.vals ⟨x1,l2,x3,⟨pi,⟨a0,a1,a2,a3,a4,a5,a6,a7,a8,a9⟩⟩,l5⟩) 0 wc (Touch.refl _ _)) (fun hh=>nr hh.symm)
   have hTz:Touch (fun k=>k=g) w wy:=by rw[hwy];exact Touch.setCells (.inr (Nat.le_refl _)) (Entry.vals ⟨x1,l2,x3,⟨pi,⟨a0,a1,a2,a3,a4,a5,a6,a7,a8,a9⟩⟩,l5⟩) 0 wc hT9
   rw[<-hwy];clear hwy hR9 br9 hT9 cr zr r4 r4d
   try clear ‹rowOf _ _ 0 15=_›
   replace bz:=bz.drew;replace hRz:=Rd.An5 hRz;replace hTz:=hTz.drew;have HO:=Zh (show E7 true r=(q5.e==0) by rw[HOK.out];rfl);go_wp2;refine Ap w.heap.size 0 (Entry.vals ⟨x1,l2,x3,⟨pi,⟨a0,a1,a2,a3,a4,a5,a6,a7,a8,a9⟩⟩,l5⟩) (.bool (q5.e==0)) Tryz.results151 Tryz.underlying126 rfl (by kernel_rfl) rfl rfl bz.range rfl ?_
   exact Aio.of HO.out (fun _=>⟨by rw[HE.out],by rw[HE.out];exact hRz⟩) hTz
end
section
attribute [local go_sem ↓] Jx
theorem Agg (g h b:Nat)(c:Int)(whole:Bool)(hc:(c==112)=whole)(r:Rs)(w:World)(hR:Rd w g r)(hH:Blk w h 167 [.pointer (some ⟨g,0,none⟩)])(hL:Blk w b 21 [.int .i32 c])(hl:r.s.length<=9223372036854775807) :
  Calls Tryz.prog 150 #[.pointer (some ⟨h,0,none⟩),.pointer (some ⟨b,0,none⟩)] w (Aio whole r g w):=by
 have hx:=(Below.refl w.heap.size w).alloc (Nat.le_refl _) (.cells Dx.vals.toArray 126);have br:=Blk.new w 126 Dx.vals;have hgl:=hR.lt;have hne:=hH.ne_ hR.1 (by decide);have nr:w.heap.size≠g:=by omega
 obtain⟨w0,hw0⟩:∃V,V=w.alloc (.cells Dx.vals.toArray 126):=⟨_,rfl⟩;rw[<-hw0]at hx br;replace hR:=hR.stays hx;replace hH:=hH.stays hx;replace hL:=hL.stays hx;have hT:=Touch.Aq hx (fun k=>k=g);have HW0:=Zh hw0;have c1:w0.cell? ⟨h,0,none⟩=some (.pointer (some ⟨g,0,none⟩)):=hH.cell 0;have c2:w0.cell? ⟨b,0,none⟩=some (.int .i32 c):=hL.cell 0;have K:=Zh (Ap0 g whole r w0 hR hl);clear hw0 hx hR hH hL;go_enter Tryz.func150,Tryz.ntmps150
 go_upto_region 1 with fail;change Code.wp _ _ _ _ (w.alloc (.cells Dx.vals.toArray 126));rw[<-HW0.out];go_wp2_with fail;refine K.out.mono ?_
 rintro e w1 ⟨x,rfl,hx,hT1⟩;replace br:=br.Ak hT1 nr;replace hT:=hT.Ay hT1;obtain⟨w2,hw2⟩:∃V,V=w1.setCells w.heap.size 0 x.vals:=⟨_,rfl⟩;have bz:Blk w2 w.heap.size 126 x.vals:=by rw[hw2];exact br.whole (by rfl)
 have hT2:Touch (fun k=>k=g) w w2:=by rw[hw2];exact Touch.setCells (.inr (Nat.le_refl _)) x.vals 0 w1 hT
 have hR2:E7 whole r=true->x=(Hq whole r).1/\Rd w2 g (Hq whole r).2:=fun ho=>⟨(hx ho).1,by rw[hw2];exact(hx ho).2.Ak (Touch.setCells (F:=fun k=>k=w.heap.size) (.inl rfl) x.vals 0 w1 (Touch.refl _ _)) (fun hh=>nr hh.symm)⟩
 have HW2:=Zh hw2;have HL:=Zh (And.intro bz (And.intro hT2 hR2));clear hw2 bz hT2 hR2 hx hT hT1 c1 c2
 go_wp2_with (first
  |(refine Ae (by rfl) 126 _ _ (by rfl) w.heap.size x.vals _ br (by rfl) (by rfl) (by rfl) (by kernel_rfl) (Entry.one _) ?_;rw[<-HW2.out])
  |fail)
 refine Ap w.heap.size 0 x.vals (.bool (E7 whole r)) Tryz.results150 Tryz.underlying126 rfl (by kernel_rfl) rfl rfl HL.out.1.range rfl ?_
 exact⟨x,rfl,HL.out.2.2,HL.out.2.1⟩
end
section
attribute [local go_sem ↓] Jx
theorem Ys {r:Rs}(h:r.s.length<=9223372036854775807):(Hr r).2.s.length<=9223372036854775807:=by
 have h1:=Nat.le_trans (Hx h) h;have h2:=Nat.le_trans (M8 (n:=255) h1) h1;exact Nat.le_trans (Hx h2) h2
theorem Amy {whole:Bool}{r:Rs}(h:r.s.length<=9223372036854775807):(Hq whole r).2.s.length<=9223372036854775807:=by
 have h3:=Ys h;unfold Hq;split
 ·have h4:=Nu h3
  exact Nat.le_trans (M8 (n:=64) h4) h4
 ·exact h3
theorem Ni {whole:Bool}{r:Rs}(h:r.s.length<=9223372036854775807):∀k,(Bd whole r k).2.s.length<=9223372036854775807
 |0=>h
 |k+1=>Amy (Ni h k)
theorem Ki (whole:Bool)(r:Rs):∀k,(Bd whole r k).1.length=k
 |0=>rfl
 |k+1=>by simp[Bd,Ki whole r k]
def Ii (whole:Bool)(r:Rs):Bool:=decide ((Am r).1<=64) && (((Am r).2.e==0) && (List.range (Am r).1).all fun i=>E7 whole (Bd whole (Am r).2 i).2)
theorem Aao (g h b:Nat)(c:Int)(whole:Bool)(hc:(c==112)=whole)(r:Rs)(w:World)(hR:Rd w g r)(hH:Blk w h 167 [.pointer (some ⟨g,0,none⟩)])(hL:Blk w b 21 [.int .i32 c])(hl:r.s.length<=9223372036854775807) :
  Calls Tryz.prog 149 #[.pointer (some ⟨g,0,none⟩),.int .i64 64,.func (.func 150) #[] #[.pointer (some ⟨h,0,none⟩),.pointer (some ⟨b,0,none⟩)]] w
   (Arv 126 15 Entry.vals (Ii whole r) (Bd whole (Am r).2 (Am r).1).1 g (Bd whole (Am r).2 (Am r).1).2 w):=by
 obtain⟨i0,hi,hz,hsize,hby⟩:=info_parts Qh;have K:=Zh (G3 g r w hR hl);have hq:=Nat.le_trans (Em hl) hl;have hqe:=Amf (r:=r);have hne:=hH.ne_ hR.1 (by decide);have hnl:=hL.ne_ hR.1 (by decide);have hgl:=hR.lt;have hhl:=hH.lt;have hll:=hL.lt;unfold Ii;clear hR hl;generalize Am r=y at *;obtain⟨n,q⟩:=y;simp only at hq hqe ⊢
 obtain⟨OK,hOK⟩:∃o,o=(decide (n<=64) && ((q.e==0) && (List.range n).all fun i=>E7 whole (Bd whole q i).2)):=⟨_,rfl⟩;rw[<-hOK];have HOK:=Zh hOK;clear hOK;by_cases hn:64<n
 ·have hn':(64:Int)<n:=by omega
  have HO:=Zh (show OK=false by rw[HOK.out];simp;omega);go_enter Tryz.func149,Tryz.ntmps149
  go_wp2_with fail;refine K.out.mono ?_
  rintro e w1 ⟨rfl,hQ⟩;have HQ:=Zh hQ;clear hQ;go_wp2;go_ret2
  rw[HO.out];refine⟨.slice none 0 0,rfl,fun h=>?_,fun _=>rfl,HQ.out.2⟩
  exact absurd h (by simp)
 have hn':¬(64:Int)<n:=by omega
 have HLEN:=Zh (Ni (whole:=whole) hq);go_enter Tryz.func149,Tryz.ntmps149
 go_wp2_with fail;refine K.out.mono ?_
 rintro e w1 ⟨rfl,hQ⟩;have hH1:=hH.Ak hQ.2 hne;have hL1:=hL.Ak hQ.2 hnl;have HQ:=Zh hQ;have HQE:=Zh hqe;clear hQ hH hL hqe;go_wp2
 go_loopw [9,18] (fun v i wr=>∃k,k<=n/\i=.int .i64 k/\As wr w.heap.size 126 15 v ((Bd whole q k).1.map Entry.vals)/\Rd wr g (Bd whole q k).2/\(0<k->(Bd whole q k).2.e=0)/\(k=0->v=.slice none 0 0)/\(∀j,j<k->E7 whole (Bd whole q j).2=true)/\Blk wr h 167 [.pointer (some ⟨g,0,none⟩)]/\Blk wr b 21 [.int .i32 c]/\Touch (fun k=>k=g) w wr) (fun _ i _=>n - (intOf i).toNat)
 case atStart=>exact⟨0,by omega,rfl,As.none_,HQ.out.1,fun h=>by omega,fun _=>rfl,fun j hj=>by omega,hH1,hL1,HQ.out.2⟩
 case round=>
  obtain⟨k,hk,rfl,hRow,hR,he,hv0,hall,hH,hL,hT⟩:=hrel;have hgw:=hR.lt;have hsz:=hT.size;by_cases hlt:k<n
  ·have hlt':(k:Int)<n:=by omega
   have KT:=Zh (Agg g h b c whole hc _ wr hR hH hL (HLEN.out k));have hs1:Bd whole q (k+1)=((Bd whole q k).1++[(Hq whole (Bd whole q k).2).1],(Hq whole (Bd whole q k).2).2):=rfl;have hone:=Ki whole q k;cases hok:E7 whole (Bd whole q k).2
   case true=>
    have he1:(Hq whole (Bd whole q k).2).2.e=0:=by
     unfold E7 at hok;simp at hok
     exact hok.2
    have HALL:=Zh (show ∀j,j<k+1->E7 whole (Bd whole q j).2=true from fun j hj=>by
     rcases Nat.lt_or_ge j k with h|h
     ·exact hall j h
     ·obtain rfl:j=k:=by omega
      exact hok)
    clear hR hall;go_wp2_with fail;refine KT.out.mono ?_
    rintro e w2 ⟨x',rfl,hx,hT2⟩;rw[hok];obtain⟨hx1,hR2⟩:=hx hok;rw[<-hx1]at hs1;clear hx hx1 hok KT;generalize (Hq whole (Bd whole q k).2).2=q1 at *;have hx3:=(Below.refl w2.heap.size w2).alloc (Nat.le_refl _) (.cells x'.vals.toArray 126);have x3:=Blk.new w2 126 x'.vals;have hRow3:=(As.Ak hRow hT2 (fun j hj hg=>by have:=(As.lt hRow j hj).1;omega)).stays hx3;have hH3:=(hH.Ak hT2 hne).stays hx3;have hL3:=(hL.Ak hT2 hnl).stays hx3;have hT3:=(hT.Ay hT2).Ay (Touch.Aq hx3 _);have hR3:=hR2.stays hx3;obtain⟨w3,hw3⟩:∃V,V=w2.alloc (.cells x'.vals.toArray 126):=⟨_,rfl⟩;rw[<-hw3]at x3 hRow3 hH3 hL3 hT3 hR3;have HW3:=Zh hw3;have r3:=x3.row 0 15 (by simp[Entry.len]);rw[show (x'.vals.drop 0).take 15=x'.vals from rfl]at r3;have hz3:=hT3.size;have hap:=As.append (P:=Tryz.prog) 48 48 i0 Tryz.underlying48 hi hz hsize hby rfl (by omega) (by omega) hRow3 (by omega) x'.vals (Entry.len _) (Entry.one _) (by rw[List.length_map,hone];omega);have HA:=Zh hap;have HK:=Zh (And.intro hR3 (And.intro hH3 (And.intro hL3 hT3)));have HS:=Zh hs1;have hiw:IntKind.i64.wrap ((k:Int)+1)=(k:Int)+1:=IntWalk.i64_in _ (by omega);clear hap hRow3 hRow hH hL hT hs1 hv0 hx3 hH3 hL3 hT3 hR3 hR2 hT2 hw3 x3
    go_wp2_with (first
     |(refine De (by rfl) 126 _ _ (by rfl) x'.vals Dx.vals w2 126 rfl (by rfl) (by rfl) (by rfl) (by kernel_rfl) (Entry.one _) ?_;rw[<-HW3.out])
     |(refine K8 (by rfl) 48 126 (.tmp 28) (by rfl) x'.vals (by rfl) Tryz.underlying48 i0 _ hi hz rfl hsize (by rw[Entry.len];omega) (by rw[Entry.len];omega) ?_)
     |(refine Fy (by rfl) (.tmp 27) (.tmp 29) #[48,48] (by rfl) _ _ (by rfl) (by rfl) HA.out ?_;rintro v' w' ⟨hR',hb'⟩)
     |fail)
    have hb1:=hb' w3 (Below.refl _ _);have HR:=Zh hR';have HQ2:=Zh (Rd.Zm HK.out.1 hb1 (by omega));have HH:=Zh (HK.out.2.1.below hb1 (by omega));have HLL:=Zh (HK.out.2.2.1.below hb1 (by omega));have HT:=Zh (HK.out.2.2.2.Zm hb1);clear hR' hb' hb1 HK HA;go_roundw
    case rel=>exact⟨k+1,by omega,by go_num,by rw[HS.out,List.map_append];exact HR.out,by rw[HS.out];exact HQ2.out,fun _=>by rw[HS.out];exact he1,fun h=>by omega,HALL.out,HH.out,HLL.out,HT.out⟩
    case measure=>simp[intOf];omega
   case false=>
    have HO:=Zh (show OK=false by
     rw[HOK.out];have:((List.range n).all fun i=>E7 whole (Bd whole q i).2)=false:=by
      rw[Bool.eq_false_iff];intro h;have:=List.all_eq_true.1 h k (by simp;exact hlt);rw[hok]at this;cases this
     simp[this])
    go_wp2_with fail;refine KT.out.mono ?_
    rintro e w2 ⟨x',rfl,hx,hT2⟩;rw[hok];have HT:=Zh ((hT.Ay hT2).Ay (Touch.Aq ((Below.refl w2.heap.size w2).alloc (Nat.le_refl _) (.cells x'.vals.toArray 126)) _));obtain⟨w3,hw3⟩:∃V,V=w2.alloc (.cells x'.vals.toArray 126):=⟨_,rfl⟩;rw[<-hw3]at HT;have HW3:=Zh hw3;clear hx hT2 hRow hH hL hT KT hw3
    go_wp2_with (first
     |(refine De (by rfl) 126 _ _ (by rfl) x'.vals Dx.vals w2 126 rfl (by rfl) (by rfl) (by rfl) (by kernel_rfl) (Entry.one _) ?_;rw[<-HW3.out])
     |fail)
    go_ret2
    rw[HO.out];refine⟨.slice none 0 0,rfl,fun h=>?_,fun _=>rfl,HT.out⟩
    exact absurd h (by simp)
  ·obtain rfl:k=n:=by omega
   have HR:=Zh hRow;have HQ2:=Zh hR;have HT:=Zh hT;have HV:=Zh hv0;have HE:=Zh he;have HALL:=Zh hall;obtain⟨Q,hQd⟩:∃Q,Q=(Bd whole q k).2:=⟨_,rfl⟩;rw[<-hQd]at HQ2 HE;clear hRow hH hL hT hv0 he hall;go_wp2_with fail;refine(Cn g Q _ HQ2.out).mono ?_
   rintro e w2 ⟨rfl,rfl⟩;by_cases hQe:Q.e=0
   ·have HO:=Zh (show OK=true by
     have hq0:q.e=0:=by
      rcases Nat.eq_zero_or_pos k with h|h
      ·rw[h]at hQd
       rw[<-hQe,hQd];rfl
      ·rcases Decidable.em (q.e=0) with h2|h2
       ·exact h2
       ·have:=HQE.out h2
        omega
     have hal:((List.range k).all fun i=>E7 whole (Bd whole q i).2)=true:=List.all_eq_true.2 fun j hj=>HALL.out j (by simpa using hj)
     rw[HOK.out,hal];simp[hq0]
     omega)
    rw[hQe];go_wp2;go_ret2
    rw[HO.out,<-hQd];refine⟨_,rfl,fun _=>⟨HR.out,HQ2.out⟩,fun h=>?_,HT.out⟩
    exact absurd h (by simp)
   ·have hk0:k=0:=by
     rcases Nat.eq_zero_or_pos k with h|h
     ·exact h
     ·exact absurd (HE.out h) hQe
    have HO:=Zh (show OK=false by
     have hq0:¬q.e=0:=by
      intro h;rw[hk0]at hQd;exact hQe (by rw[hQd];exact h)
     rw[HOK.out];simp[hq0])
    have hv:=HV.out hk0;subst hv;have hQe2:(Q.e==0)=false:=by simpa using hQe
    go_wp2;go_ret2
    rw[HO.out];refine⟨.slice none 0 0,?_,fun h=>?_,fun _=>rfl,HT.out⟩
    ·simp
     intro h;exact hQe (by rw[hQd,hk0];exact h)
    ·exact absurd h (by simp)
end
structure Qv where
 r:Aa
 es:List Entry
 us:List Int
structure Qv.Kk (x:Qv) (w:World):Prop where
 ne:x.r.en=x.es.length
 nu:x.r.un=x.us.length
 le:x.es.length<=9223372036854775807
 lu:x.us.length<=9223372036854775807
 e:At w 15 x.r.ea (x.es.map Entry.vals)
 u:At w 1 x.r.ua (x.us.map Fz)
theorem Qv.Kk.below {x:Qv}{w w':World}(h:x.Kk w)(hb:Below w.heap.size w w'):x.Kk w':=⟨h.ne,h.nu,h.le,h.lu,h.e.below hb,h.u.below hb⟩
attribute [local go_sem] Aa.at0 Aa.Bo Aa.at1 Aa.Bk Aa.at2 Aa.Ca Aa.at3 Aa.Cg Aa.at4 Aa.Cx Aa.at5 Aa.Cw Aa.at6 Aa.Cv Aa.at7 Aa.Cu Aa.at8 Aa.Ct Aa.at9 Aa.Cs Aa.Ee Aa.C4 Aa.Fm Aa.Dm Aa.Fl Aa.Dl Aa.Ia Aa.Ep Aa.H9 Aa.Eo Aa.Lx Aa.Hg Aa.Lw Aa.Hf Aa.Lv Aa.He Aa.Lu Aa.Hd Aa.Lt Aa.Hc Aa.Ls Aa.Ha Aa.Lr Aa.G9 Aa.Lq Aa.G8 Aa.Lp Aa.G7 Aa.Aah Aa.Sx Aa.Aag Aa.Sw Aa.Aaf Aa.Sv Aa.Aae Aa.Su Aa.Aad Aa.St Aa.Aac Aa.Ss Aa.Afz Aa.Wn Aa.Afy Aa.Wm Aa.Afx Aa.Wl Aa.Afw Aa.Wk Aa.Afv Aa.Wj Aa.Afu Aa.Wi Aa.Aft Aa.Wh Aa.Afs Aa.Wg Aa.Afr Aa.Wf Aa.Afq Aa.We Aa.Afp Aa.Wd Aa.Afo Aa.Wc Aa.Afn Aa.Wb Aa.Afm Aa.Wa Aa.Afl Aa.V9 Aa.Afk Aa.V8 Aa.Afj Aa.V7 Aa.Afi Aa.V6 Aa.Afh Aa.V0 Aa.Afg Aa.Vz Aa.Aff Aa.Vy Aa.Afe Aa.Vx Aa.Afd Aa.Vw Aa.Afc Aa.Vv Aa.Afb Aa.Vu Aa.Afa Aa.Vt Aa.Ae9 Aa.Vs Aa.Ae8 Aa.Vr Aa.Oq Aa.Mu Aa.Fa Aa.Ec Aa.E9 Aa.Eb Aa.Mj Aa.Kh Aa.Mi Aa.Kg Aa.Mh Aa.Kf Aa.Oo Aa.Mt Aa.Mg Aa.Ke Aa.Mf Aa.Kd Aa.Me Aa.Kc Aa.On Aa.Ms Aa.Md Aa.Kb Aa.Mc Aa.Ka Aa.len
section
attribute [local go_sem ↓] Qg
theorem Zb (x:Qv)(w:World)(hx:x.Kk w)(h1:x.es.length<=1000000)(h2:x.us.length<=1000000) :
  Calls Tryz.prog 50 #[.agg x.r.vals.toArray] w fun e w'=>∃r:Aa,e=.returned (.agg r.vals.toArray)/\r.bare=x.r.bare/\(Qv.mk r x.es x.us).Kk w'/\As w' w.heap.size 126 15 (.slice r.ea r.en r.ec) (x.es.map Entry.vals)/\As w' w.heap.size 3 1 (.slice r.ua r.un r.uc) (x.us.map Fz)/\Below w.heap.size w w':=by
 obtain⟨x,l,p⟩:=x;obtain⟨ne,nu,le,lu,hAe,hAu⟩:=hx;simp only at ne nu le lu hAe hAu h1 h2 ⊢
 obtain⟨hX,hZ,hB,-⟩:=A7 w x.vals Bt.vals 51 51;obtain⟨w1,hw1⟩:∃u,u=(w.alloc (.cells x.vals.toArray 51)).alloc (.cells Bt.vals.toArray 51):=⟨_,rfl⟩;rw[<-hw1]at hX hZ hB;have HW1:=Zh hw1;have hAe1:=hAe.below hB;have e56:x.vals[56]?=some (.slice x.ea l.length x.ec):=by rw[<-ne];rfl
 have e57:x.vals[57]?=some (.slice x.ua p.length x.uc):=by rw[<-nu];rfl
 have a56:w1.cell? ⟨w.heap.size,56,none⟩=some (.slice x.ea l.length x.ec):=(hX.cell 56).trans e56;have H:=Zh (And.intro hX (And.intro hZ (And.intro hB (And.intro e57 (And.intro ne nu)))));clear hX hZ hB hw1 e56 e57 ne nu;go_enter Tryz.func50,Tryz.ntmps50
 go_upto_region 1 with fail;change Code.wp _ _ _ _ ((w.alloc (.cells x.vals.toArray 51)).alloc (.cells Bt.vals.toArray 51));rw[<-HW1.out];clear HW1
 go_upto_region 2 with (first
  |(go_at_call 107;refine(Alh x.ea x.ec l w1 h1 hAe1).mono ?_;rintro e w2 ⟨A,c,rfl,hR,hb⟩;have hX2:=(H.out.1.stays hb).cell 56;have hf2:=(H.out.1.stays hb).frozen 56)
  |fail)
 obtain⟨hX,hZ,hB,e57,ne,nu⟩:=H.out;have hX3:=(hX.stays hb).Be 56 (.slice A l.length c);have hlz:w.heap.size<w.heap.size+1:=by omega
 have hB1:w.heap.size+1<w1.heap.size:=hZ.lt;have hZ3:=(hZ.stays hb).far (p:=⟨w.heap.size,56,none⟩) (by simp) (.slice A l.length c);have hT3:Touch (fun k=>k=w.heap.size) w2 (w2.setCell ⟨w.heap.size,56,none⟩ (.slice A l.length c)):=(Touch.refl (fun k=>k=w.heap.size) w2).setCell (p:=⟨w.heap.size,56,none⟩) (.inl rfl) (.slice A l.length c);have hR3:=hR.Ak hT3 (fun k hk=>by have:=(hR.lt k hk).1;omega);have hB3:Below w.heap.size w (w2.setCell ⟨w.heap.size,56,none⟩ (.slice A l.length c)):=((hB.trans (hb.mono (by omega)))).trans (hT3.below (fun k _ h=>by omega) (by have:=hb.size;omega));clear hX hZ hB hT3 hR hX2 hf2 a56 hAe1;generalize w2.setCell ⟨w.heap.size,56,none⟩ (.slice A l.length c)=w3 at *;have hAu3:=hAu.below hB3;have a57:w3.cell? ⟨w.heap.size,57,none⟩=some (.slice x.ua p.length x.uc):=by rw[hX3.cell 57];exact e57
 have H3:=Zh (And.intro hX3 (And.intro hZ3 (And.intro hR3 hB3)));clear hX3 hZ3 hR3 hB3 e57 H hb hlz
 go_upto_region 3 with (first
  |(go_at_call 108;refine(Alg x.ua x.uc p w3 h2 hAu3).mono ?_;rintro e w4 ⟨U,d,rfl,hU,hb⟩;have hX4:=(H3.out.1.stays hb).cell 57;have hf4:=(H3.out.1.stays hb).frozen 57)
  |fail)
 obtain⟨hX3,hZ3,hR3,hB3⟩:=H3.out;have hX5:=(hX3.stays hb).Be 57 (.slice U p.length d);have hZ5:=(hZ3.stays hb).far (p:=⟨w.heap.size,57,none⟩) (by simp) (.slice U p.length d);have hltz:=hZ3.lt;have hT5:Touch (fun k=>k=w.heap.size) w4 (w4.setCell ⟨w.heap.size,57,none⟩ (.slice U p.length d)):=(Touch.refl (fun k=>k=w.heap.size) w4).setCell (p:=⟨w.heap.size,57,none⟩) (.inl rfl) (.slice U p.length d);have hU5:=hU.Ak hT5 (fun k hk=>by have:=(hU.lt k hk).1;omega);have hR5:=(hR3.stays hb).Ak hT5 (fun k hk=>by have:=(hR3.lt k hk).1;omega);have hB5:Below w.heap.size w (w4.setCell ⟨w.heap.size,57,none⟩ (.slice U p.length d)):=((hB3.trans (hb.mono (by omega)))).trans (hT5.below (fun k _ h=>by omega) (by have:=hb.size;omega));clear hX3 hZ3 hT5 hU hX4 hf4 a57 hAu3 hR3 hB3;generalize w4.setCell ⟨w.heap.size,57,none⟩ (.slice U p.length d)=w5 at *;obtain⟨r,hr⟩:∃r:Aa,r={ x with ea:=A,en:=l.length,ec:=c,ua:=U,un:=p.length,uc:=d }:=⟨_,rfl⟩;have hrv:(x.vals.set 56 (.slice A l.length c)).set 57 (.slice U p.length d)=r.vals:=by rw[hr];rfl
 rw[hrv]at hX5;have hrow:rowOf w5 w.heap.size 0 58=some r.vals.toArray:=Mm hX5.range (Aa.len r) (by omega);have hT6:Touch (fun k=>k=w.heap.size+1) w5 (w5.setCells (w.heap.size+1) 0 r.vals):=Touch.setRow (F:=fun k=>k=w.heap.size+1) rfl _ _ (Touch.refl _ _);have hR6:=hR5.Ak hT6 (fun k hk=>by have:=(hR5.lt k hk).1;omega);have hU6:=hU5.Ak hT6 (fun k hk=>by have:=(hU5.lt k hk).1;omega);have hB6:Below w.heap.size w (w5.setCells (w.heap.size+1) 0 r.vals):=hB5.trans (hT6.below (fun k _ h=>by omega) (by have:=hZ5.lt;omega));have H6:=Zh (And.intro hR6 (And.intro hU6 hB6));have HR:=Zh (show r.bare=x.bare/\r.ea=A/\r.en=l.length/\r.ec=c/\r.ua=U/\r.un=p.length/\r.uc=d from by subst hr;exact⟨rfl,rfl,rfl,rfl,rfl,rfl,rfl⟩);clear hr;clear hT6 hR6 hU6 hB6 hR5 hU5 hX5 hrv hB5 hAe hAu
 go_wp2_with (first|(refine Ae (by rfl) 51 _ _ (by rfl) (w.heap.size+1) r.vals _ hZ5 (by rfl) (by rfl) (by rfl) (by kernel_rfl) (Aa.one _) ?_)|fail)
 refine Cz (w.heap.size+1) 0 r.vals Tryz.results50 Tryz.underlying51 rfl (by kernel_rfl) rfl (hZ5.whole (by rfl)).range rfl ?_
 obtain⟨q0,q1,q2,q3,q4,q5,q6⟩:=HR.out;obtain⟨hR6,hU6,hB6⟩:=H6.out;obtain⟨A',c',hA',hAt⟩:=hR6.at_;obtain⟨U',d',hU',hUt⟩:=hU6.at_;injection hA' with hA1;injection hU' with hU1;subst hA1 hU1;have hTh:(Qv.mk r l p).Kk (w5.setCells (w.heap.size+1) 0 r.vals):=⟨q2,q5,le,lu,by rw[q1];exact hAt,by rw[q4];exact hUt⟩;have hb3:=hltz;have hRr:=hR6.base (C:=w.heap.size) (by omega);rw[<-q1,<-q2,<-q3]at hRr;have hUr:=hU6.base (C:=w.heap.size) (by have:=hB1;have:=hb3;omega);rw[<-q4,<-q5,<-q6]at hUr;exact⟨r,rfl,q0,hTh,hRr,hUr,hB6⟩
end
section
open Go.ChangeShapes Go.WideShapes Go.ChangeAt Go.RowKit Go.Deep
section
variable {H:Type} {enc:TypeId × Value->H} {w:World} {base:Nat} {spare:Nat->Bool} {held:Bool} {fuel:Nat} {cs:List Value} {x:DataW H × List MemPlace}
instance:Inhabited Entry:=⟨⟨0,[],0,Db,[]⟩⟩
def Qv.vals (x:Qv):List Value:=x.r.vals
end
end
end Go.Proofs.YtfjflkmhhbhceaaGreatDoor
