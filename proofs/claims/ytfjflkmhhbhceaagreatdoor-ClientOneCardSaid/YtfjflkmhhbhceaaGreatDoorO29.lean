/-
  Layer 33, walks: a client whose parts are new; parts that are told whose they are, one by one. No condition.
-/
import Derived.Test.YtfjflkmhhbhceaaGreatDoorO28
import Derived.Test.YtfjflkmhhbhceaaGreatDoorO19
import Derived.Test.YtfjflkmhhbhceaaGreatDoorO27
set_option maxRecDepth 20000
set_option maxHeartbeats 40000000
namespace Go.Proofs.YtfjflkmhhbhceaaGreatDoor
open Go.RowKit
theorem As.fits {w:World}{B:Nat}{e:TypeId}{sz n c:Nat}{A:Option Addr}{rows:List (List Value)}(h:As w B e sz (.slice A n c) rows):n<=c:=by
 rcases h.2.2 with ⟨h1,h2⟩|⟨g,cap,cur,h1,_,_,h4,_⟩
 ·injection h1 with _ h3 _
  omega
 ·injection h1 with _ h3 h5
  omega
theorem As.lenOf {w:World}{B:Nat}{e:TypeId}{sz n c:Nat}{A:Option Addr}{rows:List (List Value)}(h:As w B e sz (.slice A n c) rows):n=rows.length:=by
 obtain⟨A',c',hv,-⟩:=h.at_;injection hv
theorem D3.Ams {F:Nat->Prop}{w w4 wr:World}{g:Nat}{c1:ClD}{z4:Di}{l:List Bz}{A:Option Addr}{n cap B:Nat}{ps qs:List Bm}(hC:D3 F w4 g c1 z4 l)(hF:∀k,F k->k<w.heap.size)(h4:Touch (fun k=>k=g) w w4)(hB:w.heap.size<=B)(hR0:As w4 B 91 29 (.slice A n cap) (qs.map Bm.vals))(hR:As wr B 91 29 (.slice A n cap) (ps.map Bm.vals))
  (hT:Touch (fun k=>(Value.slice A n cap).ownBlock=some k) (w4.setCell ⟨g,19,none⟩ (.slice A n cap)) wr) :
  D3 (fun k=>F k\/(w.heap.size<=k/\k<wr.heap.size)) wr g { c1 with parts:=ps } { z4 with ta:=A,tn:=n,tc:=cap } l/\Touch F w wr:=by
 have hown:∀k,(Value.slice A n cap).ownBlock=some k->w.heap.size<=k/\k<wr.heap.size:=fun k hk=>⟨Nat.le_trans hB (hR.lt k hk).1,(hR.lt k hk).2⟩
 have hown0:∀k,(Value.slice A n cap).ownBlock=some k->k<w4.heap.size:=fun k hk=>(hR0.lt k hk).2
 have hgF:=hF g hC.fg;have ht1:Touch (fun k=>k=g) w4 (w4.setCell ⟨g,19,none⟩ (.slice A n cap)):=(Touch.refl (fun k=>k=g) w4).setCell (p:=⟨g,19,none⟩) (.inl rfl) _;have hb1:=hC.blk.Be 19 (.slice A n cap);rw[Ts]at hb1;have hty:Touch (Gb w4 [93]) w4 (w4.setCell ⟨g,19,none⟩ (.slice A n cap)):=ht1.mono fun k _ hk=>by subst hk;exact Jw hC.blk (by decide)
 have hr1:=hC.rcs.tou (hty.less (by decide));have hoF:∀k,F k->¬(Value.slice A n cap).ownBlock=some k:=fun k hk e=>by have:=hF k hk;have:=(hown k e).1;omega
 have hr2:=hr1.Ik hT hoF;have hb2:=hb1.Ak hT (hoF g hC.fg);have hi:=hC.is;have hs1:=ht1.size;have hs2:=hT.size;refine⟨⟨hb2,⟨hi.id,hi.self,hi.server,hi.ps,hi.now,hi.busy,hi.sent,hi.due,hi.made⟩,⟨?_,hR.fits,hR.rows,fun p hp=>?_⟩,hr2.mono fun k hk=>.inl hk,.inl hC.fg,fun k hk=>?_⟩,?_⟩
 ·have:=hR.lenOf
  rw[List.length_map]at this;exact this
 ·have ho:(Value.slice A n cap).ownBlock=some p.block:=by rw[show A=some p from hp];rfl
  exact⟨.inr (hown _ ho),Ri hR.2 _ ho⟩
 ·rcases hk with hk|hk
  ·have:=hC.lt k hk;omega
  ·exact hk.2
 ·have h5:Touch F w w4:=h4.mono fun k _ hk=>by subst hk;exact hC.fg
  have h6:Touch F w (w4.setCell ⟨g,19,none⟩ (.slice A n cap)):=h5.setCell (p:=⟨g,19,none⟩) (.inl hC.fg) _;exact h6.trans hT fun i hi hk=>absurd (hown i hk).1 (by omega)
def Un (a:Ask)(p:Bm):Bm:={ p with uid:=a.uid,gid:=a.gid }
def Zw (a:Ask)(k:Nat)(ps:List Bm):List Bm:=(ps.take k).map (Un a)++ps.drop k
theorem Ajg (a:Ask)(ps:List Bm):Zw a 0 ps=ps:=rfl
theorem Al0 (a:Ask)(ps:List Bm){k:Nat}(hk:ps.length<=k):Zw a k ps=ps.map (Un a):=by
 unfold Zw;rw[List.take_of_length_le hk,List.drop_eq_nil_of_le hk,List.append_nil]
theorem Ac8 (a:Ask)(k:Nat)(ps:List Bm):(Zw a k ps).length=ps.length:=by
 unfold Zw;rw[List.length_append,List.length_map,List.length_take,List.length_drop];omega
theorem Agb (a:Ask){k:Nat}{ps:List Bm}(hk:k<ps.length):∃pre post,pre.length=k/\Zw a k ps=pre++ps[k]::post/\Zw a (k+1) ps=pre++Un a ps[k]::post:=by
 refine⟨(ps.take k).map (Un a),ps.drop (k+1),by simp;omega,?_,?_⟩
 ·unfold Zw
  rw[List.drop_eq_getElem_cons hk]
 ·unfold Zw
  rw[List.take_add_one,List.getElem?_eq_getElem hk,List.map_append];simp
theorem As.Arz {W:World}{B b n c:Nat}{pre post:List Bm}{x:Bm}(a:Ask)(h:As W B 91 29 (.slice (some ⟨b,0,none⟩) n c) ((pre++x::post).map Bm.vals)) :
  As ((W.setCell ⟨b,pre.length*29+27,none⟩ (.int .i64 a.uid)).setCell ⟨b,pre.length*29+28,none⟩ (.int .i64 a.gid)) B 91 29 (.slice (some ⟨b,0,none⟩) n c) ((pre++Un a x::post).map Bm.vals):=by
 have hn:=h.lenOf;rw[List.map_append,List.map_cons]at h hn ⊢;have hx:x.vals=(x.c.vals++[.int .i64 x.dir,.int .i64 x.to_,.int .i64 x.put])++([.int .i64 x.uid,.int .i64 x.gid]++[]):=by
  unfold Bm.vals;simp
 rw[hx]at h hn;have:=As.Td (r:=[.int .i64 a.uid,.int .i64 a.gid]) h rfl hn;rw[List.length_map]at this;have hl:(x.c.vals++[Value.int .i64 x.dir,.int .i64 x.to_,.int .i64 x.put]).length=27:=rfl;rw[hl]at this;have hy:(Un a x).vals=(x.c.vals++[.int .i64 x.dir,.int .i64 x.to_,.int .i64 x.put])++([.int .i64 a.uid,.int .i64 a.gid]++[]):=by
  unfold Bm.vals Un;simp
 rw[hy];exact this
attribute [local go_sem ↓] Go.wp_at_zero Go.wp_at_succ
attribute [local go_sem] Ai Ag Af Ab Aj
section
attribute [local go_sem ↓] Le Ji
attribute [local go_sem] Bv Bj Cc Bu Cd Bp Dt C8 C7 Dz D5
attribute [local go_sem low] Cr
attribute [local go_sem] Aa.len Ho
theorem Aoh (A:Option Addr)(c:Nat)(l:List Bz)(w:World)(hl:l.length<=1000000)(hA:At w 88 A (l.map Bz.vals)) :
  Calls Tryz.prog 49 #[.slice A l.length c] w fun e w'=>∃A' c',e=.returned (.slice A' l.length c')/\As w' w.heap.size 65 88 (.slice A' l.length c') (l.map Bz.vals)/\Below w.heap.size w w':=by
 suffices H:Calls Tryz.prog 49 #[.slice A l.length c] w fun e w'=>∃v,e=.returned v/\As w' w.heap.size 65 88 v (l.map Bz.vals)/\Below w.heap.size w w' by
  refine H.mono ?_
  rintro e w' ⟨v,rfl,hR,hb⟩;obtain⟨A',c',rfl,-⟩:=hR.at_;rw[List.length_map]at hR ⊢;exact⟨A',c',rfl,hR,hb⟩
 obtain⟨i0,hi,hz,hsize,hby⟩:=info_parts Lm;have q22:∀(w:World) (a:Option Addr) (n c n' c':Nat),(binOp .eql 60 (.slice a n c) (.slice none n' c')).run Tryz.prog w=.ok (.bool a.isNone) w:=fun w a n c n' c'=>Lib.run_eql_slice_nil w _ _ a n c n' c' Tryz.underlying60
 have hlen:∀r∈l.map Bz.vals,r.length=88:=Pr l;cases A with
 |none=>
  have h0:l=[]:=by
   cases l with
   |nil=>rfl
   |cons x l=>obtain⟨b,off,h,_⟩:=hA 0 x.vals (by simp);cases h
  subst h0;go_enter Tryz.func49,Tryz.ntmps49
  go_wp2;go_ret;exact⟨_,rfl,As.none_,Below.refl _ _⟩
 |some A=>
  have hcell:=hA.flat hlen (by omega);have hfl:=K6 _ hlen;rw[List.length_map]at hfl;have H:=Zh (And.intro hcell (And.intro hlen hfl));clear hcell hlen hfl hA;go_enter Tryz.func49,Tryz.ntmps49
  go_wp2_with (at_builtin;refine wpList_append_own _ rfl _ _ 60 rfl w.heap.size 65 i0 (.agg Aiv.vals.toArray) 88 800 Tryz.underlying60 hi hz hsize hby rfl (by decide) _ _ _ rfl (World.ownsRow_made w #[] 0 (Nat.le_refl _) (Nat.zero_le _) rfl) A l.length c (l.map Bz.vals).flatten rfl ?qc1 ?qc2 ?qc3 ?qc4 ?qc5 ?qc6 ?_)
  case qc1=>exact H.out.2.2
  case qc2=>exact fun j u hj=>Lib.cell?_alloc_some _ (H.out.1 j u hj)
  case qc3=>
   intro u hu;obtain⟨r,hr,hu⟩:=List.mem_flatten.1 hu;obtain⟨x,_,rfl⟩:=List.mem_map.1 hr;exact x.one u hu
  case qc4=>unfold maxLen;omega
  case qc5=>omega
  case qc6=>simp
  intro v' w1 hown hgrow hnil;go_wp2;go_ret;refine⟨v',rfl,⟨H.out.2.1,?_⟩,?_⟩
  ·rw[List.length_map]
   simpa using hown
  ·exact((Below.refl _ w).alloc (Nat.le_refl _) _).grown hgrow (by simp) (by intro k hk;simp[Value.ownBlock]at hk;omega)
theorem As.Air {w:World}{B:Nat}{e:TypeId}{sz n c b:Nat}{rows:List (List Value)}(h:As w B e sz (.slice (some ⟨b,0,none⟩) n c) rows)(o k:Nat)(hk:o+k<=n*sz):Ar w b o k=true:=by
 rcases h.2.2 with ⟨h1,_⟩|⟨g',cap',cur,h1,_,h3,h4,_,h6,_⟩
 ·cases h1
 ·injection h1 with h1 h2 h5
  injection h1 with h1;injection h1 with h1 _ _;subst h1;unfold Ar;rw[h3];simp only[decide_eq_true_eq];have h7:=h.lenOf;have:n*sz<=cap'*sz:=Nat.mul_le_mul_right _ (by omega);omega
structure Xd (w0:World) (F:Nat->Prop) (l:List Bz) (rs:List Hn) (w:World) (k:Nat) (lk:List Bz):Prop where
 len:lk.length=l.length
 done:∀(j:Nat) (h:j<lk.length) (h':j<rs.length),j<k->P1 w (fun b=>w0.heap.size<=b) lk[j] rs[j]
 rest:∀(j:Nat) (h:j<lk.length) (h':j<l.length),k<=j->lk[j]=l[j]
theorem Xd.start (w0 w:World)(F:Nat->Prop)(l:List Bz)(rs:List Hn):Xd w0 F l rs w 0 l:=⟨rfl,fun _ _ _ h=>absurd h (Nat.not_lt_zero _),fun _ _ _ _=>rfl⟩
theorem Xd.next {w0 w w':World}{F:Nat->Prop}{l:List Bz}{rs:List Hn}{k:Nat}{lk:List Bz}(h:Xd w0 F l rs w k lk)(hk:k<lk.length)(hk2:k<rs.length)(r:Aa)(hT:Touch (Gb w Ai1) w w')(hR:Ib w' (fun b=>w0.heap.size<=b) r rs[k].rep)(hE:lk[k].C3=rs[k].C3/\lk[k].begin_=rs[k].beg/\lk[k].end_=rs[k].fin/\lk[k].call=rs[k].call) :
  Xd w0 F l rs w' (k+1) (lk.set k { lk[k] with Il:=r }):=by
 refine⟨by rw[List.length_set];exact h.len,fun j h1 h2 h3=>?_,fun j h1 h2 h3=>?_⟩
 ·rw[List.length_set]at h1
  rw[List.getElem_set];split
  ·next e=>
   subst e;exact⟨hE.1,hE.2.1,hE.2.2.1,hE.2.2.2,hR⟩
  ·next e=>exact(h.done j h1 h2 (by omega)).tou hT
 ·rw[List.length_set]at h1
  rw[List.getElem_set];split
  ·next e=>omega
  ·exact h.rest j h1 h2 (by omega)
theorem Sq (F:Nat->Prop)(w:World)(g:Nat)(c:ClD)(z:Di)(l:List Bz)(hC:D3 F w g c z l)(hrl:c.recs.length<=1000000) :
  Calls Tryz.prog 15 #[.pointer (some ⟨g,0,none⟩)] w fun e w'=>∃v lk,e=.returned v/\M3 w' (fun b=>w.heap.size<=b) v lk c.recs/\Below w.heap.size w w':=by
 have hll:l.length=c.recs.length:=hC.rcs.len;have hrow:=hC.rcs.row;have hzn:z.rn=l.length:=by
  have:=hrow.lenOf;rw[List.length_map]at this;exact this
 rw[hzn]at hrow;have c55:w.cell? ⟨g,55,none⟩=some (.slice z.ra l.length z.rc):=by rw[<-hzn];exact hC.blk.cell 55
 have KC:=Zh (Aoh z.ra z.rc l w (by omega) hrow.rows);have HC:=Zh hC;have HLL:=Zh hll;clear hrow hzn hC hll;go_enter Tryz.func15,Tryz.ntmps15
 go_wp2_with fail;refine KC.out.mono ?_
 rintro e w1 ⟨A,cap,rfl,hR,hb⟩;have HR:=Zh hR;have HB:=Zh hb;clear hR hb KC c55;go_wp2
 go_loopw [14] (fun i wr=>∃(k:Nat) (lk:List Bz),k<=l.length/\i=.int .i64 k/\As wr w.heap.size 65 88 (.slice A l.length cap) (lk.map Bz.vals)/\Xd w F l c.recs wr k lk/\Below w.heap.size w wr) (fun i _=>l.length - (intOf i).toNat)
 case atStart=>exact⟨0,l,Nat.zero_le _,rfl,HR.out,Xd.start _ _ _ _ _,HB.out⟩
 case round=>
  obtain⟨k,lk,hk,rfl,hR,hH,hB⟩:=hrel;by_cases hlt:k<l.length
  ·have hlk:k<lk.length:=by rw[hH.len];exact hlt
   have hkr:k<c.recs.length:=by have:=HLL.out;omega
   have hx:=hH.rest k hlk hlt (Nat.le_refl _);have hI:=HC.out.rcs.each k hlt hkr;rw[<-hx]at hI;obtain⟨b,rfl⟩:∃b,A=some ⟨b,0,none⟩:=by
    rcases hR.2.2 with ⟨h1,h2⟩|⟨g',cap',cur,h1,_⟩
    ·rw[List.length_map]at h2;omega
    ·injection h1 with h1 _ _
     exact⟨g',h1⟩
   have hrr:rowOf wr b (k*88+30) 58=some lk[k].Il.vals.toArray:=by
    obtain⟨b2,o2,h1,h2,h3⟩:=hR.rows k lk[k].vals (by rw[List.getElem?_map,List.getElem?_eq_getElem hlk];rfl);injection h1 with h1;injection h1 with h4 h5 _;subst h4 h5;refine Mm (fun j u hu=>?_) (Aa.len _) (by decide)
    have h6:=h3 (30+j) u (by rw[<-List.getElem?_drop,show lk[k].vals.drop 30=lk[k].Il.vals from rfl];exact hu);rw[show 0+k*88+(30+j)=k*88+30+j by omega]at h6;exact h6
   have hrep:=hI.rep;have KR:=Zh (Zb ⟨lk[k].Il,c.recs[k].rep.es,c.recs[k].rep.us⟩ wr (hrep.there.below hB) hrep.le hrep.lu);have tB:=Zh (fun (V:World) (h:Below wr.heap.size wr V)=>Ej (hR.Air (k*88+30) 58 (by omega)) h);have hk0:(0:Int)<=(k:Int):=Int.natCast_nonneg _;have hk1:(k:Int)<(l.length:Int):=by omega
   have hkw:IntKind.i64.wrap ((k:Int)+1)=((k+1:Nat):Int):=by rw[IntWalk.i64_in _ (by omega)];omega
   have HK:=Zh (And.intro hR (And.intro hH (And.intro hB (And.intro hI hx))));have Hlk:=Zh (And.intro hlk hkr);clear hR hH hB hI hx hrep;go_wp2_with fail;refine KR.out.mono ?_
   rintro e w5 ⟨r,rfl,hbare,hth5,hE5,hU5,hb5⟩;have t5:=tB.out w5 hb5;have H5:=Zh (And.intro hbare (And.intro hE5 (And.intro hU5 hb5)));clear hbare hth5 hE5 hU5 hb5 hrr KR;go_wp2;go_roundw
   case rel=>
    obtain⟨hR,hH,hB,hI,hx⟩:=HK.out;obtain⟨hbare,hE5,hU5,hb5⟩:=H5.out;obtain⟨hlk,hkr⟩:=Hlk.out;have hR5:=hR.stays hb5;have hsp:lk=lk.take k++lk[k]::lk.drop (k+1):=by rw[<-List.drop_eq_getElem_cons hlk,List.take_append_drop]
    have hset:lk.set k { lk[k] with Il:=r }=lk.take k++{ lk[k] with Il:=r }::lk.drop (k+1):=by
     rw[List.set_eq_take_append_cons_drop,if_pos hlk]
    have hb88:b<w5.heap.size:=(hR5.lt b rfl).2;have hty:Touch (Gb w5 Ai1) w5 (putsW w5 b (k*88+30) r.vals):=((Touch.refl (fun j=>j=b) w5).D2 (k:=b) (.inl rfl)).mono fun j _ hj=>by
     subst hj;obtain⟨C,hC⟩:=Ri hR5.2 j rfl;exact⟨C,_,_,hC,by decide⟩
    have hbB:w.heap.size<=b:=(hR5.lt b rfl).1;have hwr:=hB.size;have hln:=hH.len;refine⟨k+1,lk.set k { lk[k] with Il:=r },by omega,by go_num,?_,?_,?_⟩
    ·rw[hset,List.map_append,List.map_cons]
     have h1:=hR5;rw[hsp,List.map_append,List.map_cons]at h1;have h2:=As.Td (a:=lk[k].vals.take 30) (m:=lk[k].Il.vals) (b:=[]) (r:=r.vals) (pre:=(lk.take k).map Bz.vals) (post:=(lk.drop (k+1)).map Bz.vals) (by
      rw[List.append_nil,show lk[k].vals.take 30++lk[k].Il.vals=lk[k].vals from rfl];exact h1) (by rw[Aa.len,Aa.len]) (by simp;omega)
     rw[List.length_map,List.length_take,Nat.min_eq_left (by omega),show (lk[k].vals.take 30).length=30 from rfl,<-B9,List.append_nil]at h2;exact h2
    ·have hH5:Xd w F l c.recs w5 k lk:=⟨hH.len,fun j h1 h2 h3=>(hH.done j h1 h2 h3).tou (Touch.Aq hb5 _),hH.rest⟩
     refine hH5.next hlk hkr r hty ?_ ⟨hI.C3,hI.beg,hI.fin,hI.call⟩
     have hz:Ib w5 (fun b=>w.heap.size<=b) r c.recs[k].rep:=⟨hbare.trans hI.rep.bare,hE5.base (Nat.zero_le _),hU5.base (Nat.zero_le _),fun j hj=>Nat.le_trans hwr (hE5.lt j hj).1,fun j hj=>Nat.le_trans hwr (hU5.lt j hj).1,hI.rep.le,hI.rep.lu⟩;exact hz.tou hty
    ·rw[B9]
     exact Below.setCells hbB _ _ _ (Ad hB hb5)
   case measure=>simp[intOf];omega
  ·obtain rfl:k=l.length:=by omega
   have HK:=Zh (And.intro hR (And.intro hH hB));clear hR hH hB;go_wp2;go_ret;obtain⟨hR,hH,hB⟩:=HK.out;refine⟨_,lk,rfl,⟨hR.base (Nat.zero_le _),fun j hj=>(hR.lt j hj).1,hH.len.trans HLL.out,fun i h1 h2=>hH.done i h1 h2 (by have:=hH.len;omega)⟩,hB⟩
end
attribute [local go_sem] Ask.at0 Ask.Bo Ask.at1 Ask.Bk Ask.at2 Ask.Ca Ask.at3 Ask.Cg Ask.at4 Ask.Cx Ask.at5 Ask.Cw Ask.at6 Ask.Cv Ask.at7 Ask.Cu Ask.at8 Ask.Ct Ask.at9 Ask.Cs Ask.Ee Ask.C4 Ask.Fm Ask.Dm Ask.Fl Ask.Dl Ask.Ia Ask.Ep Ask.H9 Ask.Eo Ask.Lx Ask.Hg Ask.Lw Ask.Hf Ask.Lv Ask.He Ask.Lu Ask.Hd Ask.Lt Ask.Hc Ask.Ls Ask.Ha Ask.Lr Ask.G9 Ask.Lq Ask.G8 Ask.Lp Ask.G7 Ask.Aah Ask.Sx Ask.Aag Ask.Sw Ask.Aaf Ask.Sv Ask.Aae Ask.Su Ask.Aad Ask.St Ask.Aac Ask.Ss Ask.Ao8 Ask.Ang Ask.Ao4 Ask.Anb Ask.Al8 Ask.Aks Ask.F9 Ask.Et Ask.F8 Ask.Es Ask.F7 Ask.Er Ask.Ao7 Ask.Anf Ask.Ao6 Ask.Ane Ask.Ao5 Ask.Anc Ask.len Call.at0 Call.Bo Call.at1 Call.Bk Call.at2 Call.Ca Call.at3 Call.Cg Call.at4 Call.Cx Call.at5 Call.Cw Call.at6 Call.Cv Call.at7 Call.Cu Call.at8 Call.Ct Call.at9 Call.Cs Call.Ee Call.C4 Call.Fm Call.Dm Call.Fl Call.Dl Call.Ia Call.Ep Call.H9 Call.Eo Call.Lx Call.Hg Call.Lw Call.Hf Call.Lv Call.He Call.Lu Call.Hd Call.Lt Call.Hc Call.Ls Call.Ha Call.Lr Call.G9 Call.Lq Call.G8 Call.Lp Call.G7 Call.Gy Call.Fj Call.Gv Call.Fg Call.Jn Call.Gz Call.Gx Call.Fi Call.Gw Call.Fh Call.F9 Call.Et Call.F8 Call.Es Call.F7 Call.Er Call.len
section
attribute [local go_sem ↓] F1 D6 L6
attribute [local go_sem] Bv Bj Cc Bu Cd Cj Cm C2 Bc Az Bp Dt C8 C7 Dz D5
attribute [local go_sem low] Cr
attribute [local go_sem] F4 Call.len D0
def R1 (a:Ask)(w:World)(e:Ending)(w':World):Prop:=
 ∃A c,e=.returned (.tuple #[.agg (Bq a).1.vals.toArray,.slice A (Bq a).2.1.length c,.bool (Bq a).2.2])/\At w' 1 A ((Bq a).2.1.map Fz)/\Below w.heap.size w w'
theorem Pz {a:Ask}{w w2:World}{b:Nat}{r:Call}{is:List Int}{is':List Value}(hR:Blk w2 b 36 Aw.vals)(hB:Below w.heap.size w w2)(hb:w.heap.size<=b)(hq:Bq a=(r,is,true))(hi:(is.map Fz).flatten=is') :
  ((((putsW w2 b 0 r.vals).alloc (.cells is'.toArray 3)).drew).rangeAt b 0 r.vals)/\R1 a w (.returned (.tuple #[.agg r.vals.toArray,.slice (some ⟨w2.heap.size,0,none⟩) is.length is.length,.bool true])) (((putsW w2 b 0 r.vals).alloc (.cells is'.toArray 3)).drew):=by
 have h1:Blk (putsW w2 b 0 r.vals) b 36 r.vals:=by
  rw[B9];exact hR.whole (by rw[Call.len,Call.len])
 have h2:Below w.heap.size w (putsW w2 b 0 r.vals):=by
  rw[B9];exact Below.Bf hB hb _
 have h3:=(h1.alloc (.cells is'.toArray 3)).drew;subst hi;refine⟨h3.range,some ⟨w2.heap.size,0,none⟩,is.length,?_,?_,((h2.alloc h2.size _).drew)⟩
 ·rw[hq]
 ·rw[hq]
  exact(At.fresh (putsW w2 b 0 r.vals) 3 1 w2.heap.size (is.map Fz) (fun q hq=>by obtain⟨_,_,rfl⟩:=List.mem_map.1 hq;rfl) (Bp _ _ _ _).symm).drew
theorem Alq (a:Ask)(w:World)(hk:a.kind=1):Calls Tryz.prog 33 #[.agg a.vals.toArray] w (R1 a w):=by
 have HQ:=Zh (show Bq a=({ Aw with proc:=3,name:=a.call.name },[a.dir,a.var],true) from if_pos hk);obtain⟨bA,bR,hB,hs⟩:=A7 w a.vals Aw.vals 38 36;obtain⟨w1,hw1⟩:∃V,V=(w.alloc (.cells a.vals.toArray 38)).alloc (.cells Aw.vals.toArray 36):=⟨_,rfl⟩;rw[<-hw1]at bA bR hB hs;have HW:=Zh hw1;clear hw1;have c0:w1.cell? ⟨w.heap.size,0,none⟩=some (.int .i64 1):=by rw[bA.cell 0];show some (Value.int .i64 a.kind)=_;rw[hk]
 have c1:w1.cell? ⟨w.heap.size,1,none⟩=some (.int .i64 a.var):=bA.cell 1;have c2:w1.cell? ⟨w.heap.size,2,none⟩=some (.int .i64 a.dir):=bA.cell 2;have c3:w1.cell? ⟨w.heap.size,3,none⟩=some (.int .i64 a.to_):=bA.cell 3;have rC:rowOf w1 w.heap.size 6 24=some a.call.vals.toArray:=bA.row 6 24 (by rw[Ask.len];omega);have hl1:=bA.lt;go_enter Tryz.func33,Tryz.ntmps33
 go_upto_region 1 with fail;change Code.wp _ _ _ _ ((w.alloc (.cells a.vals.toArray 38)).alloc (.cells Aw.vals.toArray 36));rw[<-HW.out]
 go_upto_region 3 with fail;change Code.wp _ _ _ _ (w1.alloc (.cells ({ a.call with fh:=[],fh2:=[] }:Call).vals.toArray 36));have bX:=Blk.new w1 36 ({ a.call with fh:=[],fh2:=[] }:Call).vals;have hB2:Below w1.heap.size w1 (w1.alloc (.cells ({ a.call with fh:=[],fh2:=[] }:Call).vals.toArray 36)):=(Below.refl _ _).alloc (Nat.le_refl _) _;generalize w1.alloc (.cells ({ a.call with fh:=[],fh2:=[] }:Call).vals.toArray 36)=w2 at *;rw[hs]at bX;replace bR:=bR.stays hB2;have hlt2:=bX.lt;have hltR:w.heap.size+1<w2.heap.size:=by omega
 have hlt0:w.heap.size<w2.heap.size:=by omega
 have hn0:w.heap.size≠w.heap.size+1:=by omega
 have hn2:w.heap.size+1+1≠w.heap.size+1:=by omega
 have d2:w2.cell? ⟨w.heap.size+1+1,2,none⟩=some (.string (bs a.call.name)):=bX.cell 2;have d5:w2.cell? ⟨w.heap.size+1+1,5,none⟩=some (.int .i64 a.call.offset):=bX.cell 5;have d6:w2.cell? ⟨w.heap.size+1+1,6,none⟩=some (.int .i64 a.call.count):=bX.cell 6;have d8:w2.cell? ⟨w.heap.size+1+1,8,none⟩=some (.string (bs a.call.data)):=bX.cell 8;have rX:rowOf w2 (w.heap.size+1+1) 0 24=some ({ a.call with fh:=[],fh2:=[] }:Call).vals.toArray:=bX.row 0 24 (by rw[Call.len];omega);replace c0:=(hB2.cell (p:=⟨w.heap.size,0,none⟩) hl1).trans c0;replace c1:=(hB2.cell (p:=⟨w.heap.size,1,none⟩) hl1).trans c1;replace c2:=(hB2.cell (p:=⟨w.heap.size,2,none⟩) hl1).trans c2;replace c3:=(hB2.cell (p:=⟨w.heap.size,3,none⟩) hl1).trans c3;have tR:=bR.Ar 0 24 (by rw[Call.len];omega);have HB:=Zh (Ad hB hB2);have HR:=Zh bR;clear rC hs hB hB2 bA bX bR hl1 HW;go_wp2;go_region;go_wp2;have HE:=Pz (is':=[.int .i64 a.dir,.int .i64 a.var]) HR.out HB.out (by omega) HQ.out rfl;refine Lf (w.heap.size+1) 0 ({ Aw with proc:=3,name:=a.call.name }:Call).vals _ _ Tryz.results33 Tryz.underlying36 rfl (by kernel_rfl) rfl rfl rfl HE.1 rfl ?_
 exact HE.2
theorem Alp (a:Ask)(w:World)(hk:a.kind=2):Calls Tryz.prog 33 #[.agg a.vals.toArray] w (R1 a w):=by
 have HQ:=Zh (show Bq a=({ Aw with proc:=6,offset:=a.call.offset,count:=a.call.count },[a.var],true) from (if_neg (by omega)).trans (if_pos hk));obtain⟨bA,bR,hB,hs⟩:=A7 w a.vals Aw.vals 38 36;obtain⟨w1,hw1⟩:∃V,V=(w.alloc (.cells a.vals.toArray 38)).alloc (.cells Aw.vals.toArray 36):=⟨_,rfl⟩;rw[<-hw1]at bA bR hB hs;have HW:=Zh hw1;clear hw1;have c0:w1.cell? ⟨w.heap.size,0,none⟩=some (.int .i64 2):=by rw[bA.cell 0];show some (Value.int .i64 a.kind)=_;rw[hk]
 have c1:w1.cell? ⟨w.heap.size,1,none⟩=some (.int .i64 a.var):=bA.cell 1;have c2:w1.cell? ⟨w.heap.size,2,none⟩=some (.int .i64 a.dir):=bA.cell 2;have c3:w1.cell? ⟨w.heap.size,3,none⟩=some (.int .i64 a.to_):=bA.cell 3;have rC:rowOf w1 w.heap.size 6 24=some a.call.vals.toArray:=bA.row 6 24 (by rw[Ask.len];omega);have hl1:=bA.lt;go_enter Tryz.func33,Tryz.ntmps33
 go_upto_region 1 with fail;change Code.wp _ _ _ _ ((w.alloc (.cells a.vals.toArray 38)).alloc (.cells Aw.vals.toArray 36));rw[<-HW.out]
 go_upto_region 3 with fail;change Code.wp _ _ _ _ (w1.alloc (.cells ({ a.call with fh:=[],fh2:=[] }:Call).vals.toArray 36));have bX:=Blk.new w1 36 ({ a.call with fh:=[],fh2:=[] }:Call).vals;have hB2:Below w1.heap.size w1 (w1.alloc (.cells ({ a.call with fh:=[],fh2:=[] }:Call).vals.toArray 36)):=(Below.refl _ _).alloc (Nat.le_refl _) _;generalize w1.alloc (.cells ({ a.call with fh:=[],fh2:=[] }:Call).vals.toArray 36)=w2 at *;rw[hs]at bX;replace bR:=bR.stays hB2;have hlt2:=bX.lt;have hltR:w.heap.size+1<w2.heap.size:=by omega
 have hlt0:w.heap.size<w2.heap.size:=by omega
 have hn0:w.heap.size≠w.heap.size+1:=by omega
 have hn2:w.heap.size+1+1≠w.heap.size+1:=by omega
 have d2:w2.cell? ⟨w.heap.size+1+1,2,none⟩=some (.string (bs a.call.name)):=bX.cell 2;have d5:w2.cell? ⟨w.heap.size+1+1,5,none⟩=some (.int .i64 a.call.offset):=bX.cell 5;have d6:w2.cell? ⟨w.heap.size+1+1,6,none⟩=some (.int .i64 a.call.count):=bX.cell 6;have d8:w2.cell? ⟨w.heap.size+1+1,8,none⟩=some (.string (bs a.call.data)):=bX.cell 8;have rX:rowOf w2 (w.heap.size+1+1) 0 24=some ({ a.call with fh:=[],fh2:=[] }:Call).vals.toArray:=bX.row 0 24 (by rw[Call.len];omega);replace c0:=(hB2.cell (p:=⟨w.heap.size,0,none⟩) hl1).trans c0;replace c1:=(hB2.cell (p:=⟨w.heap.size,1,none⟩) hl1).trans c1;replace c2:=(hB2.cell (p:=⟨w.heap.size,2,none⟩) hl1).trans c2;replace c3:=(hB2.cell (p:=⟨w.heap.size,3,none⟩) hl1).trans c3;have tR:=bR.Ar 0 24 (by rw[Call.len];omega);have HB:=Zh (Ad hB hB2);have HR:=Zh bR;clear rC hs hB hB2 bA bX bR hl1 HW;go_wp2;go_region;go_wp2;have HE:=Pz (is':=[.int .i64 a.var]) HR.out HB.out (by omega) HQ.out rfl;refine Lf (w.heap.size+1) 0 ({ Aw with proc:=6,offset:=a.call.offset,count:=a.call.count }:Call).vals _ _ Tryz.results33 Tryz.underlying36 rfl (by kernel_rfl) rfl rfl rfl HE.1 rfl ?_
 exact HE.2
theorem Alo (a:Ask)(w:World)(hk:a.kind=3):Calls Tryz.prog 33 #[.agg a.vals.toArray] w (R1 a w):=by
 have HQ:=Zh (show Bq a=({ Aw with proc:=7,offset:=a.call.offset,data:=a.call.data,how:=2 },[a.var],true) from (if_neg (by omega)).trans ((if_neg (by omega)).trans (if_pos hk)));obtain⟨bA,bR,hB,hs⟩:=A7 w a.vals Aw.vals 38 36;obtain⟨w1,hw1⟩:∃V,V=(w.alloc (.cells a.vals.toArray 38)).alloc (.cells Aw.vals.toArray 36):=⟨_,rfl⟩;rw[<-hw1]at bA bR hB hs;have HW:=Zh hw1;clear hw1;have c0:w1.cell? ⟨w.heap.size,0,none⟩=some (.int .i64 3):=by rw[bA.cell 0];show some (Value.int .i64 a.kind)=_;rw[hk]
 have c1:w1.cell? ⟨w.heap.size,1,none⟩=some (.int .i64 a.var):=bA.cell 1;have c2:w1.cell? ⟨w.heap.size,2,none⟩=some (.int .i64 a.dir):=bA.cell 2;have c3:w1.cell? ⟨w.heap.size,3,none⟩=some (.int .i64 a.to_):=bA.cell 3;have rC:rowOf w1 w.heap.size 6 24=some a.call.vals.toArray:=bA.row 6 24 (by rw[Ask.len];omega);have hl1:=bA.lt;go_enter Tryz.func33,Tryz.ntmps33
 go_upto_region 1 with fail;change Code.wp _ _ _ _ ((w.alloc (.cells a.vals.toArray 38)).alloc (.cells Aw.vals.toArray 36));rw[<-HW.out]
 go_upto_region 3 with fail;change Code.wp _ _ _ _ (w1.alloc (.cells ({ a.call with fh:=[],fh2:=[] }:Call).vals.toArray 36));have bX:=Blk.new w1 36 ({ a.call with fh:=[],fh2:=[] }:Call).vals;have hB2:Below w1.heap.size w1 (w1.alloc (.cells ({ a.call with fh:=[],fh2:=[] }:Call).vals.toArray 36)):=(Below.refl _ _).alloc (Nat.le_refl _) _;generalize w1.alloc (.cells ({ a.call with fh:=[],fh2:=[] }:Call).vals.toArray 36)=w2 at *;rw[hs]at bX;replace bR:=bR.stays hB2;have hlt2:=bX.lt;have hltR:w.heap.size+1<w2.heap.size:=by omega
 have hlt0:w.heap.size<w2.heap.size:=by omega
 have hn0:w.heap.size≠w.heap.size+1:=by omega
 have hn2:w.heap.size+1+1≠w.heap.size+1:=by omega
 have d2:w2.cell? ⟨w.heap.size+1+1,2,none⟩=some (.string (bs a.call.name)):=bX.cell 2;have d5:w2.cell? ⟨w.heap.size+1+1,5,none⟩=some (.int .i64 a.call.offset):=bX.cell 5;have d6:w2.cell? ⟨w.heap.size+1+1,6,none⟩=some (.int .i64 a.call.count):=bX.cell 6;have d8:w2.cell? ⟨w.heap.size+1+1,8,none⟩=some (.string (bs a.call.data)):=bX.cell 8;have rX:rowOf w2 (w.heap.size+1+1) 0 24=some ({ a.call with fh:=[],fh2:=[] }:Call).vals.toArray:=bX.row 0 24 (by rw[Call.len];omega);replace c0:=(hB2.cell (p:=⟨w.heap.size,0,none⟩) hl1).trans c0;replace c1:=(hB2.cell (p:=⟨w.heap.size,1,none⟩) hl1).trans c1;replace c2:=(hB2.cell (p:=⟨w.heap.size,2,none⟩) hl1).trans c2;replace c3:=(hB2.cell (p:=⟨w.heap.size,3,none⟩) hl1).trans c3;have tR:=bR.Ar 0 24 (by rw[Call.len];omega);have HB:=Zh (Ad hB hB2);have HR:=Zh bR;clear rC hs hB hB2 bA bX bR hl1 HW;go_wp2;go_region;go_wp2;have HE:=Pz (is':=[.int .i64 a.var]) HR.out HB.out (by omega) HQ.out rfl;refine Lf (w.heap.size+1) 0 ({ Aw with proc:=7,offset:=a.call.offset,data:=a.call.data,how:=2 }:Call).vals _ _ Tryz.results33 Tryz.underlying36 rfl (by kernel_rfl) rfl rfl rfl HE.1 rfl ?_
 exact HE.2
theorem Aln (a:Ask)(w:World)(hk:a.kind=4):Calls Tryz.prog 33 #[.agg a.vals.toArray] w (R1 a w):=by
 have HQ:=Zh (show Bq a=({ Aw with proc:=21 },[a.var],true) from (if_neg (by omega)).trans ((if_neg (by omega)).trans ((if_neg (by omega)).trans (if_pos hk))));obtain⟨bA,bR,hB,hs⟩:=A7 w a.vals Aw.vals 38 36;obtain⟨w1,hw1⟩:∃V,V=(w.alloc (.cells a.vals.toArray 38)).alloc (.cells Aw.vals.toArray 36):=⟨_,rfl⟩;rw[<-hw1]at bA bR hB hs;have HW:=Zh hw1;clear hw1;have c0:w1.cell? ⟨w.heap.size,0,none⟩=some (.int .i64 4):=by rw[bA.cell 0];show some (Value.int .i64 a.kind)=_;rw[hk]
 have c1:w1.cell? ⟨w.heap.size,1,none⟩=some (.int .i64 a.var):=bA.cell 1;have c2:w1.cell? ⟨w.heap.size,2,none⟩=some (.int .i64 a.dir):=bA.cell 2;have c3:w1.cell? ⟨w.heap.size,3,none⟩=some (.int .i64 a.to_):=bA.cell 3;have rC:rowOf w1 w.heap.size 6 24=some a.call.vals.toArray:=bA.row 6 24 (by rw[Ask.len];omega);have hl1:=bA.lt;go_enter Tryz.func33,Tryz.ntmps33
 go_upto_region 1 with fail;change Code.wp _ _ _ _ ((w.alloc (.cells a.vals.toArray 38)).alloc (.cells Aw.vals.toArray 36));rw[<-HW.out]
 go_upto_region 3 with fail;change Code.wp _ _ _ _ (w1.alloc (.cells ({ a.call with fh:=[],fh2:=[] }:Call).vals.toArray 36));have bX:=Blk.new w1 36 ({ a.call with fh:=[],fh2:=[] }:Call).vals;have hB2:Below w1.heap.size w1 (w1.alloc (.cells ({ a.call with fh:=[],fh2:=[] }:Call).vals.toArray 36)):=(Below.refl _ _).alloc (Nat.le_refl _) _;generalize w1.alloc (.cells ({ a.call with fh:=[],fh2:=[] }:Call).vals.toArray 36)=w2 at *;rw[hs]at bX;replace bR:=bR.stays hB2;have hlt2:=bX.lt;have hltR:w.heap.size+1<w2.heap.size:=by omega
 have hlt0:w.heap.size<w2.heap.size:=by omega
 have hn0:w.heap.size≠w.heap.size+1:=by omega
 have hn2:w.heap.size+1+1≠w.heap.size+1:=by omega
 have d2:w2.cell? ⟨w.heap.size+1+1,2,none⟩=some (.string (bs a.call.name)):=bX.cell 2;have d5:w2.cell? ⟨w.heap.size+1+1,5,none⟩=some (.int .i64 a.call.offset):=bX.cell 5;have d6:w2.cell? ⟨w.heap.size+1+1,6,none⟩=some (.int .i64 a.call.count):=bX.cell 6;have d8:w2.cell? ⟨w.heap.size+1+1,8,none⟩=some (.string (bs a.call.data)):=bX.cell 8;have rX:rowOf w2 (w.heap.size+1+1) 0 24=some ({ a.call with fh:=[],fh2:=[] }:Call).vals.toArray:=bX.row 0 24 (by rw[Call.len];omega);replace c0:=(hB2.cell (p:=⟨w.heap.size,0,none⟩) hl1).trans c0;replace c1:=(hB2.cell (p:=⟨w.heap.size,1,none⟩) hl1).trans c1;replace c2:=(hB2.cell (p:=⟨w.heap.size,2,none⟩) hl1).trans c2;replace c3:=(hB2.cell (p:=⟨w.heap.size,3,none⟩) hl1).trans c3;have tR:=bR.Ar 0 24 (by rw[Call.len];omega);have HB:=Zh (Ad hB hB2);have HR:=Zh bR;clear rC hs hB hB2 bA bX bR hl1 HW;go_wp2;go_region;go_wp2;have HE:=Pz (is':=[.int .i64 a.var]) HR.out HB.out (by omega) HQ.out rfl;refine Lf (w.heap.size+1) 0 ({ Aw with proc:=21 }:Call).vals _ _ Tryz.results33 Tryz.underlying36 rfl (by kernel_rfl) rfl rfl rfl HE.1 rfl ?_
 exact HE.2
theorem Alm (a:Ask)(w:World)(hk:a.kind=5):Calls Tryz.prog 33 #[.agg a.vals.toArray] w (R1 a w):=by
 have HQ:=Zh (show Bq a=({ a.call with fh:=[],fh2:=[] },[a.dir,a.to_,a.var],true) from (if_neg (by omega)).trans ((if_neg (by omega)).trans ((if_neg (by omega)).trans ((if_neg (by omega)).trans (if_pos hk)))));obtain⟨bA,bR,hB,hs⟩:=A7 w a.vals Aw.vals 38 36;obtain⟨w1,hw1⟩:∃V,V=(w.alloc (.cells a.vals.toArray 38)).alloc (.cells Aw.vals.toArray 36):=⟨_,rfl⟩;rw[<-hw1]at bA bR hB hs;have HW:=Zh hw1;clear hw1;have c0:w1.cell? ⟨w.heap.size,0,none⟩=some (.int .i64 5):=by rw[bA.cell 0];show some (Value.int .i64 a.kind)=_;rw[hk]
 have c1:w1.cell? ⟨w.heap.size,1,none⟩=some (.int .i64 a.var):=bA.cell 1;have c2:w1.cell? ⟨w.heap.size,2,none⟩=some (.int .i64 a.dir):=bA.cell 2;have c3:w1.cell? ⟨w.heap.size,3,none⟩=some (.int .i64 a.to_):=bA.cell 3;have rC:rowOf w1 w.heap.size 6 24=some a.call.vals.toArray:=bA.row 6 24 (by rw[Ask.len];omega);have hl1:=bA.lt;go_enter Tryz.func33,Tryz.ntmps33
 go_upto_region 1 with fail;change Code.wp _ _ _ _ ((w.alloc (.cells a.vals.toArray 38)).alloc (.cells Aw.vals.toArray 36));rw[<-HW.out]
 go_upto_region 3 with fail;change Code.wp _ _ _ _ (w1.alloc (.cells ({ a.call with fh:=[],fh2:=[] }:Call).vals.toArray 36));have bX:=Blk.new w1 36 ({ a.call with fh:=[],fh2:=[] }:Call).vals;have hB2:Below w1.heap.size w1 (w1.alloc (.cells ({ a.call with fh:=[],fh2:=[] }:Call).vals.toArray 36)):=(Below.refl _ _).alloc (Nat.le_refl _) _;generalize w1.alloc (.cells ({ a.call with fh:=[],fh2:=[] }:Call).vals.toArray 36)=w2 at *;rw[hs]at bX;replace bR:=bR.stays hB2;have hlt2:=bX.lt;have hltR:w.heap.size+1<w2.heap.size:=by omega
 have hlt0:w.heap.size<w2.heap.size:=by omega
 have hn0:w.heap.size≠w.heap.size+1:=by omega
 have hn2:w.heap.size+1+1≠w.heap.size+1:=by omega
 have d2:w2.cell? ⟨w.heap.size+1+1,2,none⟩=some (.string (bs a.call.name)):=bX.cell 2;have d5:w2.cell? ⟨w.heap.size+1+1,5,none⟩=some (.int .i64 a.call.offset):=bX.cell 5;have d6:w2.cell? ⟨w.heap.size+1+1,6,none⟩=some (.int .i64 a.call.count):=bX.cell 6;have d8:w2.cell? ⟨w.heap.size+1+1,8,none⟩=some (.string (bs a.call.data)):=bX.cell 8;have rX:rowOf w2 (w.heap.size+1+1) 0 24=some ({ a.call with fh:=[],fh2:=[] }:Call).vals.toArray:=bX.row 0 24 (by rw[Call.len];omega);replace c0:=(hB2.cell (p:=⟨w.heap.size,0,none⟩) hl1).trans c0;replace c1:=(hB2.cell (p:=⟨w.heap.size,1,none⟩) hl1).trans c1;replace c2:=(hB2.cell (p:=⟨w.heap.size,2,none⟩) hl1).trans c2;replace c3:=(hB2.cell (p:=⟨w.heap.size,3,none⟩) hl1).trans c3;have tR:=bR.Ar 0 24 (by rw[Call.len];omega);have HB:=Zh (Ad hB hB2);have HR:=Zh bR;clear rC hs hB hB2 bA bX bR hl1 HW;obtain⟨x,hx⟩:∃x:Call,x={ a.call with fh:=[],fh2:=[] }:=⟨_,rfl⟩;rw[<-hx]at rX HQ;clear hx d2 d5 d6 d8;go_wp2;go_region;go_wp2;have HE:=Pz (is':=[.int .i64 a.dir,.int .i64 a.to_,.int .i64 a.var]) HR.out HB.out (by omega) HQ.out rfl;refine Lf (w.heap.size+1) 0 x.vals _ _ Tryz.results33 Tryz.underlying36 rfl (by kernel_rfl) rfl rfl rfl HE.1 rfl ?_
 exact HE.2
theorem Alr (a:Ask)(w:World)(hk:a.kind≠1/\a.kind≠2/\a.kind≠3/\a.kind≠4/\a.kind≠5):Calls Tryz.prog 33 #[.agg a.vals.toArray] w (R1 a w):=by
 have HQ:=Zh (show Bq a=(Aw,[],false) from (if_neg (by omega)).trans ((if_neg (by omega)).trans ((if_neg (by omega)).trans ((if_neg (by omega)).trans (if_neg (by omega))))));obtain⟨bA,bR,hB,hs⟩:=A7 w a.vals Aw.vals 38 36;obtain⟨w1,hw1⟩:∃V,V=(w.alloc (.cells a.vals.toArray 38)).alloc (.cells Aw.vals.toArray 36):=⟨_,rfl⟩;rw[<-hw1]at bA bR hB hs;have HW:=Zh hw1;clear hw1;have c0:w1.cell? ⟨w.heap.size,0,none⟩=some (.int .i64 a.kind):=by rw[bA.cell 0];show some (Value.int .i64 a.kind)=_;rfl
 have c1:w1.cell? ⟨w.heap.size,1,none⟩=some (.int .i64 a.var):=bA.cell 1;have c2:w1.cell? ⟨w.heap.size,2,none⟩=some (.int .i64 a.dir):=bA.cell 2;have c3:w1.cell? ⟨w.heap.size,3,none⟩=some (.int .i64 a.to_):=bA.cell 3;have rC:rowOf w1 w.heap.size 6 24=some a.call.vals.toArray:=bA.row 6 24 (by rw[Ask.len];omega);have hl1:=bA.lt;have k1:(a.kind==1)=false:=by simpa using hk.1
 have k2:(a.kind==2)=false:=by simpa using hk.2.1
 have k3:(a.kind==3)=false:=by simpa using hk.2.2.1
 have k4:(a.kind==4)=false:=by simpa using hk.2.2.2.1
 have k5:(a.kind==5)=false:=by simpa using hk.2.2.2.2
 clear hk;go_enter Tryz.func33,Tryz.ntmps33
 go_upto_region 1 with fail;change Code.wp _ _ _ _ ((w.alloc (.cells a.vals.toArray 38)).alloc (.cells Aw.vals.toArray 36));rw[<-HW.out]
 go_upto_region 3 with fail;change Code.wp _ _ _ _ (w1.alloc (.cells ({ a.call with fh:=[],fh2:=[] }:Call).vals.toArray 36));have bX:=Blk.new w1 36 ({ a.call with fh:=[],fh2:=[] }:Call).vals;have hB2:Below w1.heap.size w1 (w1.alloc (.cells ({ a.call with fh:=[],fh2:=[] }:Call).vals.toArray 36)):=(Below.refl _ _).alloc (Nat.le_refl _) _;generalize w1.alloc (.cells ({ a.call with fh:=[],fh2:=[] }:Call).vals.toArray 36)=w2 at *;rw[hs]at bX;replace bR:=bR.stays hB2;have hlt2:=bX.lt;have hltR:w.heap.size+1<w2.heap.size:=by omega
 have hlt0:w.heap.size<w2.heap.size:=by omega
 have hn0:w.heap.size≠w.heap.size+1:=by omega
 have hn2:w.heap.size+1+1≠w.heap.size+1:=by omega
 have d2:w2.cell? ⟨w.heap.size+1+1,2,none⟩=some (.string (bs a.call.name)):=bX.cell 2;have d5:w2.cell? ⟨w.heap.size+1+1,5,none⟩=some (.int .i64 a.call.offset):=bX.cell 5;have d6:w2.cell? ⟨w.heap.size+1+1,6,none⟩=some (.int .i64 a.call.count):=bX.cell 6;have d8:w2.cell? ⟨w.heap.size+1+1,8,none⟩=some (.string (bs a.call.data)):=bX.cell 8;have rX:rowOf w2 (w.heap.size+1+1) 0 24=some ({ a.call with fh:=[],fh2:=[] }:Call).vals.toArray:=bX.row 0 24 (by rw[Call.len];omega);replace c0:=(hB2.cell (p:=⟨w.heap.size,0,none⟩) hl1).trans c0;replace c1:=(hB2.cell (p:=⟨w.heap.size,1,none⟩) hl1).trans c1;replace c2:=(hB2.cell (p:=⟨w.heap.size,2,none⟩) hl1).trans c2;replace c3:=(hB2.cell (p:=⟨w.heap.size,3,none⟩) hl1).trans c3;have tR:=bR.Ar 0 24 (by rw[Call.len];omega);have HB:=Zh (Ad hB hB2);have HR:=Zh bR;clear rC hs hB hB2 bA bX bR hl1 HW;go_wp2;have h1:Blk (putsW w2 (w.heap.size+1) 0 Aw.vals) (w.heap.size+1) 36 Aw.vals:=by
  rw[B9];exact HR.out.whole (by rw[Call.len])
 refine Lf (w.heap.size+1) 0 Aw.vals (.slice none 0 0) (.bool false) Tryz.results33 Tryz.underlying36 rfl (by kernel_rfl) rfl rfl rfl h1.range rfl ?_
 refine⟨none,0,by rw[HQ.out];rfl,by rw[HQ.out];exact At.nil,?_⟩
 rw[B9];exact Below.Bf HB.out (by omega) _
theorem Af1 (a:Ask)(w:World):Calls Tryz.prog 33 #[.agg a.vals.toArray] w (R1 a w):=by
 by_cases h1:a.kind=1
 ·exact Alq a w h1
 by_cases h2:a.kind=2
 ·exact Alp a w h2
 by_cases h3:a.kind=3
 ·exact Alo a w h3
 by_cases h4:a.kind=4
 ·exact Aln a w h4
 by_cases h5:a.kind=5
 ·exact Alm a w h5
 exact Alr a w ⟨h1,h2,h3,h4,h5⟩
end
section
attribute [local go_sem ↓] Pp F1 Pt D6 L6 Ala Ak9
attribute [local go_sem] Bv Bj Cc Bu Cd Cj Cm C2 Bc Az Bp Dt C8 C7 Dz D5 Cy
attribute [local go_sem low] Cr
attribute [local go_sem] Call.len Bm.len D0 Ot
theorem Aay (F:Nat->Prop)(w:World)(g:Nat)(c:ClD)(z:Di)(l:List Bz)(hC:D3 F w g c z l)(hF:∀k,F k->k<w.heap.size)(a:Ask)(x:Call)(n:Nat)(hv:a.var=n)(hn:n<4)(hk:a.kind=2\/a.kind=4) :
  Calls Tryz.prog 37 #[.pointer (some ⟨g,0,none⟩),.agg a.vals.toArray,.agg x.vals.toArray] w (Oh F g (c.Gu a x).1 l (c.Gu a x).2 w):=by
 have hgl:=hC.blk.lt;obtain⟨bA,bX,hB,hs⟩:=A7 w a.vals x.vals 38 36;obtain⟨w1,hw1⟩:∃V,V=(w.alloc (.cells a.vals.toArray 38)).alloc (.cells x.vals.toArray 36):=⟨_,rfl⟩;rw[<-hw1]at bA bX hB hs;have HW:=Zh hw1;clear hw1;have HQ:=Zh (show c.Gu a x=((c.ahead n).1,(c.ahead n).2++[⟨x,n,0,-1,0,0⟩]) by unfold ClD.Gu;rw[if_neg (by omega),if_neg (by omega),if_neg (by omega),hv]);have c0:w1.cell? ⟨w.heap.size,0,none⟩=some (.int .i64 a.kind):=bA.cell 0;have c1:w1.cell? ⟨w.heap.size,1,none⟩=some (.int .i64 n):=by rw[bA.cell 1,<-hv];rfl
 have c2:w1.cell? ⟨w.heap.size,2,none⟩=some (.int .i64 a.dir):=bA.cell 2;have c3:w1.cell? ⟨w.heap.size,3,none⟩=some (.int .i64 a.to_):=bA.cell 3;have x0:w1.cell? ⟨w.heap.size+1,0,none⟩=some (.int .i64 x.proc):=bX.cell 0;have rX:rowOf w1 (w.heap.size+1) 0 24=some x.vals.toArray:=bX.row 0 24 (by rw[Call.len];omega);have k1:(a.kind==1)=false:=by rcases hk with h|h<;>rw[h]<;>rfl
 have k3:(a.kind==3)=false:=by rcases hk with h|h<;>rw[h]<;>rfl
 have k5:(a.kind==5)=false:=by rcases hk with h|h<;>rw[h]<;>rfl
 have hl0:=bA.lt;have hl1:=bX.lt;have n0:w.heap.size≠g:=by omega
 have n1:w.heap.size+1≠g:=by omega
 have KA:=Zh (fun (W:World) (h:Below w1.heap.size w1 W)=>Kj F W g c z l ((hC.below hB).below h) n hn);have HB:=Zh hB;have HF:=Zh hF;have HC:=Zh (hC.below hB);have HD:=Zh (show Below w1.heap.size w1 w1.drew from (Below.refl _ _).drew);have HDa:=Zh (fun (o:Obj)=>show Below w1.heap.size w1 (w1.drew.alloc o) from (Below.refl _ _).drew.alloc (Nat.le_refl _) o);have nB:=Zh (show w1.heap.size≠g by omega);have hbx:=Zh (And.intro bA bX);generalize a.kind=kk at *;clear hs hB bA bX hC hv hF hk;obtain⟨xp,xf,xn,xg,xm,xo,xc,xh,xd,⟨⟨b1,i1⟩,⟨b2,i2⟩,⟨b3,i3⟩,⟨b4,i4⟩,⟨b5,i5⟩⟩,⟨b6,i6⟩,xk,xv,xt⟩:=x;replace rX:rowOf w1 (w.heap.size+1) 0 24=some #[.int .i64 xp,.string (bs xf),.string (bs xn),.string (bs xg),.string (bs xm),.int .i64 xo,.int .i64 xc,.int .i64 xh,.string (bs xd),.bool b1,.int .i64 i1,.bool b2,.int .i64 i2,.bool b3,.int .i64 i3,.bool b4,.int .i64 i4,.bool b5,.int .i64 i5,.bool b6,.int .i64 i6,.int .i64 xk,.int .i64 xv,.string (bs xt)]:=rX;go_enter Tryz.func37,Tryz.ntmps37
 go_upto_region 1 with fail;change Code.wp _ _ _ _ ((w.alloc (.cells a.vals.toArray 38)).alloc (.cells (Call.vals _).toArray 36));rw[<-HW.out];go_wp2_with fail;go_region_held3 (fun W=>Je g w1 W) (first|exact Je.start|assumption|(exact Je.alloc (by assumption) _)|(exact Je.call (by assumption) (by assumption))) (first
  |(go_at_call 81;refine(KA.out _ (by first|exact HD.out|exact HDa.out _)).mono ?_;rintro e w2 ⟨v,rfl,hrow,hA,ht⟩)
  |(refine Cp (R:=fun v' w'=>Oh F g (c.ahead n).1 l ((c.ahead n).2++[⟨⟨xp,xf,xn,xg,xm,xo,xc,xh,xd,⟨⟨b1,i1⟩,⟨b2,i2⟩,⟨b3,i3⟩,⟨b4,i4⟩,⟨b5,i5⟩⟩,⟨b6,i6⟩,xk,xv,xt⟩,n,0,-1,0,0⟩]) w (.returned v') w'/\Je g w1 w') (by rfl) (.tmp 67) (.tmp 72) #[89,89] (by rfl) _ _ (by rfl) (by rfl) (Acw (qs:=[⟨⟨xp,xf,xn,xg,xm,xo,xc,xh,xd,⟨⟨b1,i1⟩,⟨b2,i2⟩,⟨b3,i3⟩,⟨b4,i4⟩,⟨b5,i5⟩⟩,⟨b6,i6⟩,xk,xv,xt⟩,n,0,-1,0,0⟩]) hA HF.out hrow ht HB.out HD.out (Nl _ _) (Nat.le_of_ble_eq_true rfl) rfl) ?_;rintro v' w4 ⟨hPl,hS4⟩)
  |(refine Cp (R:=fun v' w'=>Oh F g (c.ahead n).1 l ((c.ahead n).2++[⟨⟨xp,xf,xn,xg,xm,xo,xc,xh,xd,⟨⟨b1,i1⟩,⟨b2,i2⟩,⟨b3,i3⟩,⟨b4,i4⟩,⟨b5,i5⟩⟩,⟨b6,i6⟩,xk,xv,xt⟩,n,0,-1,0,0⟩]) w (.returned v') w'/\Je g w1 w') (by rfl) (.tmp 67) (.tmp 72) #[89,89] (by rfl) _ _ (by rfl) (by rfl) (Acv (qs:=[⟨⟨xp,xf,xn,xg,xm,xo,xc,xh,xd,⟨⟨b1,i1⟩,⟨b2,i2⟩,⟨b3,i3⟩,⟨b4,i4⟩,⟨b5,i5⟩⟩,⟨b6,i6⟩,xk,xv,xt⟩,n,0,-1,0,0⟩]) hA HF.out hrow ht HB.out (HDa.out _) (Blk.new w1.drew _ _) nB.out (Nl _ _) (Nat.le_of_ble_eq_true rfl) rfl) ?_;rintro v' w4 ⟨hPl,hS4⟩)
  |fail)
 all_goals
  go_wp2;go_ret;rw[HQ.out];exact hPl
theorem Amr (F:Nat->Prop)(w:World)(g:Nat)(c:ClD)(z:Di)(l:List Bz)(hC:D3 F w g c z l)(hF:∀k,F k->k<w.heap.size)(a:Ask)(x:Call)(n:Nat)(hv:a.var=n)(hn:n<4)(hk:a.kind=1) :
  Calls Tryz.prog 37 #[.pointer (some ⟨g,0,none⟩),.agg a.vals.toArray,.agg x.vals.toArray] w (Oh F g (c.Gu a x).1 l (c.Gu a x).2 w):=by
 have hgl:=hC.blk.lt;obtain⟨bA,bX,hB,hs⟩:=A7 w a.vals x.vals 38 36;obtain⟨w1,hw1⟩:∃V,V=(w.alloc (.cells a.vals.toArray 38)).alloc (.cells x.vals.toArray 36):=⟨_,rfl⟩;rw[<-hw1]at bA bX hB hs;have HW:=Zh hw1;clear hw1;have HQ:=Zh (show c.Gu a x=((c.ahead n).1,(c.ahead n).2++[⟨{ Aw with proc:=1 },a.dir,0,-1,0,0⟩,⟨x,a.dir,0,n,0,0⟩,⟨{ Aw with proc:=1 },n,0,-1,0,0⟩]) by unfold ClD.Gu;rw[if_pos hk,hv]);have c0:w1.cell? ⟨w.heap.size,0,none⟩=some (.int .i64 a.kind):=bA.cell 0;have c1:w1.cell? ⟨w.heap.size,1,none⟩=some (.int .i64 n):=by rw[bA.cell 1,<-hv];rfl
 have c2:w1.cell? ⟨w.heap.size,2,none⟩=some (.int .i64 a.dir):=bA.cell 2;have c3:w1.cell? ⟨w.heap.size,3,none⟩=some (.int .i64 a.to_):=bA.cell 3;have x0:w1.cell? ⟨w.heap.size+1,0,none⟩=some (.int .i64 x.proc):=bX.cell 0;have rX:rowOf w1 (w.heap.size+1) 0 24=some x.vals.toArray:=bX.row 0 24 (by rw[Call.len];omega);rw[hk]at c0;have hl0:=bA.lt;have hl1:=bX.lt;have n0:w.heap.size≠g:=by omega
 have n1:w.heap.size+1≠g:=by omega
 have KA:=Zh (fun (W:World) (h:Below w1.heap.size w1 W)=>Kj F W g c z l ((hC.below hB).below h) n hn);have HB:=Zh hB;have HF:=Zh hF;have HC:=Zh (hC.below hB);have HD:=Zh (show Below w1.heap.size w1 w1.drew from (Below.refl _ _).drew);have HDa:=Zh (fun (o:Obj)=>show Below w1.heap.size w1 (w1.drew.alloc o) from (Below.refl _ _).drew.alloc (Nat.le_refl _) o);have nB:=Zh (show w1.heap.size≠g by omega);have hbx:=Zh (And.intro bA bX);generalize a.kind=kk at *;clear hs hB bA bX hC hv hF hk;obtain⟨xp,xf,xn,xg,xm,xo,xc,xh,xd,⟨⟨b1,i1⟩,⟨b2,i2⟩,⟨b3,i3⟩,⟨b4,i4⟩,⟨b5,i5⟩⟩,⟨b6,i6⟩,xk,xv,xt⟩:=x;replace rX:rowOf w1 (w.heap.size+1) 0 24=some #[.int .i64 xp,.string (bs xf),.string (bs xn),.string (bs xg),.string (bs xm),.int .i64 xo,.int .i64 xc,.int .i64 xh,.string (bs xd),.bool b1,.int .i64 i1,.bool b2,.int .i64 i2,.bool b3,.int .i64 i3,.bool b4,.int .i64 i4,.bool b5,.int .i64 i5,.bool b6,.int .i64 i6,.int .i64 xk,.int .i64 xv,.string (bs xt)]:=rX;go_enter Tryz.func37,Tryz.ntmps37
 go_upto_region 1 with fail;change Code.wp _ _ _ _ ((w.alloc (.cells a.vals.toArray 38)).alloc (.cells (Call.vals _).toArray 36));rw[<-HW.out];go_wp2_with fail;go_region_held3 (fun W=>Je g w1 W) (first|exact Je.start|assumption|(exact Je.alloc (by assumption) _)|(exact Je.call (by assumption) (by assumption))) (first
  |(go_at_call 81;refine(KA.out _ (by first|exact HD.out|exact HDa.out _)).mono ?_;rintro e w2 ⟨v,rfl,hrow,hA,ht⟩)
  |(refine Cp (R:=fun v' w'=>Oh F g (c.ahead n).1 l ((c.ahead n).2++[⟨{ Aw with proc:=1 },a.dir,0,-1,0,0⟩,⟨⟨xp,xf,xn,xg,xm,xo,xc,xh,xd,⟨⟨b1,i1⟩,⟨b2,i2⟩,⟨b3,i3⟩,⟨b4,i4⟩,⟨b5,i5⟩⟩,⟨b6,i6⟩,xk,xv,xt⟩,a.dir,0,n,0,0⟩,⟨{ Aw with proc:=1 },n,0,-1,0,0⟩]) w (.returned v') w'/\Je g w1 w') (by rfl) (.tmp 14) (.tmp 29) #[89,89] (by rfl) _ _ (by rfl) (by rfl) (Acw (qs:=[⟨{ Aw with proc:=1 },a.dir,0,-1,0,0⟩,⟨⟨xp,xf,xn,xg,xm,xo,xc,xh,xd,⟨⟨b1,i1⟩,⟨b2,i2⟩,⟨b3,i3⟩,⟨b4,i4⟩,⟨b5,i5⟩⟩,⟨b6,i6⟩,xk,xv,xt⟩,a.dir,0,n,0,0⟩,⟨{ Aw with proc:=1 },n,0,-1,0,0⟩]) hA HF.out hrow ht HB.out HD.out (Nl _ _) (Nat.le_of_ble_eq_true rfl) rfl) ?_;rintro v' w4 ⟨hPl,hS4⟩)
  |(refine Cp (R:=fun v' w'=>Oh F g (c.ahead n).1 l ((c.ahead n).2++[⟨{ Aw with proc:=1 },a.dir,0,-1,0,0⟩,⟨⟨xp,xf,xn,xg,xm,xo,xc,xh,xd,⟨⟨b1,i1⟩,⟨b2,i2⟩,⟨b3,i3⟩,⟨b4,i4⟩,⟨b5,i5⟩⟩,⟨b6,i6⟩,xk,xv,xt⟩,a.dir,0,n,0,0⟩,⟨{ Aw with proc:=1 },n,0,-1,0,0⟩]) w (.returned v') w'/\Je g w1 w') (by rfl) (.tmp 14) (.tmp 29) #[89,89] (by rfl) _ _ (by rfl) (by rfl) (Acv (qs:=[⟨{ Aw with proc:=1 },a.dir,0,-1,0,0⟩,⟨⟨xp,xf,xn,xg,xm,xo,xc,xh,xd,⟨⟨b1,i1⟩,⟨b2,i2⟩,⟨b3,i3⟩,⟨b4,i4⟩,⟨b5,i5⟩⟩,⟨b6,i6⟩,xk,xv,xt⟩,a.dir,0,n,0,0⟩,⟨{ Aw with proc:=1 },n,0,-1,0,0⟩]) hA HF.out hrow ht HB.out (HDa.out _) (Blk.new w1.drew _ _) nB.out (Nl _ _) (Nat.le_of_ble_eq_true rfl) rfl) ?_;rintro v' w4 ⟨hPl,hS4⟩)
  |fail)
 all_goals
  go_wp2;go_ret;rw[HQ.out];exact hPl
theorem Ake (F:Nat->Prop)(w:World)(g:Nat)(c:ClD)(z:Di)(l:List Bz)(hC:D3 F w g c z l)(hF:∀k,F k->k<w.heap.size)(a:Ask)(x:Call)(n:Nat)(hv:a.var=n)(hn:n<4)(hk:a.kind=5)(hb:Rx x.proc=true) :
  Calls Tryz.prog 37 #[.pointer (some ⟨g,0,none⟩),.agg a.vals.toArray,.agg x.vals.toArray] w (Oh F g (c.Gu a x).1 l (c.Gu a x).2 w):=by
 have hgl:=hC.blk.lt;obtain⟨bA,bX,hB,hs⟩:=A7 w a.vals x.vals 38 36;obtain⟨w1,hw1⟩:∃V,V=(w.alloc (.cells a.vals.toArray 38)).alloc (.cells x.vals.toArray 36):=⟨_,rfl⟩;rw[<-hw1]at bA bX hB hs;have HW:=Zh hw1;clear hw1;have HQ:=Zh (show c.Gu a x=((c.ahead n).1,(c.ahead n).2++[⟨x,a.dir,a.to_,n,0,0⟩]) by unfold ClD.Gu;rw[if_neg (by omega),if_neg (by omega),if_pos hk,hb,hv];rfl);have c0:w1.cell? ⟨w.heap.size,0,none⟩=some (.int .i64 a.kind):=bA.cell 0;have c1:w1.cell? ⟨w.heap.size,1,none⟩=some (.int .i64 n):=by rw[bA.cell 1,<-hv];rfl
 have c2:w1.cell? ⟨w.heap.size,2,none⟩=some (.int .i64 a.dir):=bA.cell 2;have c3:w1.cell? ⟨w.heap.size,3,none⟩=some (.int .i64 a.to_):=bA.cell 3;have x0:w1.cell? ⟨w.heap.size+1,0,none⟩=some (.int .i64 x.proc):=bX.cell 0;have rX:rowOf w1 (w.heap.size+1) 0 24=some x.vals.toArray:=bX.row 0 24 (by rw[Call.len];omega);rw[hk]at c0;have hl0:=bA.lt;have hl1:=bX.lt;have n0:w.heap.size≠g:=by omega
 have n1:w.heap.size+1≠g:=by omega
 have KA:=Zh (fun (W:World) (h:Below w1.heap.size w1 W)=>Kj F W g c z l ((hC.below hB).below h) n hn);have HB:=Zh hB;have HF:=Zh hF;have HC:=Zh (hC.below hB);have HD:=Zh (show Below w1.heap.size w1 w1.drew from (Below.refl _ _).drew);have HDa:=Zh (fun (o:Obj)=>show Below w1.heap.size w1 (w1.drew.alloc o) from (Below.refl _ _).drew.alloc (Nat.le_refl _) o);have nB:=Zh (show w1.heap.size≠g by omega);have hbx:=Zh (And.intro bA bX);generalize a.kind=kk at *;clear hs hB bA bX hC hv hF hk;obtain⟨xp,xf,xn,xg,xm,xo,xc,xh,xd,⟨⟨b1,i1⟩,⟨b2,i2⟩,⟨b3,i3⟩,⟨b4,i4⟩,⟨b5,i5⟩⟩,⟨b6,i6⟩,xk,xv,xt⟩:=x;replace rX:rowOf w1 (w.heap.size+1) 0 24=some #[.int .i64 xp,.string (bs xf),.string (bs xn),.string (bs xg),.string (bs xm),.int .i64 xo,.int .i64 xc,.int .i64 xh,.string (bs xd),.bool b1,.int .i64 i1,.bool b2,.int .i64 i2,.bool b3,.int .i64 i3,.bool b4,.int .i64 i4,.bool b5,.int .i64 i5,.bool b6,.int .i64 i6,.int .i64 xk,.int .i64 xv,.string (bs xt)]:=rX;go_enter Tryz.func37,Tryz.ntmps37
 go_upto_region 1 with fail;change Code.wp _ _ _ _ ((w.alloc (.cells a.vals.toArray 38)).alloc (.cells (Call.vals _).toArray 36));rw[<-HW.out];have HBo:=Zh (show Rx xp=true from hb);clear hb;go_wp2_with fail;refine(Zl _ _).mono ?_
 rintro e wb ⟨rfl,hwb⟩;rw[hwb,HBo.out];clear hwb;go_wp2_with fail;go_region_held3 (fun W=>Je g w1 W) (first|exact Je.start|assumption|(exact Je.alloc (by assumption) _)|(exact Je.call (by assumption) (by assumption))) (first
  |(go_at_call 81;refine(KA.out _ (by first|exact HD.out|exact HDa.out _)).mono ?_;rintro e w2 ⟨v,rfl,hrow,hA,ht⟩)
  |(refine Cp (R:=fun v' w'=>Oh F g (c.ahead n).1 l ((c.ahead n).2++[⟨⟨xp,xf,xn,xg,xm,xo,xc,xh,xd,⟨⟨b1,i1⟩,⟨b2,i2⟩,⟨b3,i3⟩,⟨b4,i4⟩,⟨b5,i5⟩⟩,⟨b6,i6⟩,xk,xv,xt⟩,a.dir,a.to_,n,0,0⟩]) w (.returned v') w'/\Je g w1 w') (by rfl) (.tmp 46) (.tmp 55) #[89,89] (by rfl) _ _ (by rfl) (by rfl) (Acw (qs:=[⟨⟨xp,xf,xn,xg,xm,xo,xc,xh,xd,⟨⟨b1,i1⟩,⟨b2,i2⟩,⟨b3,i3⟩,⟨b4,i4⟩,⟨b5,i5⟩⟩,⟨b6,i6⟩,xk,xv,xt⟩,a.dir,a.to_,n,0,0⟩]) hA HF.out hrow ht HB.out HD.out (Nl _ _) (Nat.le_of_ble_eq_true rfl) rfl) ?_;rintro v' w4 ⟨hPl,hS4⟩)
  |(refine Cp (R:=fun v' w'=>Oh F g (c.ahead n).1 l ((c.ahead n).2++[⟨⟨xp,xf,xn,xg,xm,xo,xc,xh,xd,⟨⟨b1,i1⟩,⟨b2,i2⟩,⟨b3,i3⟩,⟨b4,i4⟩,⟨b5,i5⟩⟩,⟨b6,i6⟩,xk,xv,xt⟩,a.dir,a.to_,n,0,0⟩]) w (.returned v') w'/\Je g w1 w') (by rfl) (.tmp 46) (.tmp 55) #[89,89] (by rfl) _ _ (by rfl) (by rfl) (Acv (qs:=[⟨⟨xp,xf,xn,xg,xm,xo,xc,xh,xd,⟨⟨b1,i1⟩,⟨b2,i2⟩,⟨b3,i3⟩,⟨b4,i4⟩,⟨b5,i5⟩⟩,⟨b6,i6⟩,xk,xv,xt⟩,a.dir,a.to_,n,0,0⟩]) hA HF.out hrow ht HB.out (HDa.out _) (Blk.new w1.drew _ _) nB.out (Nl _ _) (Nat.le_of_ble_eq_true rfl) rfl) ?_;rintro v' w4 ⟨hPl,hS4⟩)
  |fail)
 all_goals
  go_wp2;go_ret;rw[HQ.out];exact hPl
theorem Akd (F:Nat->Prop)(w:World)(g:Nat)(c:ClD)(z:Di)(l:List Bz)(hC:D3 F w g c z l)(hF:∀k,F k->k<w.heap.size)(a:Ask)(x:Call)(n:Nat)(hv:a.var=n)(hn:n<4)(hk:a.kind=5)(hb:Rx x.proc=false) :
  Calls Tryz.prog 37 #[.pointer (some ⟨g,0,none⟩),.agg a.vals.toArray,.agg x.vals.toArray] w (Oh F g (c.Gu a x).1 l (c.Gu a x).2 w):=by
 have hgl:=hC.blk.lt;obtain⟨bA,bX,hB,hs⟩:=A7 w a.vals x.vals 38 36;obtain⟨w1,hw1⟩:∃V,V=(w.alloc (.cells a.vals.toArray 38)).alloc (.cells x.vals.toArray 36):=⟨_,rfl⟩;rw[<-hw1]at bA bX hB hs;have HW:=Zh hw1;clear hw1;have HQ:=Zh (show c.Gu a x=(c,[⟨x,a.dir,a.to_,-1,0,0⟩]) by unfold ClD.Gu;rw[if_neg (by omega),if_neg (by omega),if_pos hk,hb];rfl);have c0:w1.cell? ⟨w.heap.size,0,none⟩=some (.int .i64 a.kind):=bA.cell 0;have c1:w1.cell? ⟨w.heap.size,1,none⟩=some (.int .i64 n):=by rw[bA.cell 1,<-hv];rfl
 have c2:w1.cell? ⟨w.heap.size,2,none⟩=some (.int .i64 a.dir):=bA.cell 2;have c3:w1.cell? ⟨w.heap.size,3,none⟩=some (.int .i64 a.to_):=bA.cell 3;have x0:w1.cell? ⟨w.heap.size+1,0,none⟩=some (.int .i64 x.proc):=bX.cell 0;have rX:rowOf w1 (w.heap.size+1) 0 24=some x.vals.toArray:=bX.row 0 24 (by rw[Call.len];omega);rw[hk]at c0;have hl0:=bA.lt;have hl1:=bX.lt;have n0:w.heap.size≠g:=by omega
 have n1:w.heap.size+1≠g:=by omega
 have KA:=Zh (fun (W:World) (h:Below w1.heap.size w1 W)=>Kj F W g c z l ((hC.below hB).below h) n hn);have HB:=Zh hB;have HF:=Zh hF;have HC:=Zh (hC.below hB);have HD:=Zh (show Below w1.heap.size w1 w1.drew from (Below.refl _ _).drew);have HDa:=Zh (fun (o:Obj)=>show Below w1.heap.size w1 (w1.drew.alloc o) from (Below.refl _ _).drew.alloc (Nat.le_refl _) o);have nB:=Zh (show w1.heap.size≠g by omega);have hbx:=Zh (And.intro bA bX);generalize a.kind=kk at *;clear hs hB bA bX hC hv hF hk;obtain⟨xp,xf,xn,xg,xm,xo,xc,xh,xd,⟨⟨b1,i1⟩,⟨b2,i2⟩,⟨b3,i3⟩,⟨b4,i4⟩,⟨b5,i5⟩⟩,⟨b6,i6⟩,xk,xv,xt⟩:=x;replace rX:rowOf w1 (w.heap.size+1) 0 24=some #[.int .i64 xp,.string (bs xf),.string (bs xn),.string (bs xg),.string (bs xm),.int .i64 xo,.int .i64 xc,.int .i64 xh,.string (bs xd),.bool b1,.int .i64 i1,.bool b2,.int .i64 i2,.bool b3,.int .i64 i3,.bool b4,.int .i64 i4,.bool b5,.int .i64 i5,.bool b6,.int .i64 i6,.int .i64 xk,.int .i64 xv,.string (bs xt)]:=rX;go_enter Tryz.func37,Tryz.ntmps37
 go_upto_region 1 with fail;change Code.wp _ _ _ _ ((w.alloc (.cells a.vals.toArray 38)).alloc (.cells (Call.vals _).toArray 36));rw[<-HW.out];have HBo:=Zh (show Rx xp=false from hb);clear hb;go_wp2_with fail;refine(Zl _ _).mono ?_
 rintro e wb ⟨rfl,hwb⟩;rw[hwb,HBo.out];clear hwb;go_wp2_with fail;go_wp2;go_ret;rw[HQ.out];refine⟨_,rfl,?_,⟨z,HC.out.below ((Below.refl _ _).alloc (Nat.le_refl _) _)⟩,Touch.Aq (HB.out.alloc HB.out.size _) _⟩
 exact As.made w1 (b:=w1.heap.size) (B:=w.heap.size) (sz:=29) (k:=1) 91 (([⟨⟨xp,xf,xn,xg,xm,xo,xc,xh,xd,⟨⟨b1,i1⟩,⟨b2,i2⟩,⟨b3,i3⟩,⟨b4,i4⟩,⟨b5,i5⟩⟩,⟨b6,i6⟩,xk,xv,xt⟩,a.dir,a.to_,-1,0,0⟩]:List Bm).map Bm.vals) (Uw _) rfl HB.out.size (by simp) rfl
theorem Amq (F:Nat->Prop)(w:World)(g:Nat)(c:ClD)(z:Di)(l:List Bz)(hC:D3 F w g c z l)(hF:∀k,F k->k<w.heap.size)(a:Ask)(x:Call)(n:Nat)(hv:a.var=n)(hn:n<4)(hk:a.kind=3)(hG:U9 (z.place n))(hx:0<=x.offset/\x.offset<=9223372036854775807)(hd:x.data.length<=256) :
  Calls Tryz.prog 37 #[.pointer (some ⟨g,0,none⟩),.agg a.vals.toArray,.agg x.vals.toArray] w (Oh F g (c.Gu a x).1 l (c.Gu a x).2 w):=by
 have hgl:=hC.blk.lt;obtain⟨bA,bX,hB,hs⟩:=A7 w a.vals x.vals 38 36;obtain⟨w1,hw1⟩:∃V,V=(w.alloc (.cells a.vals.toArray 38)).alloc (.cells x.vals.toArray 36):=⟨_,rfl⟩;rw[<-hw1]at bA bX hB hs;have HW:=Zh hw1;clear hw1;have HQ:=Zh (show c.Gu a x=((c.late n x).1,(c.late n x).2) by unfold ClD.Gu;rw[if_neg (by omega),if_pos hk,hv]);have c0:w1.cell? ⟨w.heap.size,0,none⟩=some (.int .i64 a.kind):=bA.cell 0;have c1:w1.cell? ⟨w.heap.size,1,none⟩=some (.int .i64 n):=by rw[bA.cell 1,<-hv];rfl
 have c2:w1.cell? ⟨w.heap.size,2,none⟩=some (.int .i64 a.dir):=bA.cell 2;have c3:w1.cell? ⟨w.heap.size,3,none⟩=some (.int .i64 a.to_):=bA.cell 3;have x0:w1.cell? ⟨w.heap.size+1,0,none⟩=some (.int .i64 x.proc):=bX.cell 0;have rX:rowOf w1 (w.heap.size+1) 0 24=some x.vals.toArray:=bX.row 0 24 (by rw[Call.len];omega);rw[hk]at c0;have KL:=Zh (Ahd F w1 g c z l (hC.below hB) n hn x hG hx hd);have hl0:=bA.lt;have hl1:=bX.lt;have n0:w.heap.size≠g:=by omega
 have n1:w.heap.size+1≠g:=by omega
 have KA:=Zh (fun (W:World) (h:Below w1.heap.size w1 W)=>Kj F W g c z l ((hC.below hB).below h) n hn);have HB:=Zh hB;have HF:=Zh hF;have HC:=Zh (hC.below hB);have HD:=Zh (show Below w1.heap.size w1 w1.drew from (Below.refl _ _).drew);have HDa:=Zh (fun (o:Obj)=>show Below w1.heap.size w1 (w1.drew.alloc o) from (Below.refl _ _).drew.alloc (Nat.le_refl _) o);have nB:=Zh (show w1.heap.size≠g by omega);have hbx:=Zh (And.intro bA bX);generalize a.kind=kk at *;clear hs hB bA bX hC hv hF hk hx hd hG;go_enter Tryz.func37,Tryz.ntmps37
 go_upto_region 1 with fail;change Code.wp _ _ _ _ ((w.alloc (.cells a.vals.toArray 38)).alloc (.cells (Call.vals _).toArray 36));rw[<-HW.out];go_wp2_with fail;refine KL.out.mono ?_
 rintro e w2 ⟨v,rfl,hrow,hA,ht⟩;have HR:=Zh (And.intro (hrow.base HB.out.size) (And.intro hA ((Touch.Aq HB.out _).Ay ht)));clear hrow hA ht;go_wp2;go_ret;rw[HQ.out];exact⟨_,rfl,HR.out⟩
theorem Ag2 (F:Nat->Prop)(w:World)(g:Nat)(c:ClD)(z:Di)(l:List Bz)(hC:D3 F w g c z l)(hG:Ds c)(a:Ask)(hg:Hk a.call)(step now:Int)(hm:Pe a step now=true) :
  Calls Tryz.prog 37 #[.pointer (some ⟨g,0,none⟩),.agg a.vals.toArray,.agg (Bq a).1.vals.toArray] w (Oh F g (c.Gu a (Bq a).1).1 l (c.Gu a (Bq a).1).2 w):=by
 have hgo:=(Af0 hg).offset;simp only[Pe,Bool.and_eq_true,decide_eq_true_eq]at hm;obtain⟨⟨⟨⟨⟨hk,-⟩,-⟩,hpl⟩,-⟩,hck⟩:=hm;have hv:0<=a.var/\a.var<4/\(a.kind=1\/a.kind=2\/a.kind=3\/a.kind=4\/a.kind=5):=by
  unfold Bq at hpl hk;by_cases h1:a.kind=1
  ·rw[if_pos h1]at hpl
   simp only[List.all_cons,List.all_nil,Bool.and_eq_true,Bool.and_true]at hpl;have:=Dw hpl.2;omega
  rw[if_neg h1]at hpl hk;by_cases h2:a.kind=2
  ·rw[if_pos h2]at hpl
   simp only[List.all_cons,List.all_nil,Bool.and_true]at hpl;have:=Dw hpl;omega
  rw[if_neg h2]at hpl hk;by_cases h3:a.kind=3
  ·rw[if_pos h3]at hpl
   simp only[List.all_cons,List.all_nil,Bool.and_true]at hpl;have:=Dw hpl;omega
  rw[if_neg h3]at hpl hk;by_cases h4:a.kind=4
  ·rw[if_pos h4]at hpl
   simp only[List.all_cons,List.all_nil,Bool.and_true]at hpl;have:=Dw hpl;omega
  rw[if_neg h4]at hpl hk;by_cases h5:a.kind=5
  ·rw[if_pos h5]at hpl
   simp only[List.all_cons,List.all_nil,Bool.and_eq_true,Bool.and_true]at hpl;have:=Dw hpl.2.2;omega
  rw[if_neg h5]at hk;cases hk
 obtain⟨hv0,hv1,hv2⟩:=hv;obtain⟨n,hn⟩:∃n:Nat,a.var=n:=⟨a.var.toNat,by omega⟩;have hn4:n<4:=by omega
 have hF:=hC.lt;rcases hv2 with h|h|h|h|h
 ·exact Amr F w g c z l hC hF a _ n hn hn4 h
 ·exact Aay F w g c z l hC hF a _ n hn hn4 (.inl h)
 ·have hw:0<=(Bq a).1.offset/\(Bq a).1.data.length<=256:=by
   have e:(Bq a).1={ Aw with proc:=7,offset:=a.call.offset,data:=a.call.data,how:=2 }:=by
    unfold Bq;rw[if_neg (by omega),if_neg (by omega),if_pos h]
   rw[e]at hck ⊢;exact Zg hck
  have hpg:=hG.at_ (n:Int);rw[hC.is.at_ hn4]at hpg;exact Amq F w g c z l hC hF a _ n hn hn4 h hpg ⟨hw.1,hgo⟩ hw.2
 ·exact Aay F w g c z l hC hF a _ n hn hn4 (.inr h)
 ·cases hb:Rx (Bq a).1.proc
  ·exact Akd F w g c z l hC hF a _ n hn hn4 h hb
  ·exact Ake F w g c z l hC hF a _ n hn hn4 h hb
end
def Ly (n:Nat):Value->Bool
 |.agg cs=>decide (cs.toList.length=n)
 |_=>false
def J3:Value->Bool
 |.int .i64 _=>true
 |_=>false
def Pk:List Value:=[.int .i64 0,.string ⟨#[]⟩,.bool false,.int .i64 0,.int .i64 0,.int .i64 0,.int .i64 0,.int .i64 0,.int .i64 0,.int .i64 0,.int .i64 0,.int .i64 0,.int .i64 0,.bool false,.int .i64 0,.int .i64 0,.int .i64 0,.int .i64 0,.int .i64 0,.int .i64 0,.int .i64 0,.int .i64 0,.int .i64 0,.int .i64 0,.bool false,.int .i64 0,.bool false,.int .i64 0,.int .i64 0,.int .i64 0,.int .i64 0,.int .i64 0,.int .i64 0,.int .i64 0,.int .i64 0,.int .i64 0,.int .i64 0,.bool false,.int .i64 0,.bool false,.int .i64 0,.int .i64 0,.int .i64 0,.int .i64 0,.int .i64 0,.int .i64 0,.int .i64 0,.int .i64 0,.int .i64 0,.int .i64 0,.int .i64 0,.int .i64 0,.bool false,.string ⟨#[]⟩,.int .i64 0,.int .i64 0,.slice none 0 0,.slice none 0 0]
theorem Ajx (a0 a1 a2 a3 c0 c1 c2 c3 c4 c5 c6 c7 c8 c9 c10 c11 c12 c13 c14 c15 c16 c17 c18 c19 c20 c21 c22 c23:Value)(s:Int)(w:World):(Instr.build 65 #[(0,.agg #[a0,a1,a2,a3]),(1,.int .i64 s),(3,.agg #[c0,c1,c2,c3,c4,c5,c6,c7,c8,c9,c10,c11,c12,c13,c14,c15,c16,c17,c18,c19,c20,c21,c22,c23])]).run Tryz.prog w=.ok (.agg ([a0,a1,a2,a3]++([Value.int .i64 s,Value.int .i64 0]++([c0,c1,c2,c3,c4,c5,c6,c7,c8,c9,c10,c11,c12,c13,c14,c15,c16,c17,c18,c19,c20,c21,c22,c23]++Pk))).toArray) w:=by kernel_rfl
theorem As2 {α:Type}:∀(l:List α),l.length=4->∃a0 a1 a2 a3,l=[a0,a1,a2,a3]
 |[a0,a1,a2,a3],_=>⟨a0,a1,a2,a3,rfl⟩
theorem Ahb {α:Type}:∀(l:List α),l.length=24->∃c0 c1 c2 c3 c4 c5 c6 c7 c8 c9 c10 c11 c12 c13 c14 c15 c16 c17 c18 c19 c20 c21 c22 c23,l=[c0,c1,c2,c3,c4,c5,c6,c7,c8,c9,c10,c11,c12,c13,c14,c15,c16,c17,c18,c19,c20,c21,c22,c23]
 |[c0,c1,c2,c3,c4,c5,c6,c7,c8,c9,c10,c11,c12,c13,c14,c15,c16,c17,c18,c19,c20,c21,c22,c23],_=>⟨c0,c1,c2,c3,c4,c5,c6,c7,c8,c9,c10,c11,c12,c13,c14,c15,c16,c17,c18,c19,c20,c21,c22,c23,rfl⟩
theorem Uh {ρ:Operand->Value}{w:World}{dst:Option Tmp}{ty:TypeId}{pos:String}{after:Array Edge}{g:Option (Nat × Bool)}{a b c:Operand}(h1:Ly 4 (ρ a)=true)(h2:J3 (ρ b)=true)(h3:Ly 24 (ρ c)=true) :
  (execOp ρ ⟨dst,.build 65 #[(0,a),(1,b),(3,c)],ty,pos,after,g⟩).run Tryz.prog w=.ok (.value (.agg (cellsOf (ρ a)++([ρ b,Value.int .i64 0]++(cellsOf (ρ c)++Pk))).toArray)) w:=by
 unfold execOp;simp only[List.map_toArray,List.map_cons,List.map_nil];generalize ρ a=A at *;generalize ρ b=B at *;generalize ρ c=C at *;unfold Ly at h1 h3;unfold J3 at h2;split at h1
 ·split at h2
  ·split at h3
   ·rename_i _ cs _ n _ ds
    simp only[decide_eq_true_eq]at h1 h3;obtain⟨l,rfl⟩:∃l:List Value,cs=l.toArray:=⟨cs.toList,by simp⟩;obtain⟨m,rfl⟩:∃l:List Value,ds=l.toArray:=⟨ds.toList,by simp⟩;obtain⟨a0,a1,a2,a3,rfl⟩:=As2 l h1;obtain⟨c0,c1,c2,c3,c4,c5,c6,c7,c8,c9,c10,c11,c12,c13,c14,c15,c16,c17,c18,c19,c20,c21,c22,c23,rfl⟩:=Ahb m h3;rw[Sem.run_bind,Ajx];rfl
   ·cases h3
  ·cases h2
 ·cases h1
end Go.Proofs.YtfjflkmhhbhceaaGreatDoor
