/-
  Layer 33, walks: a client's last record is written, its calls are thrown Ik, its places are written: what it is behind that. No condition.
-/
import Derived.Test.YtfjflkmhhbhceaaGreatDoorO29
import Derived.Test.YtfjflkmhhbhceaaGreatDoorO28
import Derived.Test.YtfjflkmhhbhceaaGreatDoorO15
import Derived.Test.YtfjflkmhhbhceaaGreatDoorO17
import Derived.Test.YtfjflkmhhbhceaaGreatDoorO26
import Derived.Test.YtfjflkmhhbhceaaGreatDoorO13
import Derived.Test.YtfjflkmhhbhceaaGreatDoorO20
set_option maxRecDepth 20000
set_option maxHeartbeats 40000000
namespace Go.Proofs.YtfjflkmhhbhceaaGreatDoor
open Go.RowKit
section
theorem Ub (l:List Hn)(r:Hn)(step:Int)(d:Dd):Dp (l++[r]) step d=l++[{ r with fin:=step,rep:=d }]:=by simp[Dp]
section
variable {F:Nat->Prop} {w:World} {g:Nat} {c:ClD} {z:Di} {l:List Bz}
theorem D3.last (hC:D3 F w g c z l)(hne:c.recs≠[]):∃b m,z.ra=some ⟨b,0,none⟩/\z.rn=m+1/\c.recs.length=m+1/\F b/\b≠g/\Ar w b (m*88+5) 1=true/\Ar w b (m*88+30) 58=true/\(∃v,w.cell? ⟨b,m*88+5,none⟩=some v)/\w.frozen? ⟨b,m*88+5,none⟩=false/\Touch (Gb w [65]) w w/\Gb w [65] b:=by
 have hrow:=hC.rcs.row;have hn:z.rn=l.length:=by have:=hrow.lenOf;rwa [List.length_map]at this
 obtain⟨m,hm⟩:∃m,l.length=m+1:=⟨l.length - 1,by
  have h1:0<c.recs.length:=by cases h:c.recs with
   |nil=>exact absurd h hne
   |cons _ _=>simp
  have:=hC.rcs.len
  omega⟩
 rcases hrow.2.2 with ⟨h1,h2⟩|⟨b,cap,cur,h1,h2,h3,h4,h5,h6,h7⟩
 ·simp only[List.length_map]at h2
  omega
 ·injection h1 with h1 h1n h1c
  simp only[List.length_map]at h4 h1n;have ht:w.heap[b]?=some (.cells cur 65 (0,0)):=h3;have hsz:(m+1)*88<=cur.size:=by
   have:(m+1)*88<=cap*88:=Nat.mul_le_mul_right _ (by omega);omega
  have hin:m*88+88<=cur.size:=by omega
  have htB:∀o k,o+k<=cur.size->Ar w b o k=true:=fun o k hk=>by
   unfold Ar;rw[ht]
   simpa using hk
  have hty:Gb w [65] b:=⟨_,_,_,ht,by decide⟩;refine⟨b,m,h1,by omega,by rw[<-hC.rcs.len];exact hm,hC.rcs.own b (by rw[h1];rfl),fun e=>?_,htB _ _ (by omega),htB _ _ (by omega),?_,?_,Touch.refl _ _,hty⟩
  ·subst e
   have h8:=hC.blk;unfold Blk at h8;rw[ht]at h8;injection h8 with h8;injection h8 with _ h8;exact absurd h8 (by decide)
  ·have:=(Jf (htB (m*88+5) 1 (by omega)) 0 (by omega)).1
   exact Option.isSome_iff_exists.1 this
  ·exact(Jf (htB (m*88+5) 1 (by omega)) 0 (by omega)).2
theorem D3.Aqc (hC:D3 F w g c z l){b m:Nat}(hb:z.ra=some ⟨b,0,none⟩)(hm:c.recs.length=m+1){n:Nat}(r:Aa)(d:Dd)(hr:Ib w (fun k=>n<=k) r d)(step:Int){W:World}(hW:W=putsW (w.setCell ⟨b,m*88+5,none⟩ (.int .i64 step)) b (m*88+30) r.vals) :
  (∃l',D3 (fun k=>F k\/(n<=k/\k<w.heap.size)) W g { c with recs:=Dp c.recs step d } z l')/\Touch (fun k=>k=b) w W:=by
 obtain⟨b',m',q1,q2,q3,q4,q5,q6,q7,-,-,-,q8⟩:=hC.last (by intro e;rw[e]at hm;cases hm);rw[hb]at q1;injection q1 with q1;injection q1 with q1 _ _;subst q1;obtain rfl:m'=m:=by omega
 have hlm:l.length=m'+1:=by rw[hC.rcs.len];exact hm
 obtain⟨l0,y,rfl⟩:∃l0 y,l=l0++[y]:=by
  rcases List.eq_nil_or_concat l with rfl|⟨l0,y,h⟩
  ·cases hlm
  ·exact⟨l0,y,by rw[h,List.concat_eq_append]⟩
 obtain⟨rs,rd,hrs⟩:∃rs rd,c.recs=rs++[rd]:=by
  rcases List.eq_nil_or_concat c.recs with h|⟨l0,y,h⟩
  ·rw[h]at hm;cases hm
  ·exact⟨l0,y,by rw[h,List.concat_eq_append]⟩
 have hl0:l0.length=m':=by simpa using hlm
 have hr0:rs.length=m':=by rw[hrs]at hm;simpa using hm
 have hrow:=hC.rcs.row;rw[hb]at hrow;rw[q2]at hrow;have hT1:Touch (fun k=>k=b) w (w.setCell ⟨b,m'*88+5,none⟩ (.int .i64 step)):=(Touch.refl (fun k=>k=b) w).setCell (p:=⟨b,m'*88+5,none⟩) (.inl rfl) _;have hT:Touch (fun k=>k=b) w W:=by rw[hW];exact hT1.D2 (.inl rfl)
 have hty:Touch (Gb w [65]) w W:=hT.mono fun k _ hk=>by subst hk;exact q8
 have e1:∀x:Bz,x.vals=x.vals.take 5++([.int .i64 x.end_]++x.vals.drop 6):=fun x=>rfl
 have e2:∀x:Bz,x.vals=x.vals.take 30++(x.Il.vals++[]):=fun x=>by rw[List.append_nil];rfl
 have h1:=hrow;rw[List.map_append,List.map_cons,List.map_nil,e1 y]at h1;have h2:=As.Td (r:=[.int .i64 step]) h1 rfl (by rw[<-e1 y];simp[hl0]);rw[List.length_map,hl0,show (y.vals.take 5).length=5 from rfl]at h2;rw[show y.vals.take 5++([Value.int .i64 step]++y.vals.drop 6)=({ y with end_:=step }:Bz).vals from rfl,e2]at h2;have h3:=As.Td (r:=r.vals) h2 (by rw[Aa.len,Aa.len]) (by simp[hl0]);rw[List.length_map,hl0,show (({ y with end_:=step }:Bz).vals.take 30).length=30 from rfl,<-B9]at h3;rw[show ({ y with end_:=step }:Bz).vals.take 30++(r.vals++[])=({ y with end_:=step,Il:=r }:Bz).vals by rw[List.append_nil];rfl]at h3;have h4:As W 0 65 88 (.slice z.ra z.rn z.rc) ((l0++[({ y with end_:=step,Il:=r }:Bz)]).map Bz.vals):=by
  rw[hW,hb,q2,List.map_append,List.map_cons,List.map_nil];exact h3
 refine⟨⟨l0++[{ y with end_:=step,Il:=r }],?_⟩,hT⟩
 have i:=hC.is;have hsz:w.heap.size<=W.heap.size:=hT.size;refine⟨hC.blk.Ak hT (Ne.symm q5),⟨i.id,i.self,i.server,i.ps,i.now,i.busy,i.sent,i.due,i.made⟩,(hC.pts.tou (hty.less (by decide))).mono fun k hk=>.inl hk,⟨h4,fun k hk=>.inl (hC.rcs.own k hk),?_,?_⟩,.inl hC.fg,?_⟩
 ·show _=(Dp c.recs step d).length
  rw[Iz,hm,List.length_append,hl0];rfl
 ·intro j h5 h6
  have hj:∀(h:j<(Dp c.recs step d).length) (h':j<(rs++[({ rd with fin:=step,rep:=d }:Hn)]).length),(Dp c.recs step d)[j]=(rs++[({ rd with fin:=step,rep:=d }:Hn)])[j]:=by
   intro h h';congr 1
   rw[hrs,Ub]
  have h6':j<(rs++[({ rd with fin:=step,rep:=d }:Hn)]).length:=by
   have h7:j<(Dp c.recs step d).length:=h6;rw[hrs,Ub]at h7;exact h7
  show P1 W _ (l0++[({ y with end_:=step,Il:=r }:Bz)])[j] (Dp c.recs step d)[j]
  rw[hj h6 h6'];rw[List.length_append,hl0,List.length_singleton]at h5;rcases Nat.lt_or_ge j m' with hlt|hge
  ·rw[List.getElem_append_left (by omega),List.getElem_append_left (by omega)]
   have e:=hC.rcs.each j (by rw[hlm];omega) (by omega);have e3:c.recs[j]'(by omega)=rs[j]'(by omega):=by
    have:∀(h:j<c.recs.length) (h':j<(rs++[rd]).length),c.recs[j]=(rs++[rd])[j]:=by intro h h';congr 1
    rw[this (by omega) (by simp;omega),List.getElem_append_left]
   rw[List.getElem_append_left (by omega),e3]at e;exact(e.tou (hty.less (by decide))).mono fun k hk=>.inl hk
  ·have hjm:j=m':=by omega
   subst hjm;rw[List.getElem_append_right (by omega),List.getElem_append_right (by omega),List.getElem_singleton,List.getElem_singleton];have e:=hC.rcs.each l0.length (by rw[hlm,hl0];omega) (by omega);have e3:c.recs[l0.length]'(by omega)=rd:=by
    have:∀(h:l0.length<c.recs.length) (h':l0.length<(rs++[rd]).length),c.recs[l0.length]=(rs++[rd])[l0.length]:=by intro h h';congr 1
    rw[this (by omega) (by simp;omega),List.getElem_append_right (by omega),List.getElem_singleton]
   rw[List.getElem_append_right (Nat.le_refl _),List.getElem_singleton,e3]at e;exact⟨e.C3,e.beg,rfl,e.call,⟨(hr.tou (hty.less (by decide))).bare,(hr.tou (hty.less (by decide))).es,(hr.tou (hty.less (by decide))).us,fun k hk=>.inr ⟨hr.ie k hk,(hr.es.lt k hk).2⟩,fun k hk=>.inr ⟨hr.iu k hk,(hr.us.lt k hk).2⟩,hr.le,hr.lu⟩⟩
 ·intro k hk
  rcases hk with hk|hk
  ·have:=hC.lt k hk;omega
  ·omega
theorem Af9:∀w,(zeroValue 91).run Tryz.prog w=.ok (.agg T4.vals.toArray) w:=by
 obtain⟨i0,hi,hz,hsize,hby⟩:=info_parts Ln;exact fun w=>by simp[zeroValue,typeInfo,hi,hz,go_sem]
theorem D3.Ai6 (hC:D3 F w g c z l):∃w1,(∀ty,(Builtin.clear_ #[89] ty #[.slice z.ta z.tn z.tc]).run Tryz.prog w=.ok (.tuple #[]) w1)/\Touch (Gb w [91]) w w1/\Touch F w w1:=by
 cases hta:z.ta with
 |none=>
  refine⟨w,fun ty=>?_,Touch.refl _ _,Touch.refl _ _⟩
  simp[Builtin.clear_,run_underlying Tryz.underlying89]
 |some p=>
  obtain⟨hF,C,hCb⟩:=hC.pts.own p hta;rcases Nat.eq_zero_or_pos z.tn with h0|h0
  ·refine⟨w,fun ty=>?_,Touch.refl _ _,Touch.refl _ _⟩
   rw[h0];simp[Builtin.clear_,run_underlying Tryz.underlying89]
  ·have hlen:=hC.pts.len
   obtain⟨q,hq⟩:∃q,(c.parts.map Bm.vals)[0]?=some q:=by
    cases hp:c.parts with
    |nil=>rw[hp]at hlen;simp at hlen;omega
    |cons a b=>exact⟨_,rfl⟩
   obtain⟨b,off,h1,-⟩:=hC.pts.row 0 q hq;rw[hta]at h1;injection h1 with h1;subst h1;simp only at hF hCb
   have hcell:∀j,j<z.tn*29->(w.cell? ⟨b,off+j,none⟩).isSome=true:=fun j hj=>by
    have hd:=Nat.div_add_mod j 29;have hm:=Nat.mod_lt j (show 0<29 by decide);have hi:j / 29<c.parts.length:=by rw[<-hlen];exact Nat.div_lt_of_lt_mul (by omega)
    obtain⟨b2,off2,e1,e2,e3⟩:=hC.pts.row (j / 29) (c.parts[j / 29].vals) (by rw[List.getElem?_map,List.getElem?_eq_getElem hi];rfl);rw[hta]at e1;injection e1 with e1;injection e1 with e4 e5 _;subst e4 e5;have e6:=e3 (j % 29) (c.parts[j / 29].vals[j % 29]'(by rw[Bm.len];exact hm)) (List.getElem?_eq_getElem _);rw[show off+j=off+j / 29*29+j % 29 by omega,e6];rfl
   have hfr:∀j,w.frozen? ⟨b,off+j,none⟩=false:=fun j=>by simp[World.frozen?,hCb]
   have hT:∀zs,Touch (fun k=>k=b) w (w.setCells b off zs):=fun zs=>Touch.setCells (F:=fun k=>k=b) (g:=b) (.inl rfl) zs off w (Touch.refl _ _)
   refine⟨_,fun ty=>X4 (P:=Tryz.prog) w 89 91 ty _ Tryz.underlying89 Af9 (sz:=29) rfl (by decide) (fun u hu=>Bm.one T4 u hu) b off z.tn z.tc h0 hcell (fun j _=>hfr j),(hT _).mono fun k _ hk=>?_,(hT _).mono fun k _ hk=>?_⟩
   ·subst hk;exact⟨C,_,_,hCb,by decide⟩
   ·subst hk;exact hF
theorem D3.dropped (hC:D3 F w g c z l){w1 W:World}(h1:Touch (Gb w [91]) w w1)(hW:W=w1.setCell ⟨g,19,none⟩ (.slice none 0 0)) :
  D3 F W g { c with parts:=[] } { z with ta:=none,tn:=0,tc:=0 } l:=by
 have hng:¬Gb w [91] g:=fun h=>absurd (P2 hC.blk h) (by decide)
 have hb1:=hC.blk.Ak h1 hng;have hb2:=hb1.Be 19 (.slice none 0 0);rw[Ts,<-hW]at hb2;have h2:Touch (Gb w [93,91]) w W:=by
  rw[hW];exact(h1.less (by decide)).setCell (p:=⟨g,19,none⟩) (.inl (Jw hC.blk (by decide))) _
 have i:=hC.is;exact⟨hb2,⟨i.id,i.self,i.server,i.ps,i.now,i.busy,i.sent,i.due,i.made⟩,Fs.none_ _ _ rfl,hC.rcs.tou h2,hC.fg,fun k hk=>Nat.lt_of_lt_of_le (hC.lt k hk) h2.size⟩
end
end
section
structure L0 (p:C1):Prop where
 proc:0<=p.c.proc/\p.c.proc<=21
 may:E2 p.c (Al p.c.proc)=true
 call:Hk p.c
 dir:0<=p.dir/\p.dir<4
 to_:0<=p.to_/\p.to_<4
 put:p.put<4
 set:p.c.set.C9
structure Jy (p:Gc):Prop where
 handle:p.handle.length<=64
 gen:p.gen<=9223372036854775807
 bytes:p.bytes.length<=256
 at_:0<=p.at_/\p.at_<=9223372036854775807
def Co.place (z:Co)(n:Nat):Gc:=if n=0 then z.p0 else if n=1 then z.p1 else if n=2 then z.p2 else z.p3
def Co.Cq (z:Co)(n:Nat)(p:Gc):Co:=if n=0 then { z with p0:=p } else if n=1 then { z with p1:=p } else if n=2 then { z with p2:=p } else { z with p3:=p }
structure Iq (n m:Nat) (z:Co) (t:List C1) (l:List Bz):Prop where
 ps:∀i,Jy (z.place i)
 parts:∀p∈t,L0 p
 now:z.busy=true->L0 z.now
 recs:l.length<=n
 todo:t.length<=m
 busy:z.busy=true->l≠[]
 id:0<=z.id/\z.id<=4294967295
 uid:0<=z.uid/\z.uid<=4294967295
 gid:0<=z.gid/\z.gid<=4294967295
structure FAt (F:Nat->Prop) (w:World) (g:Nat) (z:Co) (t:List C1) (l:List Bz):Prop where
 blk:Blk w g 102 z.vals
 todo:As w 0 100 27 (.slice z.ta z.tn z.tc) (t.map C1.vals)
 otodo:InF F (.slice z.ta z.tn z.tc)
 recs:As w 0 65 88 (.slice z.ra z.rn z.rc) (l.map Bz.vals)
 orecs:InF F (.slice z.ra z.rn z.rc)
 fg:F g
 lt:∀k,F k->k<w.heap.size
section
variable {F G:Nat->Prop} {w w':World} {g:Nat} {z:Co} {t:List C1} {l:List Bz}
theorem FAt.Ik (h:FAt F w g z t l)(ht:Touch G w w')(hd:∀k,F k->¬G k):FAt F w' g z t l:=
 ⟨h.blk.Ak ht (hd g h.fg),h.todo.Ik h.otodo ht hd,h.otodo,h.recs.Ik h.orecs ht hd,h.orecs,h.fg,fun k hk=>Nat.lt_of_lt_of_le (h.lt k hk) ht.size⟩
theorem FAt.below (h:FAt F w g z t l)(hb:Below w.heap.size w w'):FAt F w' g z t l:=
 h.Ik (Touch.Aq hb (fun _=>False)) fun _ _ hf=>hf
theorem FAt.own {z':Co}(h:FAt F w g z t l)(ht:Touch (fun k=>k=g) w w')(hB:Blk w' g 102 z'.vals)(h1:z'.ta=z.ta)(h2:z'.tn=z.tn)(h3:z'.tc=z.tc)(h4:z'.ra=z.ra)(h5:z'.rn=z.rn)(h6:z'.rc=z.rc):FAt F w' g z' t l:=by
 have hty:Touch (Gb w [102]) w w':=ht.mono fun k _ hk=>by subst hk;exact Jw h.blk (by decide)
 refine⟨hB,?_,?_,?_,?_,h.fg,fun k hk=>Nat.lt_of_lt_of_le (h.lt k hk) ht.size⟩
 ·rw[h1,h2,h3];exact h.todo.tou hty (by decide)
 ·rw[h1,h2,h3];exact h.otodo
 ·rw[h4,h5,h6];exact h.recs.tou hty (by decide)
 ·rw[h4,h5,h6];exact h.orecs
theorem FAt.Abz (h:FAt F w g z t l){B:Nat}{A:Option Addr}{n c:Nat}{t2:List C1}{w1:World}(hT:Touch (Gb w [100]) w w1)(hTF:Touch F w w1)(hR:As w1 B 100 27 (.slice A n c) (t2.map C1.vals))(hI:InF G (.slice A n c))(hFG:∀k,F k->G k)(hG:∀k,G k->k<w1.heap.size) :
  FAt G (w1.setCell ⟨g,19,none⟩ (.slice A n c)) g { z with ta:=A,tn:=n,tc:=c } t2 l/\Touch F w (w1.setCell ⟨g,19,none⟩ (.slice A n c)):=by
 have hng:¬Gb w [100] g:=fun h2=>absurd (P2 h.blk h2) (by decide)
 have hb1:=h.blk.Ak hT hng;have hb2:=hb1.Be 19 (.slice A n c);rw[show z.vals.set 19 (.slice A n c)=({ z with ta:=A,tn:=n,tc:=c }:Co).vals by kernel_rfl]at hb2;have ht2:Touch (fun k=>k=g) w1 (w1.setCell ⟨g,19,none⟩ (.slice A n c)):=(Touch.refl (fun k=>k=g) w1).setCell (p:=⟨g,19,none⟩) (.inl rfl) _;have hty2:Touch (Gb w1 [102]) w1 (w1.setCell ⟨g,19,none⟩ (.slice A n c)):=ht2.mono fun k _ hk=>by subst hk;exact Jw hb1 (by decide)
 refine⟨⟨hb2,(hR.base (Nat.zero_le _)).tou hty2 (by decide),hI,(h.recs.tou hT (by decide)).tou hty2 (by decide),h.orecs.mono hFG,hFG g h.fg,fun k hk=>Nat.lt_of_lt_of_le (hG k hk) ht2.size⟩,hTF.setCell (p:=⟨g,19,none⟩) (.inl h.fg) _⟩
theorem FAt.Ait (h:FAt F w g z t l){B:Nat}{A:Option Addr}{n c:Nat}{l2:List Bz}{w1:World}(hT:Touch (Gb w [65]) w w1)(hTF:Touch F w w1)(hR:As w1 B 65 88 (.slice A n c) (l2.map Bz.vals))(hI:InF G (.slice A n c))(hFG:∀k,F k->G k)(hG:∀k,G k->k<w1.heap.size) :
  FAt G (w1.setCell ⟨g,54,none⟩ (.slice A n c)) g { z with ra:=A,rn:=n,rc:=c } t l2/\Touch F w (w1.setCell ⟨g,54,none⟩ (.slice A n c)):=by
 have hng:¬Gb w [65] g:=fun h2=>absurd (P2 h.blk h2) (by decide)
 have hb1:=h.blk.Ak hT hng;have hb2:=hb1.Be 54 (.slice A n c);rw[show z.vals.set 54 (.slice A n c)=({ z with ra:=A,rn:=n,rc:=c }:Co).vals by kernel_rfl]at hb2;have ht2:Touch (fun k=>k=g) w1 (w1.setCell ⟨g,54,none⟩ (.slice A n c)):=(Touch.refl (fun k=>k=g) w1).setCell (p:=⟨g,54,none⟩) (.inl rfl) _;have hty2:Touch (Gb w1 [102]) w1 (w1.setCell ⟨g,54,none⟩ (.slice A n c)):=ht2.mono fun k _ hk=>by subst hk;exact Jw hb1 (by decide)
 refine⟨⟨hb2,(h.todo.tou hT (by decide)).tou hty2 (by decide),h.otodo.mono hFG,(hR.base (Nat.zero_le _)).tou hty2 (by decide),hI,hFG g h.fg,fun k hk=>Nat.lt_of_lt_of_le (hG k hk) ht2.size⟩,hTF.setCell (p:=⟨g,54,none⟩) (.inl h.fg) _⟩
end
def FIs (F:Nat->Prop)(w:World)(g n m:Nat):Prop:=∃z t l,FAt F w g z t l/\Iq n m z t l
def Ex (F:Nat->Prop)(g n m:Nat)(w w':World):Prop:=(∃G,FIs G w' g n m/\∀k,G k->F k\/w.heap.size<=k)/\Touch F w w'
theorem Gj (z:Co){n:Nat}(hn:n<4):z.vals[3+n*4]?=some (.string (bs (z.place n).handle))/\z.vals[3+n*4+1]?=some (.int .i64 (z.place n).gen)/\z.vals[3+n*4+2]?=some (.int .i64 (z.place n).at_)/\z.vals[3+n*4+3]?=some (.string (bs (z.place n).bytes)):=by
 rcases (show n=0\/n=1\/n=2\/n=3 by omega) with rfl|rfl|rfl|rfl
 all_goals exact⟨rfl,rfl,rfl,rfl⟩
theorem Qj (z:Co){n:Nat}(hn:n<4)(p:Gc):(z.Cq n p).ta=z.ta/\(z.Cq n p).tn=z.tn/\(z.Cq n p).tc=z.tc/\(z.Cq n p).ra=z.ra/\(z.Cq n p).rn=z.rn/\(z.Cq n p).rc=z.rc/\(z.Cq n p).now=z.now/\(z.Cq n p).busy=z.busy/\(z.Cq n p).id=z.id/\(z.Cq n p).uid=z.uid/\(z.Cq n p).gid=z.gid:=by
 rcases (show n=0\/n=1\/n=2\/n=3 by omega) with rfl|rfl|rfl|rfl
 all_goals exact⟨rfl,rfl,rfl,rfl,rfl,rfl,rfl,rfl,rfl,rfl,rfl⟩
theorem Rq {z:Co}(h:∀i,Jy (z.place i))(n:Nat){p:Gc}(hp:Jy p):∀i,Jy ((z.Cq n p).place i):=by
 have h0:=h 0;have h1:=h 1;have h2:=h 2;have h3:=h 3;have e0:Jy z.p0:=h0;have e1:Jy z.p1:=h1;have e2:Jy z.p2:=h2;have e3:Jy z.p3:=h3;intro i;unfold Co.Cq Co.place
 repeat' split
 all_goals first|exact hp|exact e0|exact e1|exact e2|exact e3
theorem Ai8 (x:Call)(h:List UInt8)(hh:h.length<=64)(c:Nat)(hc:C0 x c=true):C0 { x with fh:=h } c=true/\C0 { x with fh2:=h } c=true:=by
 unfold C0 at hc ⊢;constructor
 ·by_cases h1:c=102
  ·subst h1
   simp[hh]
  ·rw[if_neg h1]at hc ⊢
   exact hc
 ·by_cases h1:c=102
  ·subst h1
   rw[if_pos rfl]at hc ⊢;exact hc
  ·rw[if_neg h1]at hc ⊢
   by_cases h2:c=70
   ·subst h2
    simp[hh]
   ·rw[if_neg h2]at hc ⊢
    exact hc
theorem Zi {x:Call}{l:List UInt8}(hx:E2 x l=true)(h:List UInt8)(hh:h.length<=64):E2 { x with fh:=h } l=true/\E2 { x with fh2:=h } l=true:=by
 unfold E2 at hx ⊢;rw[List.all_eq_true]at hx;exact⟨List.all_eq_true.2 fun c hc=>(Ai8 x h hh _ (hx c hc)).1,List.all_eq_true.2 fun c hc=>(Ai8 x h hh _ (hx c hc)).2⟩
end
section
def Anq:C1:=⟨Aw,0,0,0⟩
theorem My:(Tryz.prog.info? 100).map (fun i=>(i.zero,i.size,i.bytes))=some (some (.agg Anq.vals.toArray),27,264):=by kernel_rfl
theorem P3 (x:C1):Da 27 (.agg x.vals.toArray)=true:=by
 obtain⟨⟩:=x;rfl
theorem O9 (x:Gc):Da 4 (.agg x.vals.toArray)=true:=by
 obtain⟨⟩:=x;rfl
section
variable {ρ:Operand->Value} {w:World} {dst:Option Tmp} {ty:TypeId} {pos:String} {after:Array Edge} {g:Option (Nat × Bool)} {a b c d x y:Operand}
theorem Y9 (h:Da 27 (ρ a)=true):(execOp ρ ⟨dst,.buildSlice 98 1 #[(0,a)],ty,pos,after,g⟩).run Tryz.prog w=.ok (.value (.slice (some ⟨w.heap.size,0,none⟩) 1 1)) (w.alloc (.cells (cellsOf (ρ a)).toArray 100)):=by
 have hr:=F2 (s:=27) (n:=1) Tryz.underlying98 My (by decide) (by decide) [ρ a] rfl (by decide) (by decide) (fun v hv=>by rw[List.mem_singleton]at hv;subst hv;exact E4 h) w;rw[show [ρ a].flatMap cellsOf=cellsOf (ρ a) by simp]at hr;unfold execOp;simp only[List.map_toArray,List.map_cons,List.map_nil];rw[Sem.run_bind];rw[show (#[(0,ρ a)]:Array (Nat × Value))=(([ρ a].zipIdx 0).map fun x=>(x.2,x.1)).toArray from rfl,hr];rfl
theorem Ahw (h1:Da 27 (ρ a)=true)(h2:Da 27 (ρ b)=true)(h3:Da 27 (ρ c)=true):(execOp ρ ⟨dst,.buildSlice 98 3 #[(0,a),(1,b),(2,c)],ty,pos,after,g⟩).run Tryz.prog w=.ok (.value (.slice (some ⟨w.heap.size,0,none⟩) 3 3)) (w.alloc (.cells (cellsOf (ρ a)++(cellsOf (ρ b)++cellsOf (ρ c))).toArray 100)):=by
 have hr:=F2 (s:=27) (n:=3) Tryz.underlying98 My (by decide) (by decide) [ρ a,ρ b,ρ c] rfl (by decide) (by decide) (fun v hv=>by
  simp only[List.mem_cons,List.not_mem_nil,or_false]at hv;rcases hv with rfl|rfl|rfl
  ·exact E4 h1
  ·exact E4 h2
  ·exact E4 h3) w
 rw[show [ρ a,ρ b,ρ c].flatMap cellsOf=cellsOf (ρ a)++(cellsOf (ρ b)++cellsOf (ρ c)) by simp]at hr;unfold execOp;simp only[List.map_toArray,List.map_cons,List.map_nil];rw[Sem.run_bind];rw[show (#[(0,ρ a),(1,ρ b),(2,ρ c)]:Array (Nat × Value))=(([ρ a,ρ b,ρ c].zipIdx 0).map fun x=>(x.2,x.1)).toArray from rfl,hr];rfl
theorem S9 (hx:Dt (ρ x)=true)(hy:Da 4 (ρ y)=true)(ht:Ar w (C8 (ρ x)) (C7 (ρ x)) 4=true) :
  (execOp ρ ⟨dst,.store 96 x y,ty,pos,after,g⟩).run Tryz.prog w=.ok .skip (putsW w (C8 (ρ x)) (C7 (ρ x)) (ρ y).cells.toList):=Hh (by kernel_rfl) hx hy ht
theorem Y1 (h:(rowAt w 4 (ρ x)).isSome=true) :
  (execOp ρ ⟨dst,.load 96 x,ty,pos,after,g⟩).run Tryz.prog w=.ok (.value (.agg ((rowAt w 4 (ρ x)).getD #[]))) w:=D8 96 4 Tryz.underlying96 rfl (by kernel_rfl) h
theorem Ajp (hx:Dt (ρ x)=true)(hy:Da 27 (ρ y)=true)(ht:Ar w (C8 (ρ x)) (C7 (ρ x)) 27=true) :
  (execOp ρ ⟨dst,.store 100 x y,ty,pos,after,g⟩).run Tryz.prog w=.ok .skip (putsW w (C8 (ρ x)) (C7 (ρ x)) (ρ y).cells.toList):=Hh (by kernel_rfl) hx hy ht
theorem Akw (h:(rowAt w 27 (ρ x)).isSome=true) :
  (execOp ρ ⟨dst,.load 100 x,ty,pos,after,g⟩).run Tryz.prog w=.ok (.value (.agg ((rowAt w 27 (ρ x)).getD #[]))) w:=D8 100 27 Tryz.underlying100 rfl (by kernel_rfl) h
end
theorem Tm (l:List C1):∀r∈l.map C1.vals,r.length=27:=by
 intro r hr;obtain⟨q,_,rfl⟩:=List.mem_map.1 hr;rfl
theorem FAt.Arq {F:Nat->Prop}{w:World}{g:Nat}{z:Co}{t:List C1}{l:List Bz}(h:FAt F w g z t l)(ps:List C1){k:Nat}(hk:k=ps.length){cs:Array Value}(hcs:cs=(ps.map C1.vals).flatten.toArray)(hn:t.length+ps.length<=1000000)(c0:Nat) :
  ∃v' w',(Builtin.append_ #[98,98] 98 #[.slice z.ta z.tn z.tc,.slice (some ⟨w.heap.size,0,none⟩) k c0]).run Tryz.prog (w.alloc (.cells cs 100))=.ok v' w' /\
   ∃A n cc,v'=.slice A n cc/\w'.cell? ⟨g,19,none⟩=some (.slice z.ta z.tn z.tc)/\w'.frozen? ⟨g,19,none⟩=false /\
    FAt (fun k=>F k\/(w.heap.size<=k/\k<w'.heap.size)) (w'.setCell ⟨g,19,none⟩ (.slice A n cc)) g { z with ta:=A,tn:=n,tc:=cc } (t++ps) l/\Touch F w (w'.setCell ⟨g,19,none⟩ (.slice A n cc)) /\
    (∀b T cs,Blk w b T cs->T≠100->T≠102->Blk w' b T cs/\Blk (w'.setCell ⟨g,19,none⟩ (.slice A n cc)) b T cs):=by
 subst hcs hk;have hb:Below w.heap.size w (w.alloc (.cells (ps.map C1.vals).flatten.toArray 100)):=(Below.refl _ _).alloc (Nat.le_refl _) _;have hblk:=Blk.new w 100 (ps.map C1.vals).flatten;have hsz:(w.alloc (.cells (ps.map C1.vals).flatten.toArray 100)).heap.size=w.heap.size+1:=by simp
 generalize w.alloc (.cells (ps.map C1.vals).flatten.toArray 100)=w3 at *;have h3:=h.below hb;obtain⟨v',w',hrun,hR,hgr,hat⟩:=As.P0 (k:=ps.length) (ty:=98) (news:=ps.map C1.vals) Tryz.underlying98 My rfl (by decide) (by decide) h3.todo (Nat.zero_le _) hblk (Tm _) (fun q hq u hu=>by obtain⟨y,_,rfl⟩:=List.mem_map.1 hq;exact C1.one y u hu) (by rw[List.length_map,List.length_map];omega) (by rw[List.length_map]) c0;obtain⟨A,cc,hv,-⟩:=hR.at_;refine⟨v',w',hrun,A,_,cc,hv,?_⟩
 rw[hv]at hR hat;generalize (List.map C1.vals t++List.map C1.vals ps).length=n at *;have htr:Touch (fun k=>(Value.slice z.ta z.tn z.tc).ownBlock=some k) w3 w':=Touch.Mq hgr fun k hk=>hk
 have hty:=Ri h3.todo.2;have hT:Touch (Gb w3 [100]) w3 w':=htr.mono fun k _ hv=>by
  obtain⟨C,hC⟩:=hty k hv;exact⟨C,_,_,hC,by decide⟩
 have hng:(Value.slice z.ta z.tn z.tc).ownBlock≠some g:=Blk.M1 h3.todo.2 h3.blk (by decide);have hbg:Blk w' g 102 z.vals:=h3.blk.Ak htr hng;have hwl:w3.heap.size<=w'.heap.size:=htr.size;have hTF:Touch F w3 w':=htr.mono fun k _ hk=>h.otodo k hk
 rw[<-List.map_append]at hR;obtain⟨q1,q2⟩:=h3.Abz (G:=fun k=>F k\/(w.heap.size<=k/\k<w'.heap.size)) hT hTF hR (fun k hk=>by
  rcases hat with h4|h4
  ·exact .inl (h.otodo k (by rw[<-h4];exact hk))
  ·have hlk:=(hR.lt k hk).2
   rw[h4]at hk;have:w3.heap.size=k:=by injection hk
   exact .inr ⟨by omega,hlk⟩) (fun k hk=>.inl hk) (fun k hk=>by
  rcases hk with hk|hk
  ·have:=h.lt k hk;omega
  ·exact hk.2)
 refine⟨hbg.cell 19,hbg.frozen 19,q1,(Touch.Aq hb F).Ay q2,fun b T cs h0 h1 h2=>?_⟩
 have h5:=(h0.stays hb).Ak htr fun e=>by
  obtain⟨C,hC⟩:=hty b e;have h4:w3.heap[b]?=some (.cells cs.toArray T (0,0)):=h0.stays hb;rw[h4]at hC;injection hC with hC;injection hC with _ hC;exact h1 hC
 exact⟨h5,h5.far (p:=⟨g,19,none⟩) (h5.ne_ hbg h2) _⟩
end
section
section
variable {ρ:Operand->Value} {w:World} {dst:Option Tmp} {ty:TypeId} {pos:String} {after:Array Edge} {g:Option (Nat × Bool)}
theorem Q6 {t e:TypeId}{z:Array Value}{s by_:Nat}(hu:Tryz.prog.underlying t=some (.slice e))(hi:(Tryz.prog.info? e).map (fun i=>(i.zero,i.size,i.bytes))=some (some (.agg z),s,by_))(w:World) :
  (Instr.buildSlice t 0 #[]).run Tryz.prog w=.ok (.slice (some ⟨w.heap.size,0,none⟩) 0 0) (w.alloc (.cells #[] e)):=by
 obtain⟨i0,hi0,hz,hsize,hby⟩:=info_parts hi;simp[Instr.buildSlice,run_underlying hu,sizeOf,typeInfo,hi0,Instr.fill,newRow]
 have e0:∀f:Nat->Value,Array.map f (Array.range 0)=#[]:=fun f=>Array.eq_empty_of_size_eq_zero (by simp)
 rw[e0]
theorem Ahx:(execOp ρ ⟨dst,.buildSlice 98 0 #[],ty,pos,after,g⟩).run Tryz.prog w=.ok (.value (.slice (some ⟨w.heap.size,0,none⟩) 0 0)) (w.alloc (.cells #[] 100)):=by
 unfold execOp;simp only[List.map_toArray,List.map_nil];rw[Sem.run_bind,Q6 Tryz.underlying98 My];rfl
theorem Ak8:(execOp ρ ⟨dst,.buildSlice 60 0 #[],ty,pos,after,g⟩).run Tryz.prog w=.ok (.value (.slice (some ⟨w.heap.size,0,none⟩) 0 0)) (w.alloc (.cells #[] 65)):=by
 unfold execOp;simp only[List.map_toArray,List.map_nil];rw[Sem.run_bind,Q6 Tryz.underlying60 Lm];rfl
end
theorem As.Zs {w:World}{B:Nat}{e t ty:TypeId}{sz by_:Nat}{z:Array Value}{v:Value}{rows:List (List Value)}(hu:Tryz.prog.underlying t=some (.slice e))(hi:(Tryz.prog.info? e).map (fun i=>(i.zero,i.size,i.bytes))=some (some (.agg z),sz,by_))(hz:z.size=sz)(h0:0<sz)(hby:by_<=4096)(h:As w B e sz v rows)(hB:B<=w.heap.size)
  (a:Addr) {news:List (List Value)} (hb:∀j u,news.flatten[j]?=some u->w.cell? (a.add j)=some u) (hl:∀r∈news,r.length=sz) (h1:∀r∈news,∀u∈r,u.oneCell'=true) (hn:rows.length+news.length<=1000000000) {k:Nat} (hk:k=news.length) (c:Nat) :
  ∃v' w',(Builtin.append_ #[t,t] ty #[v,.slice (some a) k c]).run Tryz.prog w=.ok v' w'/\(As w' B e sz v' (rows++news)/\w.grownBy w' v.ownBlock/\(v'.ownBlock=v.ownBlock\/v'.ownBlock=some w.heap.size)):=by
 subst hk;obtain⟨i0,hi0,hz0,hsize,hby0⟩:=info_parts hi;have hfl:=K6 news hl;obtain⟨v',w',hrun,hown,hgrow,-,hat⟩:=run_append_own_at (P:=Tryz.prog) (w:=w) B t ty e i0 (.agg z) sz by_ hu hi0 hz0 hsize hby0 hz h0 v rows.length rows.flatten h.2 a news.length c news.flatten hfl hb (fun u hu=>by
   obtain⟨r,hr,hu⟩:=List.mem_flatten.1 hu;exact h1 r hr u hu) (by unfold maxLen;omega) (Nat.le_trans (Nat.mul_le_mul hn hby) (by omega)) hB
 refine⟨v',w',hrun,⟨fun q hq=>?_,?_⟩,hgrow,hat⟩
 ·rcases List.mem_append.1 hq with hq|hq
  ·exact h.1 q hq
  ·exact hl q hq
 ·rw[List.length_append,List.flatten_append]
  exact hown
theorem As.Arr (W:World)(B:Nat)(e:TypeId)(sz:Nat)(hB:B<=W.heap.size):As (W.alloc (.cells #[] e)) B e sz (.slice (some ⟨W.heap.size,0,none⟩) 0 0) []:=
 As.made W e [] (fun r hr=>by cases hr) rfl hB (Nat.zero_le _) rfl
theorem FAt.Asn {F:Nat->Prop}{w:World}{g:Nat}{z:Co}{p:C1}{ps:List C1}{l:List Bz}(h:FAt F w g z (p::ps) l)(hn:ps.length<=1000000){b:Nat}(hb:z.ta=some ⟨b,0,none⟩){a:Addr}(ha:a=if z.tc=1 then (⟨b,0,none⟩:Addr) else ⟨b,27,none⟩)(c0:Nat) :
  ∃v' w',(Builtin.append_ #[98,98] 98 #[.slice (some ⟨w.heap.size,0,none⟩) 0 0,.slice (some a) ps.length c0]).run Tryz.prog (w.alloc (.cells #[] 100))=.ok v' w' /\
   ∃A n cc,v'=.slice A n cc/\w'.cell? ⟨g,19,none⟩=some (.slice z.ta z.tn z.tc)/\w'.frozen? ⟨g,19,none⟩=false /\
    FAt (fun k=>F k\/(w.heap.size<=k/\k<w'.heap.size)) (w'.setCell ⟨g,19,none⟩ (.slice A n cc)) g { z with ta:=A,tn:=n,tc:=cc } ps l/\Touch F w (w'.setCell ⟨g,19,none⟩ (.slice A n cc)):=by
 have hB:Below w.heap.size w (w.alloc (.cells #[] 100)):=(Below.refl _ _).alloc (Nat.le_refl _) _;have hrow:=As.Arr w w.heap.size 100 27 (Nat.le_refl _);have hsz:(w.alloc (.cells #[] 100)).heap.size=w.heap.size+1:=by simp
 generalize w.alloc (.cells #[] 100)=w3 at *;have h3:=h.below hB;have hat:=h3.todo;rw[hb]at hat;have hcap:z.tn<=z.tc/\z.tn=ps.length+1:=by
  rcases hat.2.2 with ⟨h1,_⟩|⟨g',cap,cur,h1,h2,h3,h4,_⟩
  ·cases h1
  ·injection h1 with h1 h5 h6
   simp only[List.length_map,List.length_cons]at h4 h5;omega
 have hcell:∀j u,(ps.map C1.vals).flatten[j]?=some u->w3.cell? (a.add j)=some u:=by
  intro j u hj;cases hps:ps with
  |nil=>rw[hps]at hj;simp at hj
  |cons q qs=>
   have ht:¬z.tc=1:=by
    have:=hcap.2;rw[hps,List.length_cons]at this;omega
   rw[ha,if_neg ht];have hA:=(hat.rows).flat (sz:=27) (Tm _) (by decide);have h5:=hA (27+j) u (by
    rw[List.map_cons,List.flatten_cons,List.getElem?_append_right (by rw[C1.len];omega),C1.len];rw[show 27+j - 27=j by omega];exact hj)
   rw[Addr.add_mid]at h5 ⊢;rw[show 0+(27+j)=27+j by omega]at h5;exact h5
 obtain⟨v',w',hrun,hR,hgr,hat2⟩:=As.Zs (k:=ps.length) (ty:=98) (news:=ps.map C1.vals) Tryz.underlying98 My rfl (by decide) (by decide) hrow (by omega) a hcell (Tm _) (fun q hq u hu=>by obtain⟨y,_,rfl⟩:=List.mem_map.1 hq;exact C1.one y u hu) (by rw[List.length_map];simp;omega) (by rw[List.length_map]) c0;rw[List.nil_append]at hR;obtain⟨A,cc,hv,-⟩:=hR.at_;refine⟨v',w',hrun,A,_,cc,hv,?_⟩
 rw[hv]at hR hat2;generalize (List.map C1.vals ps).length=n at *;have htr:Touch (fun k=>k=w.heap.size) w3 w':=Touch.Mq hgr fun k hk=>by
  have:w.heap.size=k:=by simpa[Value.ownBlock] using hk
  exact this.symm
 have hgl:∀k,F k->k<w.heap.size:=h.lt;have hwl:w3.heap.size<=w'.heap.size:=htr.size;have hg:=h.fg;have hAw:=h3.Ik htr (fun k hk e=>by have:=hgl k hk;omega);have hbg:=hAw.blk;obtain⟨q1,q2⟩:=hAw.Abz (G:=fun k=>F k\/(w.heap.size<=k/\k<w'.heap.size)) (Touch.refl _ _) (Touch.refl _ _) hR (fun k hk=>.inr (hR.lt k hk)) (fun k hk=>.inl hk) (fun k hk=>by
  rcases hk with hk|hk
  ·have:=hgl k hk;omega
  ·exact hk.2)
 refine⟨hbg.cell 19,hbg.frozen 19,q1,?_⟩
 have e1:Touch F w w3:=Touch.Aq hB F;have e2:Touch F w w':=e1.trans htr fun k hk e=>by omega
 exact e2.setCell (p:=⟨g,19,none⟩) (.inl hg) _
theorem FAt.Asp {F:Nat->Prop}{w:World}{g:Nat}{z:Co}{t:List C1}{l:List Bz}(h:FAt F w g z t l)(r:Bz){cs:Array Value}(hcs:cs=r.vals.toArray)(hn:l.length<=1000000)(c0:Nat) :
  ∃v' w',(Builtin.append_ #[60,60] 60 #[.slice z.ra z.rn z.rc,.slice (some ⟨w.heap.size,0,none⟩) 1 c0]).run Tryz.prog (w.alloc (.cells cs 65))=.ok v' w' /\
   ∃A n cc,v'=.slice A n cc/\w'.cell? ⟨g,54,none⟩=some (.slice z.ra z.rn z.rc)/\w'.frozen? ⟨g,54,none⟩=false /\
    FAt (fun k=>F k\/(w.heap.size<=k/\k<w'.heap.size)) (w'.setCell ⟨g,54,none⟩ (.slice A n cc)) g { z with ra:=A,rn:=n,rc:=cc } t (l++[r])/\Touch F w (w'.setCell ⟨g,54,none⟩ (.slice A n cc)) /\
    (∀b T cs,Blk w b T cs->T≠65->T≠102->Blk w' b T cs/\Blk (w'.setCell ⟨g,54,none⟩ (.slice A n cc)) b T cs):=by
 subst hcs;have hb:Below w.heap.size w (w.alloc (.cells r.vals.toArray 65)):=(Below.refl _ _).alloc (Nat.le_refl _) _;have hblk:=Blk.new w 65 r.vals;have hsz:(w.alloc (.cells r.vals.toArray 65)).heap.size=w.heap.size+1:=by simp
 generalize w.alloc (.cells r.vals.toArray 65)=w3 at *;have h3:=h.below hb;have hfl:([r].map Bz.vals).flatten=r.vals:=by simp
 obtain⟨v',w',hrun,hR,hgr,hat⟩:=As.P0 (k:=1) (ty:=60) (news:=[r].map Bz.vals) Tryz.underlying60 Lm rfl (by decide) (by decide) h3.recs (Nat.zero_le _) (by rw[hfl];exact hblk) (Pr _) (fun q hq u hu=>by obtain⟨y,_,rfl⟩:=List.mem_map.1 hq;exact Bz.one y u hu) (by rw[List.length_map,List.length_map];show l.length+1<=_;omega) rfl c0;obtain⟨A,cc,hv,-⟩:=hR.at_;refine⟨v',w',hrun,A,_,cc,hv,?_⟩
 rw[hv]at hR hat;generalize (List.map Bz.vals l++List.map Bz.vals [r]).length=n at *;have htr:Touch (fun k=>(Value.slice z.ra z.rn z.rc).ownBlock=some k) w3 w':=Touch.Mq hgr fun k hk=>hk
 have hty:=Ri h3.recs.2;have hT:Touch (Gb w3 [65]) w3 w':=htr.mono fun k _ hv=>by
  obtain⟨C,hC⟩:=hty k hv;exact⟨C,_,_,hC,by decide⟩
 have hng:(Value.slice z.ra z.rn z.rc).ownBlock≠some g:=Blk.M1 h3.recs.2 h3.blk (by decide);have hbg:Blk w' g 102 z.vals:=h3.blk.Ak htr hng;have hwl:w3.heap.size<=w'.heap.size:=htr.size;have hTF:Touch F w3 w':=htr.mono fun k _ hk=>h.orecs k hk
 rw[<-List.map_append]at hR;obtain⟨q1,q2⟩:=h3.Ait (G:=fun k=>F k\/(w.heap.size<=k/\k<w'.heap.size)) hT hTF hR (fun k hk=>by
  rcases hat with h4|h4
  ·exact .inl (h.orecs k (by rw[<-h4];exact hk))
  ·have hlk:=(hR.lt k hk).2
   rw[h4]at hk;have:w3.heap.size=k:=by injection hk
   exact .inr ⟨by omega,hlk⟩) (fun k hk=>.inl hk) (fun k hk=>by
  rcases hk with hk|hk
  ·have:=h.lt k hk;omega
  ·exact hk.2)
 refine⟨hbg.cell 54,hbg.frozen 54,q1,(Touch.Aq hb F).Ay q2,fun b T cs h0 h1 h2=>?_⟩
 have h5:=(h0.stays hb).Ak htr fun e=>by
  obtain⟨C,hC⟩:=hty b e;have h4:w3.heap[b]?=some (.cells cs.toArray T (0,0)):=h0.stays hb;rw[h4]at hC;injection hC with hC;injection hC with _ hC;exact h1 hC
 exact⟨h5,h5.far (p:=⟨g,54,none⟩) (h5.ne_ hbg h2) _⟩
end
attribute [local go_sem ↓] Go.wp_at_zero Go.wp_at_succ
attribute [local go_sem] Ai Ag Af Ab Aj
section
attribute [local go_sem ↓] D6 Ji
def Qo (x:Fw):Prop:=x.s.p.data.length<=2100/\Acr x.s.a.call=false/\x.es.length<=70/\x.us.length<=30
def Mb (l:List Fw)(w:World)(e:Ending)(w':World):Prop:=∃b,e=.returned (.bool b)/\(b=false->l.length<=40/\∀x∈l,Qo x)/\Below w.heap.size w w'
theorem Mb.yes {l:List Fw}{w w':World}(hb:Below w.heap.size w w'):Mb l w (.returned (.bool true)) w':=⟨true,rfl,(fun h=>by cases h),hb⟩
theorem Mb.no {l:List Fw}{w w':World}(h:l.length<=40/\∀x∈l,Qo x)(hb:Below w.heap.size w w'):Mb l w (.returned (.bool false)) w':=⟨false,rfl,(fun _=>h),hb⟩
theorem Yd (A:Option Addr)(cap:Nat)(l:List Fw)(w:World)(hl:l.length<=9223372036854775807)(hA:At w 94 A (l.map Fw.vals))(hR:∀x∈l,x.rep.Kk w) :
    Calls Tryz.prog 6 #[.slice A l.length cap] w (Mb l w):=by
  have HA:=Zh hA;have HR:=Zh hR;clear hA hR;go_enter Tryz.func6,Tryz.ntmps6
  go_wp2
  go_loopw [3] (fun i wr=>∃k:Nat,k<=l.length/\k<=40/\i=.int .i64 k/\(∀x∈l.take k,Qo x)/\Below w.heap.size w wr) (fun i _=>l.length - (intOf i).toNat)
  case atStart=>exact⟨0,Nat.zero_le _,by omega,rfl,(by simp),Below.refl _ _⟩
  case round=>
    obtain⟨k,hk,hk40,rfl,hok,hb⟩:=hrel;have HB:=Zh hb;have HO:=Zh hok;have hk0:(0:Int)<=(k:Int):=Int.natCast_nonneg _;by_cases hlt:k<l.length/\k<40
    · obtain⟨hlt,hlt4⟩:=hlt
      have hk1:(k:Int)<(l.length:Int):=by omega
      have hk4:(k:Int)<40:=by omega
      have hiw:IntKind.i64.wrap ((k:Int)+1)=((k+1:Nat):Int):=by rw[IntWalk.i64_in _ (by omega)];omega
      obtain⟨b1,o1,hna,hb1,-,cc⟩:=Hw Fw.len (by decide) (HA.out.below hb) hlt;have c33:=cc 33 (.string (bs l[k].s.p.data)) rfl;have zs:=Au l[k].s.p.data;have rc:rowOf wr b1 (o1+k*94+7) 24=some l[k].s.a.call.vals.toArray:=by
        refine Mm (fun j u hu=>?_) (Call.len _) (by decide)
        have hj:j<24:=by
          have:=(List.getElem?_eq_some_iff.1 hu).1;exact this
        have h6:=cc (7+j) u (by
          have e:(l[k].vals.drop 7).take 24=l[k].s.a.call.vals:=rfl;rw[<-e,List.getElem?_take,if_pos hj,List.getElem?_drop]at hu;exact hu)
        rw[<-Nat.add_assoc]at h6;exact h6
      have rr:rowOf wr b1 (o1+k*94+34) 58=some l[k].s.r.vals.toArray:=by
        refine Mm (fun j u hu=>?_) (Aa.len _) (by decide)
        have hj:j<58:=by
          have:=(List.getElem?_eq_some_iff.1 hu).1;exact this
        have h6:=cc (34+j) u (by
          have e:(l[k].vals.drop 34).take 58=l[k].s.r.vals:=rfl;rw[<-e,List.getElem?_take,if_pos hj,List.getElem?_drop]at hu;exact hu)
        rw[<-Nat.add_assoc]at h6;exact h6
      have KC:=Zh (fun W=>Z0 l[k].s.a.call W);have KR:=Zh (fun (W:World) (h:Below w.heap.size w W)=>Zz l[k].rep W ((HR.out _ (List.getElem_mem hlt)).below h));have HNX:=Zh (fun (h:Qo l[k])=>(show ∀x∈l.take (k+1),Qo x by
        intro q hq;rw[Pn _ _ hlt]at hq;rcases List.mem_append.1 hq with hq|hq
        · exact hok q hq
        · simp only[List.mem_singleton]at hq
          subst hq;exact h))
      have er:l[k].rep.r=l[k].s.r:=rfl;rw[er]at KR;clear er;unfold Qo at HNX;generalize l[k].s.p.data=pd at *;generalize l[k].s.a.call=cl at *;subst hna;clear cc hok hb;by_cases hd:pd.length<=2100
      · have hd1:¬(2100:Int)<(pd.length:Int):=by omega
        have hd2:¬(2100:Int)<((bs pd).size:Int):=by omega
        go_wp2_with fail;refine(KC.out _).mono ?_
        rintro e w5 ⟨rfl,hb5⟩;have B5:=Zh (Ad HB.out hb5);have E5:=Zh hb5;clear hb5 KC;have HD:=Zh hd;clear hd;cases hcl:Acr cl
        case true=>
          go_wp2
          all_goals (go_ret;exact Mb.yes B5.out)
        have KR2:=Zh (KR.out w5 B5.out);clear KR;have rr5:=(Fu E5.out hb1 (o1+k*94+34) 58).trans rr;go_wp2_with fail;refine KR2.out.mono ?_
        rintro e w6 ⟨b,rfl,hf,hb6⟩;have B6:=Zh (Ad B5.out hb6);cases b
        case true=>
          go_wp2
          all_goals (go_ret;exact Mb.yes B6.out)
        have HN:=Zh (HNX.out ⟨HD.out,hcl,hf rfl⟩);clear hf hb6;go_wp2;go_roundw
        case rel=>first
          | exact⟨k+1,by omega,by omega,by first|rfl|go_num,HN.out,B6.out⟩
          | (repeat apply Exists.intro
             refine⟨?_,rfl⟩
             exact⟨k+1,by omega,by omega,by first|rfl|go_num,HN.out,B6.out⟩)
        case measure=>simp[intOf];omega
      · have hd1:(2100:Int)<(pd.length:Int):=by omega
        have hd2:(2100:Int)<((bs pd).size:Int):=by omega
        clear hd;go_wp2
        all_goals (go_ret;exact Mb.yes HB.out)
    · have hE:l.length<=k\/40<=k:=by omega
      clear hlt hok hb;by_cases h1:k<l.length
      · have p1:(k:Int)<(l.length:Int):=by omega
        have p2:¬(k:Int)<40:=by omega
        have p3:(40:Int)<(l.length:Int):=by omega
        clear hE h1;go_wp2
        all_goals (go_ret;exact Mb.yes HB.out)
      · have p1:¬(k:Int)<(l.length:Int):=by omega
        have p3:¬(40:Int)<(l.length:Int):=by omega
        obtain rfl:k=l.length:=by omega
        have HY:=Zh (show l.length<=40/\∀x∈l,Qo x from ⟨hk40,by have:=HO.out;rw[List.take_of_length_le (Nat.le_refl _)]at this;exact this⟩);clear hE h1;go_wp2
        all_goals (go_ret;exact Mb.no HY.out HB.out)
end
end Go.Proofs.YtfjflkmhhbhceaaGreatDoor
