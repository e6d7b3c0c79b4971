/-
  Layer 33, plain: what a client is, and what it does when it is asked, when something comes, and when time passes. No condition.
-/
import Derived.Test.YtfjflkmhhbhceaaGreatDoorO03
import Derived.Test.YtfjflkmhhbhceaaGreatDoorO12
import Derived.Test.YtfjflkmhhbhceaaGreatDoorO21
import Derived.Test.YtfjflkmhhbhceaaGreatDoorO23
import Derived.Test.YtfjflkmhhbhceaaGreatDoorO26
import Derived.Test.YtfjflkmhhbhceaaGreatDoorO05
import Derived.Test.YtfjflkmhhbhceaaGreatDoorO19
import Derived.Test.YtfjflkmhhbhceaaGreatDoorO13
import Derived.Laws.IdiomStrings
import Derived.Test.YtfjflkmhhbhceaaGreatDoorO22
set_option maxHeartbeats 40000000
namespace Go.Proofs.YtfjflkmhhbhceaaGreatDoor
open Go.RowKit
structure Hn where
 C3:A8
 beg:Int
 fin:Int
 call:Call
 rep:Dd
structure ClD where
 id:Int
 self:Int
 server:Int
 ps:List Hl
 parts:List Bm
 now:Bm
 busy:Bool
 sent:B3
 due:Int
 made:Int
 recs:List Hn
def Fo (n:Int):Bool:=decide (0<=n) && decide (n<=1099511627776)
def Dr (i:Int):Bool:=decide (0<=i) && decide (i<4)
def Rx (p:Int):Bool:=p==3 || (decide (8<=p) && decide (p<=11))
def Rh:Hl:=⟨[],0,0,[]⟩
def ClD.at_ (c:ClD)(i:Int):Hl:=c.ps.getD i.toNat Rh
def ClD.Kv (c:ClD)(i:Int)(p:Hl):ClD:={ c with ps:=c.ps.set i.toNat p }
def ClD.ahead (c:ClD)(i:Int):ClD × List Bm:=
 if (c.at_ i).bytes=[] then (c,[])
 else (c.Kv i { c.at_ i with at_:=0,bytes:=[] },[⟨{ Aw with proc:=7,offset:=(c.at_ i).at_,data:=(c.at_ i).bytes,how:=2 },i,0,-1,0,0⟩])
def ClD.late (c:ClD)(i:Int)(x:Call):ClD × List Bm:=
 if x.data=[] then (c,[])
 else if (c.at_ i).bytes≠[]/\x.offset - (c.at_ i).at_=(c.at_ i).bytes.length/\(c.at_ i).bytes.length+x.data.length<=256 then (c.Kv i { c.at_ i with bytes:=(c.at_ i).bytes++x.data },[])
 else ((c.ahead i).1.Kv i { c.at_ i with at_:=x.offset,bytes:=x.data },(c.ahead i).2)
def Bq (a:Ask):Call × List Int × Bool:=
 if a.kind=1 then ({ Aw with proc:=3,name:=a.call.name },[a.dir,a.var],true)
 else if a.kind=2 then ({ Aw with proc:=6,offset:=a.call.offset,count:=a.call.count },[a.var],true)
 else if a.kind=3 then ({ Aw with proc:=7,offset:=a.call.offset,data:=a.call.data,how:=2 },[a.var],true)
 else if a.kind=4 then ({ Aw with proc:=21 },[a.var],true)
 else if a.kind=5 then ({ a.call with fh:=[],fh2:=[] },[a.dir,a.to_,a.var],true)
 else (Aw,[],false)
def ClD.Gu (c:ClD)(a:Ask)(x:Call):ClD × List Bm:=
 if a.kind=1 then ((c.ahead a.var).1,(c.ahead a.var).2++[⟨{ Aw with proc:=1 },a.dir,0,-1,0,0⟩,⟨x,a.dir,0,a.var,0,0⟩,⟨{ Aw with proc:=1 },a.var,0,-1,0,0⟩])
 else if a.kind=3 then c.late a.var x
 else if a.kind=5 then
  if Rx x.proc then ((c.ahead a.var).1,(c.ahead a.var).2++[⟨x,a.dir,a.to_,a.var,0,0⟩]) else (c,[⟨x,a.dir,a.to_,-1,0,0⟩])
 else ((c.ahead a.var).1,(c.ahead a.var).2++[⟨x,a.var,0,-1,0,0⟩])
def Tj (p:Int)(b:UInt8):Bool:=(Al p).contains b
def ClD.Sk (c:ClD)(p:Bm):Call:=
 let x:=if Tj p.c.proc 102 then { p.c with fh:=(c.at_ p.dir).handle } else p.c
 if Tj p.c.proc 70 then { x with fh2:=(c.at_ p.to_).handle } else x
def ClD.Sj (c:ClD)(p:Bm):Call:=
 let x:=if Tj p.c.proc 102 then { p.c with fh:=Ef (c.at_ p.dir).gen } else p.c
 if Tj p.c.proc 70 then { x with fh2:=Ef (c.at_ p.to_).gen } else x
def ClD.C3 (c:ClD)(p:Bm):A8:=⟨c.id,c.made+1,p.uid,p.gid⟩
def ClD.message (c:ClD)(p:Bm):Message:=⟨c.made+1,false,false,p.c.proc,c.C3 p,0,(Aaa (c.Sk p)).1⟩
def Rf (m:Message):List UInt8:=if m.bad then [] else m.bytes
def ClD.Ux (c:ClD)(p:Bm):B3:=⟨c.self,c.server,Rf (c.message p)⟩
def Vd:Dd:=⟨Anv,[],[]⟩
def ClD.next (c:ClD)(step now:Int):ClD × List B3:=
 match c.parts with
 |[]=>(c,[])
 |p::l=>({ c with parts:=l,now:=p,busy:=true,sent:=c.Ux p,due:=now+8,made:=c.made+1,recs:=c.recs++[⟨c.C3 p,step,0,c.Sj p,Vd⟩] },[c.Ux p])
def Ac4 (a:Ask):Bool:=decide (0<=a.uid) && decide (a.uid<=4294967295) && (decide (0<=a.gid) && decide (a.gid<=4294967295))
def Pe (a:Ask)(step now:Int):Bool:=
 (Bq a).2.2 && decide (1<=step) && Fo now && (Bq a).2.1.all Dr && Ac4 a && decide (Ev (Bq a).1=0)
def ClD.ask (c:ClD)(a:Ask)(step now:Int):ClD × List B3 × Int:=
 if c.busy then (c,[],34)
 else if Pe a step now=false then (c,[],2)
 else
  let q:=c.Gu a (Bq a).1
  let r:=({ q.1 with parts:=q.2.map fun p=>{ p with uid:=a.uid,gid:=a.gid } }:ClD).next step now
  (r.1,r.2,0)
def Km (d:Dd):Dd:=
 ⟨if d.f.fh=[] then d.f else { d.f with fh:=Ef d.f.obj.attr.gen },d.es.map fun e=>if e.fh=[] then e else { e with fh:=Ef e.gen },d.us⟩
def Dp (l:List Hn)(step:Int)(d:Dd):List Hn:=
 match l.getLast? with
 |none=>l
 |some r=>l.dropLast++[{ r with fin:=step,rep:=d }]
def ClD.take (c:ClD)(x:B3)(step now:Int):ClD × List B3:=
 if c.busy=false\/x.from_≠c.server\/step<1\/Fo now=false then (c,[])
 else if (Dc x.data).2≠0\/(Dc x.data).1.answer=false\/(Dc x.data).1.xid≠c.made\/(Dc x.data).1.accept≠0 then (c,[])
 else match Ok c.now.c.proc (Dc x.data).1.body with
  |none=>(c,[])
  |some d=>
   let c1:={ c with recs:=Dp c.recs step (Km d),busy:=false }
   if d.f.status≠0 then ({ c1 with parts:=[] },[])
   else if c.now.put≠-1/\d.f.fh≠[]/\d.f.obj.is=true then (c1.Kv c.now.put { c.at_ c.now.put with handle:=d.f.fh,gen:=d.f.obj.attr.gen }).next step now
   else c1.next step now
def T4:Bm:=⟨Aw,0,0,0,0,0⟩
def G4:B3:=⟨0,0,[]⟩
def Wz (id self server:Int)(root:List UInt8):ClD:=⟨id,self,server,List.replicate 4 ⟨root,1,0,[]⟩,[],T4,false,G4,0,0,[]⟩
def Oa (l:List Hn):Bool:=match l.getLast? with
 |none=>false
 |some r=>r.fin==0
def Aiw (id k:Int)(i:Nat)(r:Hn):Prop:=r.C3.client=id/\r.C3.seq=i+1/\1<=r.beg/\r.beg<=k/\(r.fin=0\/(r.beg<=r.fin/\r.fin<=k))
structure Ft (c:ClD) (k:Int):Prop where
 made:c.made=c.recs.length
 recs:∀(i:Nat) (h:i<c.recs.length),Aiw c.id k i c.recs[i]
 order:∀(i:Nat) (h:i+1<c.recs.length),c.recs[i].fin≠0/\c.recs[i].fin<=c.recs[i+1].beg
 busy:c.busy=Oa c.recs
theorem Aiw.mono {id k k':Int}{i:Nat}{r:Hn}(h:Aiw id k i r)(hk:k<=k'):Aiw id k' i r:=by
 obtain⟨h1,h2,h3,h4,h5⟩:=h;exact⟨h1,h2,h3,by omega,by omega⟩
theorem Ft.mono {c:ClD}{k k':Int}(h:Ft c k)(hk:k<=k'):Ft c k':=⟨h.made,fun i hi=>(h.recs i hi).mono hk,h.order,h.busy⟩
theorem Ft.same {c d:ClD}{k:Int}(h:Ft c k)(h1:d.made=c.made)(h2:d.recs=c.recs)(h3:d.busy=c.busy)(h4:d.id=c.id):Ft d k:=by
 obtain⟨a,b,e,f⟩:=h;refine⟨?_,?_,?_,?_⟩
 ·rw[h1,h2];exact a
 ·intro i hi
  simp only[h2,h4]at hi ⊢;exact b i hi
 ·intro i hi
  simp only[h2]at hi ⊢;exact e i hi
 ·rw[h2,h3];exact f
theorem Sy (l:List Hn)(r:Hn):Oa (l++[r])=(r.fin==0):=by simp[Oa]
theorem Ft.ended {c:ClD}{k:Int}(h:Ft c k)(hb:c.busy=false):∀(i:Nat) (h:i<c.recs.length),c.recs[i].fin≠0:=by
 intro i hi;rcases Nat.lt_or_ge (i+1) c.recs.length with h1|h1
 ·exact(h.order i h1).1
 ·have h2:=h.busy
  rw[hb]at h2;have h3:c.recs.getLast?=some c.recs[i]:=by
   rw[List.getLast?_eq_getElem?,show c.recs.length - 1=i by omega,List.getElem?_eq_getElem hi]
  unfold Oa at h2;rw[h3]at h2
  simpa using h2.symm
theorem Ft.next {c:ClD}{k step now:Int}(h:Ft c k)(hb:c.busy=false)(hk:k<=step)(h1:1<=step):Ft (c.next step now).1 step:=by
 unfold ClD.next;cases hp:c.parts with
 |nil=>exact h.mono hk
 |cons p l=>
  have he:=h.ended hb;refine⟨?_,fun i hi=>?_,fun i hi=>?_,?_⟩
  ·show c.made+1=((c.recs++[_]).length:Nat)
   rw[h.made,List.length_append,List.length_singleton];omega
  ·simp only[List.length_append,List.length_singleton]at hi
   simp only[List.getElem_append];split
   ·rename_i hi2
    exact(h.recs i hi2).mono hk
   ·rename_i hi2
    obtain rfl:i=c.recs.length:=by omega
    simp only[Nat.sub_self,List.getElem_singleton];exact⟨rfl,by show c.made+1=_;rw[h.made],h1,Int.le_refl _,.inl rfl⟩
  ·simp only[List.length_append,List.length_singleton]at hi
   have hi1:i<c.recs.length:=by omega
   simp only[List.getElem_append,hi1,dif_pos];refine⟨he i hi1,?_⟩
   split
   ·rename_i hi2
    exact(h.order i hi2).2
   ·rename_i hi2
    simp only[List.getElem_singleton];have h5:=(h.recs i hi1).2.2.2.2;have h6:=he i hi1
    show _<=step
    omega
  ·show true=Oa (c.recs++[_])
   rw[Sy];rfl
theorem ClD.Af2 (c:ClD)(i:Int):(c.ahead i).1.made=c.made/\(c.ahead i).1.recs=c.recs/\(c.ahead i).1.busy=c.busy/\(c.ahead i).1.id=c.id:=by
 unfold ClD.ahead;split<;>exact⟨rfl,rfl,rfl,rfl⟩
theorem ClD.Te (c:ClD)(a:Ask)(x:Call):(c.Gu a x).1.made=c.made/\(c.Gu a x).1.recs=c.recs/\(c.Gu a x).1.busy=c.busy/\(c.Gu a x).1.id=c.id:=by
 unfold ClD.Gu ClD.late
 repeat' split
 all_goals first
  |exact c.Af2 _
  |exact⟨rfl,rfl,rfl,rfl⟩
theorem Ft.ask {c:ClD}{k step now:Int}(h:Ft c k)(a:Ask)(hk:k<=step)(h1:1<=step):Ft (c.ask a step now).1 step:=by
 unfold ClD.ask;split
 ·exact h.mono hk
 ·rename_i hb
  split
  ·exact h.mono hk
  ·obtain⟨e1,e2,e3,e4⟩:=c.Te a (Bq a).1
   have hb2:c.busy=false:=by simpa using hb
   exact(h.same (d:={ (c.Gu a (Bq a).1).1 with parts:=(c.Gu a (Bq a).1).2.map fun p=>{ p with uid:=a.uid,gid:=a.gid } }) e1 e2 e3 e4).next (e3.trans hb2) hk h1
theorem Ft.Be {c:ClD}{k step:Int}(h:Ft c k)(hb:c.busy=true)(d:Dd)(hk:k<=step)(h1:1<=step):Ft { c with recs:=Dp c.recs step d,busy:=false } step:=by
 rcases List.eq_nil_or_concat c.recs with he|⟨l,r,he⟩
 ·have h2:=h.busy
  rw[hb,he]at h2;cases h2
 obtain⟨a,b,e,f⟩:=h;rw[List.concat_eq_append]at he;have hs:Dp c.recs step d=l++[{ r with fin:=step,rep:=d }]:=by
  rw[he];simp[Dp]
 have hr:=b l.length (by rw[he];simp);simp only[he,List.getElem_append_right (Nat.le_refl _),Nat.sub_self,List.getElem_singleton]at hr;refine⟨?_,fun i hi=>?_,fun i hi=>?_,?_⟩
 ·show c.made=((Dp c.recs step d).length:Nat)
  rw[hs,a,he];simp
 ·simp only[hs]at hi ⊢
  simp only[List.length_append,List.length_singleton]at hi;simp only[List.getElem_append];split
  ·rename_i hi2
   have h5:=b i (by rw[he];simp;omega);simp only[he,List.getElem_append,hi2,dif_pos]at h5;exact h5.mono hk
  ·rename_i hi2
   obtain rfl:i=l.length:=by omega
   simp only[Nat.sub_self,List.getElem_singleton];exact⟨hr.1,hr.2.1,hr.2.2.1,Int.le_trans hr.2.2.2.1 hk,.inr ⟨Int.le_trans hr.2.2.2.1 hk,Int.le_refl _⟩⟩
 ·simp only[hs]at hi ⊢
  simp only[List.length_append,List.length_singleton]at hi;have hi1:i<l.length:=by omega
  have h5:=e i (by rw[he];simp;omega);simp only[he,List.getElem_append,hi1,dif_pos]at h5 ⊢;refine⟨h5.1,?_⟩
  have h6:=h5.2;split
  ·rename_i hi2
   simpa[hi2] using h6
  ·rename_i hi2
   simpa[hi2] using h6
 ·show false=Oa (Dp c.recs step d)
  rw[hs,Sy]
  show false=(step==0)
  have:step≠0:=by omega
  simpa using this
theorem Ft.take {c:ClD}{k step now:Int}(h:Ft c k)(x:B3)(hk:k<=step)(h1:1<=step):Ft (c.take x step now).1 step:=by
 unfold ClD.take;split
 ·exact h.mono hk
 ·rename_i hb
  have hb2:c.busy=true:=by
   cases hc:c.busy
   ·exact absurd (.inl hc) hb
   ·rfl
  split
  ·exact h.mono hk
  ·split
   ·exact h.mono hk
   ·rename_i d hd
    have h5:=h.Be hb2 (Km d) hk h1;simp only
    split
    ·exact h5.same rfl rfl rfl rfl
    ·split
     ·exact(h5.same (d:=ClD.Kv { c with recs:=Dp c.recs step (Km d),busy:=false } _ _) rfl rfl rfl rfl).next rfl (Int.le_refl _) h1
     ·exact h5.next rfl (Int.le_refl _) h1
theorem Ft.new (id self server:Int)(root:List UInt8):Ft (Wz id self server root) 0:=
 ⟨rfl,fun _ hi=>absurd hi (Nat.not_lt_zero _),fun _ hi=>absurd hi (Nat.not_lt_zero _),rfl⟩
section
def InF (F:Nat->Prop)(v:Value):Prop:=∀k,v.ownBlock=some k->F k
def Gb (w:World)(ts:List TypeId)(k:Nat):Prop:=∃C t fr,w.heap[k]?=some (.cells C t fr)/\t∈ts
theorem InF.mono {F G:Nat->Prop}{v:Value}(h:InF F v)(hG:∀k,F k->G k):InF G v:=fun k hk=>hG k (h k hk)
theorem Ri {w:World}{B n sz:Nat}{e:TypeId}{v:Value}{xs:List Value}(h:w.ownsRow B e sz v n xs):∀k,v.ownBlock=some k->∃C,w.heap[k]?=some (.cells C e (0,0)):=by
 intro k hk;rcases h.2 with ⟨rfl,_⟩|⟨g,cap,cur,rfl,_,hh,_⟩
 ·cases hk
 ·have:g=k:=by simpa[Value.ownBlock] using hk
  subst this;exact⟨cur,hh⟩
theorem P2 {w:World}{ts:List TypeId}{k:Nat}{C:Array Value}{e:TypeId}{fr:Nat × Nat}(h:w.heap[k]?=some (.cells C e fr))(ht:Gb w ts k):e∈ts:=by
 obtain⟨D,t,fr',h2,hm⟩:=ht;rw[h]at h2;injection h2 with h2;injection h2 with _ h3;rw[h3];exact hm
section
variable {w w':World} {B:Nat} {e:TypeId} {sz:Nat} {v:Value} {rows:List (List Value)} {F G:Nat->Prop}
theorem As.tou {ts:List TypeId}(h:As w B e sz v rows)(ht:Touch (Gb w ts) w w')(he:e ∉ ts):As w' B e sz v rows:=
 h.Ak ht fun k hk hf=>by
  obtain⟨C,hC⟩:=Ri h.2 k hk;exact he (P2 hC hf)
theorem As.Ik (h:As w B e sz v rows)(hi:InF F v)(ht:Touch G w w')(hd:∀k,F k->¬G k):As w' B e sz v rows:=
 h.Ak ht fun k hk=>hd k (hi k hk)
end
structure Ib (w:World) (F:Nat->Prop) (z:Aa) (d:Dd):Prop where
 bare:z.bare=d.f
 es:As w 0 126 15 (.slice z.ea z.en z.ec) (d.es.map Entry.vals)
 us:As w 0 3 1 (.slice z.ua z.un z.uc) (d.us.map Fz)
 ie:InF F (.slice z.ea z.en z.ec)
 iu:InF F (.slice z.ua z.un z.uc)
 le:d.es.length<=1000000
 lu:d.us.length<=1000000
structure P1 (w:World) (F:Nat->Prop) (x:Bz) (r:Hn):Prop where
 C3:x.C3=r.C3
 beg:x.begin_=r.beg
 fin:x.end_=r.fin
 call:x.call=r.call
 rep:Ib w F x.Il r.rep
structure M3 (w:World) (F:Nat->Prop) (v:Value) (l:List Bz) (rs:List Hn):Prop where
 row:As w 0 65 88 v (l.map Bz.vals)
 own:InF F v
 len:l.length=rs.length
 each:∀(i:Nat) (h:i<l.length) (h':i<rs.length),P1 w F l[i] rs[i]
structure Fs (w:World) (F:Nat->Prop) (A:Option Addr) (n cap:Nat) (l:List Bm):Prop where
 len:n=l.length
 fit:n<=cap
 row:At w 29 A (l.map Bm.vals)
 own:∀p,A=some p->F p.block/\∃C,w.heap[p.block]?=some (.cells C 91 (0,0))
structure ClZ (c:ClD) (z:Di):Prop where
 id:z.id=c.id
 self:z.self=c.self
 server:z.server=c.server
 ps:c.ps=[z.p0,z.p1,z.p2,z.p3]
 now:z.now=c.now
 busy:z.busy=c.busy
 sent:z.sent=c.sent
 due:z.due=c.due
 made:z.made=c.made
structure D3 (F:Nat->Prop) (w:World) (g:Nat) (c:ClD) (z:Di) (l:List Bz):Prop where
 blk:Blk w g 93 z.vals
 is:ClZ c z
 pts:Fs w F z.ta z.tn z.tc c.parts
 rcs:M3 w F (.slice z.ra z.rn z.rc) l c.recs
 fg:F g
 lt:∀k,F k->k<w.heap.size
def Ai1:List TypeId:=[93,91,65]
section
variable {w w':World} {F G:Nat->Prop}
theorem Ib.tou {z:Aa}{d:Dd}(h:Ib w F z d)(ht:Touch (Gb w Ai1) w w'):Ib w' F z d:=
 ⟨h.bare,h.es.tou ht (by decide),h.us.tou ht (by decide),h.ie,h.iu,h.le,h.lu⟩
theorem Ib.Ik {z:Aa}{d:Dd}(h:Ib w F z d)(ht:Touch G w w')(hd:∀k,F k->¬G k):Ib w' F z d:=
 ⟨h.bare,h.es.Ik h.ie ht hd,h.us.Ik h.iu ht hd,h.ie,h.iu,h.le,h.lu⟩
theorem Ib.mono {z:Aa}{d:Dd}(h:Ib w F z d)(hG:∀k,F k->G k):Ib w G z d:=
 ⟨h.bare,h.es,h.us,h.ie.mono hG,h.iu.mono hG,h.le,h.lu⟩
theorem Ib.there {z:Aa}{d:Dd}(h:Ib w F z d):(Qv.mk z d.es d.us).Kk w:=by
 obtain⟨A,c,hv,hA⟩:=h.es.at_;obtain⟨A',c',hv',hA'⟩:=h.us.at_;injection hv with h1 h2 h3;injection hv' with h1' h2' h3';subst h1 h1';have:=h.le;have:=h.lu;exact⟨by simpa using h2,by simpa using h2',by show d.es.length<=_;omega,by show d.us.length<=_;omega,hA,hA'⟩
theorem P1.tou {x:Bz}{r:Hn}(h:P1 w F x r)(ht:Touch (Gb w Ai1) w w'):P1 w' F x r:=⟨h.C3,h.beg,h.fin,h.call,h.rep.tou ht⟩
theorem P1.Ik {x:Bz}{r:Hn}(h:P1 w F x r)(ht:Touch G w w')(hd:∀k,F k->¬G k):P1 w' F x r:=⟨h.C3,h.beg,h.fin,h.call,h.rep.Ik ht hd⟩
theorem P1.mono {x:Bz}{r:Hn}(h:P1 w F x r)(hG:∀k,F k->G k):P1 w G x r:=⟨h.C3,h.beg,h.fin,h.call,h.rep.mono hG⟩
theorem Ajh {ts us:List TypeId}(h:∀t∈ts,t∈us):∀k,Gb w ts k->Gb w us k:=fun _ ⟨C,t,fr,hh,hm⟩=>⟨C,t,fr,hh,h t hm⟩
theorem Touch.less {ts us:List TypeId}(ht:Touch (Gb w ts) w w')(h:∀t∈ts,t∈us):Touch (Gb w us) w w':=ht.mono fun k _=>Ajh h k
theorem M3.tou {v:Value}{l:List Bz}{rs:List Hn}(h:M3 w F v l rs)(ht:Touch (Gb w [93,91]) w w'):M3 w' F v l rs:=
 ⟨h.row.tou ht (by decide),h.own,h.len,fun i h1 h2=>(h.each i h1 h2).tou (ht.less (by decide))⟩
theorem M3.Ik {v:Value}{l:List Bz}{rs:List Hn}(h:M3 w F v l rs)(ht:Touch G w w')(hd:∀k,F k->¬G k):M3 w' F v l rs:=
 ⟨h.row.Ik h.own ht hd,h.own,h.len,fun i h1 h2=>(h.each i h1 h2).Ik ht hd⟩
theorem M3.mono {v:Value}{l:List Bz}{rs:List Hn}(h:M3 w F v l rs)(hG:∀k,F k->G k):M3 w G v l rs:=
 ⟨h.row,h.own.mono hG,h.len,fun i h1 h2=>(h.each i h1 h2).mono hG⟩
theorem Fs.lt {A:Option Addr}{n cap:Nat}{l:List Bm}(h:Fs w F A n cap l){p:Addr}(hp:A=some p):p.block<w.heap.size:=by
 obtain⟨-,C,hC⟩:=h.own p hp;rcases Nat.lt_or_ge p.block w.heap.size with hlt|hge
 ·exact hlt
 ·rw[Array.getElem?_eq_none hge]at hC;cases hC
theorem Fs.Ak {A:Option Addr}{n cap:Nat}{l:List Bm}(h:Fs w F A n cap l)(ht:Touch G w w')(hd:∀p,A=some p->¬G p.block):Fs w' F A n cap l:=
 ⟨h.len,h.fit,h.row.Ak ht (fun b off hA=>hd _ hA),fun p hp=>by
  obtain⟨h1,C,hC⟩:=h.own p hp;exact⟨h1,C,(ht.block p.block (h.lt hp) (hd p hp)).trans hC⟩⟩
theorem Fs.tou {A:Option Addr}{n cap:Nat}{l:List Bm}(h:Fs w F A n cap l)(ht:Touch (Gb w [93,65]) w w'):Fs w' F A n cap l:=
 h.Ak ht fun p hp hf=>by
  obtain⟨-,C,hC⟩:=h.own p hp;exact absurd (P2 hC hf) (by decide)
theorem Fs.Ik {A:Option Addr}{n cap:Nat}{l:List Bm}(h:Fs w F A n cap l)(ht:Touch G w w')(hd:∀k,F k->¬G k):Fs w' F A n cap l:=
 h.Ak ht fun p hp=>hd _ (h.own p hp).1
theorem Fs.mono {A:Option Addr}{n cap:Nat}{l:List Bm}(h:Fs w F A n cap l)(hG:∀k,F k->G k):Fs w G A n cap l:=
 ⟨h.len,h.fit,h.row,fun p hp=>⟨hG _ (h.own p hp).1,(h.own p hp).2⟩⟩
theorem Fs.none_ (n c:Nat)(h:n=0):Fs w F none n c []:=⟨h,by omega,At.nil,fun p hp=>by cases hp⟩
theorem D3.Ik {g:Nat}{c:ClD}{z:Di}{l:List Bz}(h:D3 F w g c z l)(ht:Touch G w w')(hd:∀k,F k->¬G k):D3 F w' g c z l:=
 ⟨h.blk.Ak ht (hd g h.fg),h.is,h.pts.Ik ht hd,h.rcs.Ik ht hd,h.fg,fun k hk=>Nat.lt_of_lt_of_le (h.lt k hk) ht.size⟩
theorem D3.below {g:Nat}{c:ClD}{z:Di}{l:List Bz}(h:D3 F w g c z l)(hb:Below w.heap.size w w'):D3 F w' g c z l:=
 h.Ik (Touch.Aq hb (fun _=>False)) fun _ _ hf=>hf
theorem Jw {g:Nat}{t:TypeId}{cs:List Value}{ts:List TypeId}(h:Blk w g t cs)(ht:t∈ts):Gb w ts g:=⟨_,_,_,h,ht⟩
theorem D3.own {g:Nat}{c c':ClD}{z z':Di}{l:List Bz}(h:D3 F w g c z l)(ht:Touch (fun k=>k=g) w w')(hB:Blk w' g 93 z'.vals)(hz:ClZ c' z')
  (h1:z'.ta=z.ta) (h2:z'.tn=z.tn) (h2c:z'.tc=z.tc) (h3:c'.parts=c.parts) (h4:z'.ra=z.ra) (h5:z'.rn=z.rn) (h6:z'.rc=z.rc) (h7:c'.recs=c.recs):D3 F w' g c' z' l:=by
 have hty:Touch (Gb w [93]) w w':=ht.mono fun k _ hk=>by subst hk;exact Jw h.blk (by decide)
 refine⟨hB,hz,?_,?_,h.fg,fun k hk=>Nat.lt_of_lt_of_le (h.lt k hk) ht.size⟩
 ·rw[h1,h2,h2c,h3]
  exact h.pts.tou (hty.less (by decide))
 ·rw[h4,h5,h6,h7]
  exact h.rcs.tou (hty.less (by decide))
end
end
structure Og (d:Dd):Prop where
 le:d.es.length<=64
 lu:d.us.length<=16
 obj:d.f.obj.attr.gen<=9223372036854775807
 gens:∀x∈d.es,x.gen<=9223372036854775807
theorem T6 (r:Rs):∀k,(B8 r k).1.length=k
 |0=>rfl
 |k+1=>by rw[B8,List.length_append,T6 r k];rfl
theorem Qm (b:Bool)(r:Rs):∀k,(Bd b r k).1.length=k
 |0=>rfl
 |k+1=>by rw[Bd,List.length_append,Qm b r k];rfl
theorem Amz (b:Bool)(r:Rs):(Hq b r).1.gen<=9223372036854775807:=by
 unfold Hq;split<;>exact Ape r
theorem Tq (b:Bool)(r:Rs):∀k,∀x∈(Bd b r k).1,x.gen<=9223372036854775807
 |0,x,h=>by cases h
 |k+1,x,h=>by
  rw[Bd]at h;rcases List.mem_append.1 h with h|h
  ·exact Tq b r k x h
  ·rw[List.mem_singleton]at h
   subst h;exact Amz b _
theorem Ol {n:Int}(h:(Lit.int .i64 n).wf=true):n<=9223372036854775807:=by
 unfold Lit.wf at h;simp only[Bool.and_eq_true,decide_eq_true_eq]at h;exact h.2
theorem Anl {r:Rs}(h:r.s.length<=9223372036854775807):(Cf Ah.ok Bb (Bh r)).1.attr.gen<=9223372036854775807:=by
 have hg:(Bh r).1.attr.gen<=9223372036854775807:=Ol (Li h).2.2.2.2.2.2.2.1;unfold Cf;split
 ·show (0:Int)<=_;decide
 ·split
  ·exact hg
  ·show (0:Int)<=_;decide
theorem Akh {c:Nat}{d:Dd}{r:Rs}(hk:Qr c r=true)(hr:r.s.length<=9223372036854775807)(h:Og d):Og (pTk c d r).1:=by
 by_cases h1:c=97
 ·subst h1
  exact⟨h.le,h.lu,Anl hr,h.gens⟩
 by_cases h2:c=110
 ·subst h2
  have hk2:(decide ((Am r).1<=16) && ((B8 (Am r).2 (Am r).1).2.e==0))=true:=hk;simp only[Bool.and_eq_true,decide_eq_true_eq]at hk2;exact⟨h.le,(T6 _ _).symm ▸ hk2.1,h.obj,h.gens⟩
 by_cases h3:c=108
 ·subst h3
  have hk2:(decide ((Am r).1<=64) && (((Am r).2.e==0) && (List.range (Am r).1).all fun i=>E7 false (Bd false (Am r).2 i).2))=true:=hk;rw[Bool.and_eq_true,decide_eq_true_eq]at hk2;exact⟨(Qm _ _ _).symm ▸ hk2.1,h.lu,h.obj,Tq _ _ _⟩
 by_cases h4:c=112
 ·subst h4
  have hk2:(decide ((Am r).1<=64) && (((Am r).2.e==0) && (List.range (Am r).1).all fun i=>E7 true (Bd true (Am r).2 i).2))=true:=hk;rw[Bool.and_eq_true,decide_eq_true_eq]at hk2;exact⟨(Qm _ _ _).symm ▸ hk2.1,h.lu,h.obj,Tq _ _ _⟩
 have he:(pTk c d r).1.es=d.es/\(pTk c d r).1.us=d.us/\(pTk c d r).1.f.obj=d.f.obj:=by
  rcases Decidable.em (c=104) with rfl|q1
  ·exact⟨rfl,rfl,rfl⟩
  rcases Decidable.em (c=68) with rfl|q2
  ·exact⟨rfl,rfl,rfl⟩
  rcases Decidable.em (c=119) with rfl|q3
  ·exact⟨rfl,rfl,rfl⟩
  rcases Decidable.em (c=87) with rfl|q4
  ·exact⟨rfl,rfl,rfl⟩
  rcases Decidable.em (c=120) with rfl|q5
  ·exact⟨rfl,rfl,rfl⟩
  rcases Decidable.em (c=99) with rfl|q6
  ·exact⟨rfl,rfl,rfl⟩
  rcases Decidable.em (c=115) with rfl|q7
  ·exact⟨rfl,rfl,rfl⟩
  rcases Decidable.em (c=118) with rfl|q8
  ·exact⟨rfl,rfl,rfl⟩
  rcases Decidable.em (c=101) with rfl|q9
  ·exact⟨rfl,rfl,rfl⟩
  rcases Decidable.em (c=100) with rfl|q10
  ·exact⟨rfl,rfl,rfl⟩
  unfold pTk;rw[if_neg q1,if_neg h1,if_neg q2,if_neg q3,if_neg q4,if_neg q5,if_neg q6,if_neg q7,if_neg q8,if_neg q9,if_neg q10,if_neg h2,if_neg h3,if_neg h4];exact⟨rfl,rfl,rfl⟩
 exact⟨he.1 ▸ h.le,he.2.1 ▸ h.lu,he.2.2 ▸ h.obj,he.1 ▸ h.gens⟩
theorem Aa0 {l:List UInt8}{d:Dd}{r:Rs}(hr:r.s.length<=9223372036854775807)(h:Og d)(hok:∀k,k<l.length->Nv l d r k=true):∀k,k<=l.length->Og (pSt l d r k).1
 |0,_=>h
 |k+1,hk=>by
  rw[Ps l d r k hk];refine Akh ?_ (Xp l d hr k (by omega)) (Aa0 hr h hok k (by omega))
  have:=hok k hk;unfold Nv at this
  rwa [List.getD_eq_getElem?_getD,List.getElem?_eq_getElem hk]at this
theorem Nw {p:Int}{s:List UInt8}{d:Dd}(hs:s.length<=9223372036854775807)(h:Ok p s=some d):Og d:=by
 have hl4:=Nat.le_trans (Em (r:=⟨s,0⟩) hs) hs;unfold Ok at h;generalize Am ⟨s,0⟩=y at *;obtain⟨n,q⟩:=y;simp only at *
 split at h
 ·cases h
 ·split at h
  ·next h2=>
   have hd:=Option.some.inj h;rw[<-hd];exact Aa0 hl4 ⟨Nat.zero_le _,Nat.zero_le _,by show (0:Int)<=_;decide,fun x hx=>by cases hx⟩ h2.1 _ (Nat.le_refl _)
  ·cases h
structure Hk (x:Call):Prop where
 offset:x.offset<=9223372036854775807
 cookie:x.cookie<=9223372036854775807
 verf:x.verf<=9223372036854775807
 set:x.set.C9
 guard:x.guard.n<=9223372036854775807
theorem Call.C9.g {x:Call}(h:x.C9):Hk x:=by
 obtain⟨-,-,-,-,-,h1,-,-,-,h2,h3,h4,h5,-⟩:=h;exact⟨Ol h1,Ol h4,Ol h5,h2,Ol h3⟩
theorem By:Hk Aw:=⟨by decide,by decide,by decide,⟨rfl,rfl,rfl,rfl,rfl⟩,by decide⟩
structure Abs (p:Bm):Prop where
 call:Hk p.c
 proc:0<=p.c.proc/\p.c.proc<=21
 dir:0<=p.dir/\p.dir<4
 to_:0<=p.to_/\p.to_<4
 put:p.put=-1\/(0<=p.put/\p.put<4)
structure U9 (p:Hl):Prop where
 gen:p.gen<=9223372036854775807
 at_:0<=p.at_/\p.at_<=9223372036854775807
 bytes:p.bytes.length<=256
structure Ds (c:ClD):Prop where
 len:c.ps.length=4
 ps:∀p∈c.ps,U9 p
 parts:∀p∈c.parts,Abs p
 now:c.busy=true->Abs c.now
 made:c.made=c.recs.length
theorem Ds.new (id self server:Int)(root:List UInt8):Ds (Wz id self server root):=
 ⟨rfl,fun p hp=>by
  obtain⟨-,rfl⟩:=List.mem_replicate.1 hp;exact⟨by show (1:Int)<=_;decide,⟨by show (0:Int)<=0;decide,by show (0:Int)<=_;decide⟩,Nat.zero_le _⟩,fun p hp=>(by cases hp),fun h=>(by cases h),rfl⟩
theorem Ds.at_ {c:ClD}(h:Ds c)(i:Int):U9 (c.at_ i):=by
 unfold ClD.at_;rw[List.getD_eq_getElem?_getD];cases hi:c.ps[i.toNat]? with
 |none=>exact⟨by show (0:Int)<=_;decide,⟨by show (0:Int)<=0;decide,by show (0:Int)<=_;decide⟩,Nat.zero_le _⟩
 |some p=>exact h.ps p (List.mem_of_getElem? hi)
theorem Ds.Kv {c:ClD}(h:Ds c)(i:Int){p:Hl}(hp:U9 p):Ds (c.Kv i p):=
 ⟨by show (c.ps.set _ _).length=4;rw[List.length_set];exact h.len,fun q hq=>by
  rcases List.mem_or_eq_of_mem_set hq with hq|rfl
  ·exact h.ps q hq
  ·exact hp,h.parts,h.now,h.made⟩
theorem U0 {c:ClD}(h:Ds c)(step now:Int):Ds (c.next step now).1:=by
 unfold ClD.next;cases hp:c.parts with
 |nil=>exact h
 |cons p l=>exact⟨h.len,h.ps,fun q hq=>h.parts q (by rw[hp];exact List.mem_cons_of_mem _ hq),fun _=>h.parts p (by rw[hp];exact List.mem_cons_self),by
   show c.made+1=((c.recs++[_]).length:Nat)
   rw[h.made,List.length_append];simp⟩
theorem Acy {c:ClD}(h:Ds c){i:Int}(hi:0<=i/\i<4):Ds (c.ahead i).1/\∀p∈(c.ahead i).2,Abs p:=by
 unfold ClD.ahead;split
 ·exact⟨h,fun p hp=>(by cases hp)⟩
 ·refine⟨h.Kv i ⟨(h.at_ i).gen,⟨by show (0:Int)<=0;decide,by show (0:Int)<=_;decide⟩,Nat.zero_le _⟩,fun p hp=>?_⟩
  rw[List.mem_singleton]at hp;subst hp;exact⟨⟨(h.at_ i).at_.2,By.cookie,By.verf,By.set,By.guard⟩,⟨by show (0:Int)<=7;decide,by show (7:Int)<=21;decide⟩,hi,⟨by show (0:Int)<=0;decide,by show (0:Int)<4;decide⟩,.inl rfl⟩
theorem Zg {o:Int}{t:List UInt8}(h:Ev { Aw with proc:=7,offset:=o,data:=t,how:=2 }=0):0<=o/\t.length<=256:=by
 unfold Ev at h;rw[if_neg (by show ¬Ij 7=false;decide)]at h;split at h
 ·next h1=>
  have h2:(decide (([]:List UInt8).length<=64) && (decide (0<=o) && ((decide ((0:Int)<=2) && decide ((2:Int)<=4294967295)) && (decide (t.length<=256) && true))))=true:=h1.1;simp only[Bool.and_eq_true,decide_eq_true_eq]at h2;exact⟨h2.2.1,h2.2.2.2.1⟩
 ·cases h
theorem Alj {x:Call}(h:Ev x=0):0<=x.proc/\x.proc<=21:=by
 unfold Ev at h;split at h
 ·cases h
 ·next h1=>
  simp only[Ij,Bool.not_eq_false,Bool.and_eq_true,decide_eq_true_eq]at h1;exact h1
theorem Af0 {a:Ask}(h:Hk a.call):Hk (Bq a).1:=by
 unfold Bq
 repeat' split
 ·exact⟨By.offset,By.cookie,By.verf,By.set,By.guard⟩
 ·exact⟨h.offset,By.cookie,By.verf,By.set,By.guard⟩
 ·exact⟨h.offset,By.cookie,By.verf,By.set,By.guard⟩
 ·exact⟨By.offset,By.cookie,By.verf,By.set,By.guard⟩
 ·exact⟨h.offset,h.cookie,h.verf,h.set,h.guard⟩
 ·exact⟨By.offset,By.cookie,By.verf,By.set,By.guard⟩
theorem Dw {i:Int}(h:Dr i=true):0<=i/\i<4:=by simpa[Dr] using h
theorem Aai:(0:Int)<=0/\(0:Int)<4:=by decide
theorem Arp {c:ClD}(h:Ds c){a:Ask}(ha:Hk a.call){step now:Int}(hm:Pe a step now=true):Ds (c.Gu a (Bq a).1).1/\∀p∈(c.Gu a (Bq a).1).2,Abs p:=by
 have hg:=Af0 ha;simp only[Pe,Bool.and_eq_true,decide_eq_true_eq]at hm;obtain⟨⟨⟨⟨⟨hk,-⟩,-⟩,hpl⟩,-⟩,hck⟩:=hm;have hpr:=Alj hck;have g1:Abs ⟨{ Aw with proc:=1 },0,0,-1,0,0⟩:=⟨By.1 |> fun h=>⟨h,By.2,By.3,By.4,By.5⟩,by show (0:Int)<=1/\(1:Int)<=21;decide,Aai,Aai,.inl rfl⟩;by_cases k1:a.kind=1
 ·rw[show (Bq a).2.1=[a.dir,a.var] by unfold Bq;rw[if_pos k1]]at hpl
  simp only[List.all_cons,List.all_nil,Bool.and_eq_true,Bool.and_true]at hpl;obtain⟨hd,hv⟩:=Acy h (Dw hpl.2);unfold ClD.Gu;rw[if_pos k1];refine⟨hd,fun p hp=>?_⟩
  rcases List.mem_append.1 hp with hp|hp
  ·exact hv p hp
  ·simp only[List.mem_cons,List.not_mem_nil,or_false]at hp
   rcases hp with rfl|rfl|rfl
   ·exact⟨g1.call,g1.proc,Dw hpl.1,Aai,.inl rfl⟩
   ·exact⟨hg,hpr,Dw hpl.1,Aai,.inr (Dw hpl.2)⟩
   ·exact⟨g1.call,g1.proc,Dw hpl.2,Aai,.inl rfl⟩
 by_cases k3:a.kind=3
 ·have ea:Bq a=({ Aw with proc:=7,offset:=a.call.offset,data:=a.call.data,how:=2 },[a.var],true):=by unfold Bq;rw[if_neg k1,if_neg (by omega),if_pos k3]
  rw[ea]at hck hpl hg ⊢;simp only[List.all_cons,List.all_nil,Bool.and_true]at hpl;have hw:=Zg hck;obtain⟨hd,hv⟩:=Acy h (Dw hpl);have hg':=hg.offset;simp only at hg'
  have hp2:U9 { c.at_ a.var with at_:=a.call.offset,bytes:=a.call.data }:=⟨(h.at_ _).gen,⟨hw.1,hg'⟩,hw.2⟩;unfold ClD.Gu;rw[if_neg k1,if_pos k3];unfold ClD.late;split
  ·exact⟨h,fun p hp=>(by cases hp)⟩
  ·split
   ·next hc=>
    refine⟨h.Kv _ ⟨(h.at_ _).gen,(h.at_ _).at_,?_⟩,fun p hp=>by cases hp⟩
    show (_++_:List UInt8).length<=256
    rw[List.length_append];exact hc.2.2
   ·exact⟨hd.Kv _ hp2,hv⟩
 by_cases k5:a.kind=5
 ·have ea:Bq a=({ a.call with fh:=[],fh2:=[] },[a.dir,a.to_,a.var],true):=by unfold Bq;rw[if_neg k1,if_neg (by omega),if_neg k3,if_neg (by omega),if_pos k5]
  rw[ea]at hpl hg hpr ⊢;simp only[List.all_cons,List.all_nil,Bool.and_eq_true,Bool.and_true]at hpl;obtain⟨hd,hv⟩:=Acy h (Dw hpl.2.2);unfold ClD.Gu;rw[if_neg k1,if_neg k3,if_pos k5];split
  ·refine⟨hd,fun p hp=>?_⟩
   rcases List.mem_append.1 hp with hp|hp
   ·exact hv p hp
   ·rw[List.mem_singleton]at hp
    subst hp;exact⟨hg,hpr,Dw hpl.1,Dw hpl.2.1,.inr (Dw hpl.2.2)⟩
  ·refine⟨h,fun p hp=>?_⟩
   rw[List.mem_singleton]at hp;subst hp;exact⟨hg,hpr,Dw hpl.1,Dw hpl.2.1,.inl rfl⟩
 ·have hvar:Dr a.var=true:=by
   unfold Bq at hpl hk;rw[if_neg k1]at hpl hk;by_cases k2:a.kind=2
   ·rw[if_pos k2]at hpl
    simpa using hpl
   ·rw[if_neg k2,if_neg k3]at hpl hk
    by_cases k4:a.kind=4
    ·rw[if_pos k4]at hpl
     simpa using hpl
    ·rw[if_neg k4,if_neg k5]at hk
     cases hk
  obtain⟨hd,hv⟩:=Acy h (Dw hvar);unfold ClD.Gu;rw[if_neg k1,if_neg k3,if_neg k5];refine⟨hd,fun p hp=>?_⟩
  rcases List.mem_append.1 hp with hp|hp
  ·exact hv p hp
  ·rw[List.mem_singleton]at hp
   subst hp;exact⟨hg,hpr,Dw hvar,Aai,.inl rfl⟩
theorem Zr {c:ClD}(h:Ds c){a:Ask}(ha:Hk a.call)(step now:Int):Ds (c.ask a step now).1:=by
 unfold ClD.ask;split
 ·exact h
 ·rename_i hb
  split
  ·exact h
  ·rename_i hm
   obtain⟨h1,h2⟩:=Arp h ha (by simpa using hm) (step:=step) (now:=now);refine U0 (c:={ (c.Gu a (Bq a).1).1 with parts:=(c.Gu a (Bq a).1).2.map fun p=>{ p with uid:=a.uid,gid:=a.gid } }) ⟨h1.len,h1.ps,fun p hp=>?_,h1.now,h1.made⟩ step now
   obtain⟨q,hq,rfl⟩:=List.mem_map.1 hp;exact⟨(h2 q hq).call,(h2 q hq).proc,(h2 q hq).dir,(h2 q hq).to_,(h2 q hq).put⟩
theorem Iz (l:List Hn)(step:Int)(d:Dd):(Dp l step d).length=l.length:=by
 rcases List.eq_nil_or_concat l with rfl|⟨m,r,rfl⟩
 ·rfl
 ·simp[Dp]
theorem Ajm {c:ClD}(h:Ds c){x:B3}(hx:(Dc x.data).1.body.length<=9223372036854775807)(step now:Int):Ds (c.take x step now).1:=by
 unfold ClD.take;split
 ·exact h
 ·split
  ·exact h
  ·split
   ·exact h
   ·rename_i d hd
    have hs:=Nw hx hd;have h1:Ds { c with recs:=Dp c.recs step (Km d),busy:=false }:=⟨h.len,h.ps,h.parts,fun h=>(by cases h),by rw[Iz];exact h.made⟩;simp only
    split
    ·exact⟨h1.len,h1.ps,fun p hp=>(by cases hp),fun h=>(by cases h),h1.made⟩
    ·split
     ·exact U0 (h1.Kv c.now.put (p:={ c.at_ c.now.put with handle:=d.f.fh,gen:=d.f.obj.attr.gen }) ⟨hs.obj,(h.at_ _).at_,(h.at_ _).bytes⟩) _ _
     ·exact U0 h1 _ _
theorem Uz (c:ClD)(step now:Int):(c.next step now).1.recs.length<=c.recs.length+1:=by
 unfold ClD.next;cases hp:c.parts with
 |nil=>exact Nat.le_succ _
 |cons p l=>simp
theorem Aon (c:ClD)(a:Ask)(step now:Int):(c.ask a step now).1.recs.length<=c.recs.length+1:=by
 unfold ClD.ask;split
 ·exact Nat.le_succ _
 ·split
  ·exact Nat.le_succ _
  ·have e:(c.Gu a (Bq a).1).1.recs=c.recs:=by
    unfold ClD.Gu ClD.late ClD.ahead
    repeat' split
    all_goals rfl
   refine Nat.le_trans (Uz _ step now) ?_
   show (c.Gu a (Bq a).1).1.recs.length+1<=_
   rw[e];exact Nat.le_refl _
theorem Ajl (c:ClD)(x:B3)(step now:Int):(c.take x step now).1.recs.length<=c.recs.length+1:=by
 unfold ClD.take;split
 ·exact Nat.le_succ _
 ·split
  ·exact Nat.le_succ _
  ·split
   ·exact Nat.le_succ _
   ·rename_i d hd
    have e:=Iz c.recs step (Km d);simp only
    split
    ·show (Dp c.recs step (Km d)).length<=_
     omega
    ·split
     ·refine Nat.le_trans (Uz _ step now) ?_
      show (Dp c.recs step (Km d)).length+1<=_
      omega
     ·refine Nat.le_trans (Uz _ step now) ?_
      show (Dp c.recs step (Km d)).length+1<=_
      omega
def Di.place (z:Di):Nat->Hl
 |0=>z.p0
 |1=>z.p1
 |2=>z.p2
 |_=>z.p3
def Di.Cq (z:Di)(n:Nat)(p:Hl):Di:=match n with
 |0=>{ z with p0:=p }
 |1=>{ z with p1:=p }
 |2=>{ z with p2:=p }
 |_=>{ z with p3:=p }
theorem ClZ.at_ {c:ClD}{z:Di}(h:ClZ c z){n:Nat}(hn:n<4):c.at_ (n:Int)=z.place n:=by
 unfold ClD.at_;rw[h.ps,Int.toNat_natCast];rcases (show n=0\/n=1\/n=2\/n=3 by omega) with rfl|rfl|rfl|rfl
 all_goals exact rfl
theorem Hm (z:Di){n:Nat}(hn:n<4):z.vals[3+n*4]?=some (.string (bs (z.place n).handle))/\z.vals[3+n*4+1]?=some (.int .i64 (z.place n).gen)/\z.vals[3+n*4+2]?=some (.int .i64 (z.place n).at_)/\z.vals[3+n*4+3]?=some (.string (bs (z.place n).bytes)):=by
 rcases (show n=0\/n=1\/n=2\/n=3 by omega) with rfl|rfl|rfl|rfl
 all_goals exact⟨rfl,rfl,rfl,rfl⟩
theorem ClZ.Cq {c:ClD}{z:Di}(h:ClZ c z){n:Nat}(hn:n<4)(p:Hl):ClZ (c.Kv (n:Int) p) (z.Cq n p):=by
 obtain⟨h1,h2,h3,h4,h5,h6,h7,h8,h9⟩:=h;rcases (show n=0\/n=1\/n=2\/n=3 by omega) with rfl|rfl|rfl|rfl
 all_goals exact⟨h1,h2,h3,by unfold ClD.Kv;rw[h4];rfl,h5,h6,h7,h8,h9⟩
theorem Rg (z:Di){n:Nat}(hn:n<4)(a:Int)(b:List UInt8):(z.vals.set (3+n*4+2) (.int .i64 a)).set (3+n*4+3) (.string (bs b))=(z.Cq n { z.place n with at_:=a,bytes:=b }).vals:=by
 rcases (show n=0\/n=1\/n=2\/n=3 by omega) with rfl|rfl|rfl|rfl
 all_goals exact rfl
theorem Xi (z:Di){n:Nat}(hn:n<4)(b:List UInt8):z.vals.set (3+n*4+3) (.string (bs b))=(z.Cq n { z.place n with bytes:=b }).vals:=by
 rcases (show n=0\/n=1\/n=2\/n=3 by omega) with rfl|rfl|rfl|rfl
 all_goals exact rfl
theorem Uv (z:Di){n:Nat}(hn:n<4)(h:List UInt8)(k:Int):(z.vals.set (3+n*4) (.string (bs h))).set (3+n*4+1) (.int .i64 k)=(z.Cq n { z.place n with handle:=h,gen:=k }).vals:=by
 rcases (show n=0\/n=1\/n=2\/n=3 by omega) with rfl|rfl|rfl|rfl
 all_goals exact rfl
theorem Kr (z:Di){n:Nat}(hn:n<4)(p:Hl):(z.Cq n p).ta=z.ta/\(z.Cq n p).tn=z.tn/\(z.Cq n p).tc=z.tc/\(z.Cq n p).ra=z.ra/\(z.Cq n p).rn=z.rn/\(z.Cq n p).rc=z.rc:=by
 rcases (show n=0\/n=1\/n=2\/n=3 by omega) with rfl|rfl|rfl|rfl
 all_goals exact⟨rfl,rfl,rfl,rfl,rfl,rfl⟩
theorem Vb (n:Int)(w:World):Calls Tryz.prog 34 #[.int .i64 n] w fun e w'=>e=.returned (.bool (Fo n))/\w'=w:=by
 go_enter Tryz.func34,Tryz.ntmps34
 go_wp2
 all_goals (go_ret;go_light;exact⟨A5 (by unfold Fo;grind),rfl⟩)
theorem Zl (n:Int)(w:World):Calls Tryz.prog 83 #[.int .i64 n] w fun e w'=>e=.returned (.bool (Rx n))/\w'=w:=by
 go_enter Tryz.func83,Tryz.ntmps83
 go_wp2
 all_goals (go_ret;go_light;exact⟨A5 (by unfold Rx;grind),rfl⟩)
theorem Ty (n:Int)(w:World):Calls Tryz.prog 75 #[.int .i64 n] w fun e w'=>e=.returned (.bool (!Dr n))/\w'=w:=by
 go_enter Tryz.func75,Tryz.ntmps75
 go_wp2
 all_goals (go_ret;go_light;exact⟨A5 (by unfold Dr;grind),rfl⟩)
theorem Aor {p:Int->Bool}{l:List Int}{k:Nat}(hk:k<l.length)(h:(l.take k).all p=true)(hp:p l[k]=true):(l.take (k+1)).all p=true:=by
 rw[List.take_add_one,List.getElem?_eq_getElem hk,List.all_append,h];simp[hp]
theorem Aop {p:Int->Bool}{l:List Int}{k:Nat}(hk:k<l.length)(hp:p l[k]=false):l.all p=false:=by
 rw[List.all_eq_false];exact⟨_,List.getElem_mem hk,by simp[hp]⟩
theorem Abw (A:Option Addr)(c:Nat)(l:List Int)(w:World)(hl:l.length<=1000)(hA:At w 1 A (l.map Fz)) :
  Calls Tryz.prog 118 #[.slice A l.length c,.func (.func 75) #[] #[]] w fun e w'=>(∃r:Int,e=.returned (.int .i64 r)/\decide (0<=r)=!(l.all Dr))/\w'=w:=by
 have hcf:∀args W,(callFunc 75 args).run Tryz.prog W=.ok (.enter 75 args) W:=fun args W=>by kernel_rfl
 go_enter Tryz.func118,Tryz.ntmps118
 go_wp2
 go_loopw [8] (fun i wr=>∃k:Nat,k<=l.length/\i=.int .i64 k/\(l.take k).all Dr=true/\wr=w) (fun i _=>l.length - (intOf i).toNat)
 case atStart=>exact⟨0,Nat.zero_le _,rfl,rfl,rfl⟩
 case round=>
  obtain⟨k,hk,rfl,hn,rfl⟩:=hrel;have HN:=Zh hn;clear hn;by_cases hlt:k<l.length
  ·obtain⟨b1,o1,rfl,hb1,-,c1⟩:=Hw (vals:=Fz) (sz:=1) (fun _=>rfl) (by omega) hA hlt
   have c1:=c1 0 (.int .i64 l[k]) rfl;rw[Nat.add_zero,Nat.mul_one]at c1;have hk0:(0:Int)<=(k:Int):=Int.natCast_nonneg _;have hk1:(k:Int)<(l.length:Int):=by omega
   by_cases hp:Dr l[k]=true
   ·have HS:=Zh (Aor hlt HN.out hp)
    clear HN hA;generalize l[k]=x at *;go_wp2_with fail;refine(Ty x _).mono ?_
    rintro e w1 ⟨rfl,rfl⟩;rw[hp];clear hp;go_wp2;go_roundw
    case rel=>exact⟨k+1,by omega,by go_num,HS.out,by first|rfl|trivial⟩
    case measure=>simp[intOf];omega
   ·rw[Bool.not_eq_true]at hp
    have HS:=Zh (Aop hlt hp);clear HN hA;generalize l[k]=x at *;go_wp2_with fail;refine(Ty x _).mono ?_
    rintro e w1 ⟨rfl,rfl⟩;rw[hp];clear hp;go_wp2;go_ret;exact⟨⟨_,rfl,by rw[HS.out];simp⟩,rfl⟩
  ·have HS:=Zh (show l.all Dr=true by have:=HN.out;rwa [List.take_of_length_le (by omega)]at this)
   clear HN hA;go_wp2;go_ret;exact⟨⟨_,rfl,by rw[HS.out];rfl⟩,rfl⟩
theorem Ada (A:Option Addr)(c:Nat)(l:List Int)(w:World)(hl:l.length<=1000)(hA:At w 1 A (l.map Fz)) :
  Calls Tryz.prog 35 #[.slice A l.length c] w fun e w'=>e=.returned (.bool (l.all Dr))/\w'=w:=by
 have K:Calls Tryz.prog 74 #[.slice A l.length c,.func (.func 75) #[] #[]] w fun e w'=>e=.returned (.bool (!(l.all Dr)))/\w'=w:=by
  go_enter Tryz.func74,Tryz.ntmps74
  go_wp2_with fail;refine(Abw A c l w hl hA).mono ?_
  rintro e w1 ⟨⟨r,rfl,hr⟩,rfl⟩;have HR:=Zh hr;clear hr;go_wp2;go_ret;exact⟨A5 (by rw[<-HR.out]),rfl⟩
 have K:=Zh K;go_enter Tryz.func35,Tryz.ntmps35
 go_wp2_with fail;refine K.out.mono ?_
 rintro e w1 ⟨rfl,rfl⟩;go_wp2;go_ret;exact⟨A5 (by simp),rfl⟩
def Va (x:Entry):Entry:=if x.fh=[] then x else { x with fh:=Ef x.gen }
def Om (k:Nat)(l:List Entry):List Entry:=(l.take k).map Va++l.drop k
theorem Agc (l:List Entry):Om 0 l=l:=by simp[Om]
theorem Ajj (l:List Entry):Om l.length l=l.map Va:=by simp[Om]
theorem Aak (k:Nat)(l:List Entry):(Om k l).length=l.length:=by
 simp only[Om,List.length_append,List.length_map,List.length_take,List.length_drop];omega
theorem S7 {k:Nat}{l:List Entry}(h:k<l.length):Om k l=(l.take k).map Va++l[k]::l.drop (k+1):=by
 rw[<-List.drop_eq_getElem_cons h];rfl
theorem Xx {k:Nat}{l:List Entry}(h:k<l.length):Om (k+1) l=(l.take k).map Va++Va l[k]::l.drop (k+1):=by
 unfold Om;rw[<-List.take_append_getElem h,List.map_append,List.append_assoc];rfl
theorem Al4 {x:Entry}(h:x.fh=[]):Va x=x:=if_pos h
theorem Ajk {x:Entry}(h:x.fh≠[]):Va x={ x with fh:=Ef x.gen }:=if_neg h
def Ade (b:UInt8):List Value:=[.int .i32 b.toNat]
theorem Ajw (p:Int):Conv.runesFrom (bs (Al p)) (bs (Al p)).size 0 #[]=((Al p).map fun b=>Value.int .i32 b.toNat).toArray:=by
 rcases Fv p with hlo|hhi|rfl|rfl|rfl|rfl|rfl|rfl|rfl|rfl|rfl|rfl|rfl|rfl|rfl|rfl|rfl|rfl|rfl|rfl|rfl|rfl|rfl|rfl
 ·rw[Jc hlo];kernel_rfl
 ·rw[Hu hhi];kernel_rfl
 all_goals kernel_rfl
theorem Apb (p:Int)(W:World):∃b c V,(convert 9 192 (.string (bs (Al p)))).run Tryz.prog W=.ok (.slice (some ⟨b,0,none⟩) (Al p).length c) V/\At V 1 (some ⟨b,0,none⟩) ((Al p).map Ade)/\Below W.heap.size W V:=by
 have hr:=Ajw p;have hlen:(Al p).length<=100:=by
  rcases Fv p with hlo|hhi|rfl|rfl|rfl|rfl|rfl|rfl|rfl|rfl|rfl|rfl|rfl|rfl|rfl|rfl|rfl|rfl|rfl|rfl|rfl|rfl|rfl|rfl
  ·rw[Jc hlo];decide
  ·rw[Hu hhi];decide
  all_goals decide
 generalize Al p=l at *;have h:=run_runes_of_string (P:=Tryz.prog) W 9 192 21 (bs l) Tryz.underlying9 Tryz.underlying192 Tryz.underlying21 (by rw[hr];simp;omega);rw[hr]at h;simp only[List.size_toArray,List.length_map]at h;refine⟨_,_,_,h,?_,(Below.refl _ _).drew.alloc (Nat.le_refl _) _⟩
 intro i r hi;rw[List.getElem?_map]at hi;cases hli:l[i]? with
 |none=>rw[hli]at hi;cases hi
 |some x=>
  rw[hli]at hi;have hi2:Ade x=r:=Option.some.inj hi;subst hi2;refine⟨_,_,rfl,by simp,fun j u hj=>?_⟩
  have hj0:j=0:=by
   cases j with
   |zero=>rfl
   |succ j=>cases hj
  subst hj0;have hu:Value.int .i32 x.toNat=u:=Option.some.inj hj;subst hu;have hlt:=(List.getElem?_eq_some_iff.1 hli).1;have hdr:W.heap.size=W.drew.heap.size:=rfl;rw[show (⟨W.heap.size,0+i*1+0,none⟩:Addr)=⟨W.drew.heap.size,i,none⟩ by rw[<-hdr];simp];rw[World.cell?_alloc_at _ _ _ _ rfl];rw[Array.getElem?_append_left (by simpa using hlt)];simp[hli]
theorem Ahf {b:UInt8}{l:List UInt8}{k:Nat}(hk:k<l.length)(h:(l.take k).contains b=false)(hp:l[k]≠b):(l.take (k+1)).contains b=false:=by
 rw[List.take_add_one,List.getElem?_eq_getElem hk];simp only[List.contains_eq_mem,decide_eq_false_iff_not,List.mem_append]at h ⊢;simp only[Option.toList_some,List.mem_singleton];rintro (h2|h2)
 ·exact h h2
 ·exact hp h2.symm
def inU (l:List UInt8)(b:UInt8):Bool:=l.contains b
theorem Aek (b:Nat)(hb:b<256)(A:Option Addr)(c:Nat)(l:List UInt8)(w:World)(hl:l.length<=1000)(hA:At w 1 A (l.map Ade)) :
  Calls Tryz.prog 158 #[.slice A l.length c,.int .i32 b] w fun e w'=>(∃r:Int,e=.returned (.int .i64 r)/\decide (0<=r)=inU l (UInt8.ofNat b))/\w'=w:=by
 go_enter Tryz.func158,Tryz.ntmps158
 go_wp2
 go_loopw [8] (fun i wr=>∃k:Nat,k<=l.length/\i=.int .i64 k/\inU (l.take k) (UInt8.ofNat b)=false/\wr=w) (fun i _=>l.length - (intOf i).toNat)
 case atStart=>exact⟨0,Nat.zero_le _,rfl,rfl,rfl⟩
 case round=>
  obtain⟨k,hk,rfl,hn,rfl⟩:=hrel;have HN:=Zh hn;clear hn;by_cases hlt:k<l.length
  ·obtain⟨b1,o1,rfl,hb1,-,c1⟩:=Hw (vals:=Ade) (sz:=1) (fun _=>rfl) (by omega) hA hlt
   have c1:=c1 0 (.int .i32 l[k].toNat) rfl;rw[Nat.add_zero,Nat.mul_one]at c1;have hk0:(0:Int)<=(k:Int):=Int.natCast_nonneg _;have hk1:(k:Int)<(l.length:Int):=by omega
   by_cases hp:l[k]=UInt8.ofNat b
   ·have HS:=Zh (show inU l (UInt8.ofNat b)=true by unfold inU;rw[<-hp];simp)
    have he:((b:Int)==(l[k].toNat:Int))=true:=by rw[hp];simp[Nat.mod_eq_of_lt hb]
    clear HN hA hp;generalize l[k].toNat=x at *;go_wp2;go_ret;exact⟨⟨_,rfl,by rw[HS.out];simp⟩,rfl⟩
   ·have HS:=Zh (show inU (l.take (k+1)) (UInt8.ofNat b)=false from Ahf hlt HN.out hp)
    have he:((b:Int)==(l[k].toNat:Int))=false:=by
     simp only[beq_eq_false_iff_ne,ne_eq,Int.natCast_inj];intro h;exact hp (by rw[h];simp)
    clear HN hA hp;generalize l[k].toNat=x at *;go_wp2;go_roundw
    case rel=>exact⟨k+1,by omega,by go_num,HS.out,by first|rfl|trivial⟩
    case measure=>simp[intOf];omega
  ·have HS:=Zh (show inU l (UInt8.ofNat b)=false by have:=HN.out;rwa [List.take_of_length_le (by omega)]at this)
   clear HN hA;go_wp2;go_ret;exact⟨⟨_,rfl,by rw[HS.out];rfl⟩,rfl⟩
theorem Abg (p:Int)(b:Nat)(hb:b<256)(w:World):Calls Tryz.prog 84 #[.int .i64 p,.int .i32 b] w fun e w'=>e=.returned (.bool (Tj p (UInt8.ofNat b)))/\Below w.heap.size w w':=by
 have hlen:(Al p).length<=1000:=by
  rcases Fv p with hlo|hhi|rfl|rfl|rfl|rfl|rfl|rfl|rfl|rfl|rfl|rfl|rfl|rfl|rfl|rfl|rfl|rfl|rfl|rfl|rfl|rfl|rfl|rfl
  ·rw[Jc hlo];decide
  ·rw[Hu hhi];decide
  all_goals decide
 have hcv:=Apb p;have KF:=Ru p;have HS:=Zh (show Tj p (UInt8.ofNat b)=inU (Al p) (UInt8.ofNat b) from rfl);generalize Al p=l at *;generalize Tj p (UInt8.ofNat b)=res at *;have KC:∀(A:Option Addr) (c:Nat) (W:World),At W 1 A (l.map Ade)->Calls Tryz.prog 123 #[.slice A l.length c,.int .i32 b] W fun e w'=>e=.returned (.bool (inU l (UInt8.ofNat b)))/\w'=W:=by
  intro A c W hA;have K:=Zh (Aek b hb A c l W hlen hA);clear hcv KF HS hA;go_enter Tryz.func123,Tryz.ntmps123
  go_wp2_with fail;refine K.out.mono ?_
  rintro e w1 ⟨⟨r,rfl,hr⟩,rfl⟩;have HR:=Zh hr;clear hr;go_wp2;go_ret;exact⟨A5 (by rw[<-HR.out]),rfl⟩
 have KC:=Zh KC;have hcv:=Zh hcv;have KF:=Zh KF;go_enter Tryz.func84,Tryz.ntmps84
 go_wp2_with fail;refine(KF.out _).mono ?_
 rintro e w1 ⟨rfl,hb1⟩;obtain⟨bb,c,V,hrun,hAt,hB⟩:=hcv.out w1;have HA:=Zh hAt;have HB:=Zh (And.intro hb1 hB);clear hAt hb1 hB;go_wp2_with fail;refine(KC.out _ c V HA.out).mono ?_
 rintro e w2 ⟨rfl,rfl⟩;go_wp2;go_ret;exact⟨A5 HS.out.symm,Ad HB.out.1 HB.out.2⟩
def Xv (h:List UInt8)(o:Int)(t:List UInt8):Call:={ Aw with proc:=7,fh:=h,offset:=o,data:=t,how:=2 }
theorem Aje {h t:List UInt8}{o:Int}(hh:h.length<=64)(ho:0<=o)(ht:t.length<=256):Ev (Xv h o t)=0:=by
 unfold Ev;rw[if_neg (by show ¬Ij 7=false;decide),if_pos];refine⟨?_,rfl⟩
 show (decide (h.length<=64) && (decide (0<=o) && ((decide ((0:Int)<=2) && decide ((2:Int)<=4294967295)) && (decide (t.length<=256) && true))))=true
 simp[hh,ho,ht]
section
open Go.ChangeShapes Go.WideShapes Go.ChangeAt Go.RowKit Go.Deep
structure Af5 (x:Qv):Prop where
 obj:x.r.obj.C9
 dir:x.r.dir.C9
 wcc:x.r.wcc.C9
 wcc2:x.r.wcc2.C9
 access:x.r.access<=9223372036854775807
 count:x.r.count<=9223372036854775807
 stable:x.r.stable<=9223372036854775807
 verf:x.r.verf<=9223372036854775807
 es:∀e∈x.es,e.C9
 us:∀n∈x.us,n<=9223372036854775807
section
variable {H:Type} {enc:TypeId × Value->H} {w:World} {base:Nat} {spare:Nat->Bool} {held:Bool} {fuel:Nat} {cs:List Value} {x:DataW H × List MemPlace}
theorem Ag5 (h:DataW.trod enc Tryz.prog w base spare held fuel 3 cs=some x):∃a:Int,cs=Fz a/\(Lit.int .i64 a).wf=true:=by
 obtain⟨z,hz,h1,h2⟩:=DataW.trod_int Tryz.underlying3 h;exact⟨z,hz,h2⟩
theorem Ad7 (hlt:∀p∈x.2,p.block<w.heap.size)(h:DataW.trod enc Tryz.prog w base spare held fuel 51 cs=some x) :
  ∃t:Qv,cs=t.vals/\Af5 t/\t.Kk w:=by
 have hl:cs.length=58:=(N7 Tryz.underlying51 h).trans (by kernel_rfl);obtain⟨z0,h0,g0⟩:=Cb Tryz.underlying51 h 0 0 _ rfl (e:=41) rfl rfl (by kernel_rfl) Tryz.underlying41;obtain⟨z1,h1,g1⟩:=Ek Tryz.underlying51 h 1 1 _ rfl (e:=9) rfl rfl (by kernel_rfl) Tryz.underlying9;obtain⟨ps2,m2,y2,h2,hs2⟩:=D4 Tryz.underlying51 h 2 2 11 _ rfl (e:=45) rfl rfl (by kernel_rfl);obtain⟨z2,rfl,g2⟩:=R8 hs2;obtain⟨ps3,m3,y3,h3,hs3⟩:=D4 Tryz.underlying51 h 3 13 11 _ rfl (e:=45) rfl rfl (by kernel_rfl);obtain⟨z3,rfl,g3⟩:=R8 hs3;obtain⟨ps4,m4,y4,h4,hs4⟩:=D4 Tryz.underlying51 h 4 24 13 _ rfl (e:=47) rfl rfl (by kernel_rfl);obtain⟨z4,rfl,g4⟩:=Ad8 hs4;obtain⟨ps5,m5,y5,h5,hs5⟩:=D4 Tryz.underlying51 h 5 37 13 _ rfl (e:=47) rfl rfl (by kernel_rfl);obtain⟨z5,rfl,g5⟩:=Ad8 hs5;obtain⟨z6,h6,g6⟩:=Cb Tryz.underlying51 h 6 50 _ rfl (e:=3) rfl rfl (by kernel_rfl) Tryz.underlying3;obtain⟨z7,h7,g7⟩:=Cb Tryz.underlying51 h 7 51 _ rfl (e:=3) rfl rfl (by kernel_rfl) Tryz.underlying3;obtain⟨z8,h8⟩:=Tw Tryz.underlying51 h 8 52 _ rfl (e:=4) rfl rfl (by kernel_rfl) Tryz.underlying4;obtain⟨z9,h9,g9⟩:=Ek Tryz.underlying51 h 9 53 _ rfl (e:=9) rfl rfl (by kernel_rfl) Tryz.underlying9;obtain⟨z10,h10,g10⟩:=Cb Tryz.underlying51 h 10 54 _ rfl (e:=3) rfl rfl (by kernel_rfl) Tryz.underlying3;obtain⟨z11,h11,g11⟩:=Cb Tryz.underlying51 h 11 55 _ rfl (e:=3) rfl rfl (by kernel_rfl) Tryz.underlying3;obtain⟨A0,n0,c0,m12,y12,h12,hn0,hs12,hy0⟩:=Nq Tryz.underlying51 h 12 56 _ rfl (e:=48) rfl rfl (by kernel_rfl) Tryz.underlying48;obtain⟨l0,rfl,hA0,hg0⟩:=Ab1 (α:=Entry) (sz:=15) Tryz.underlying48 (by kernel_rfl) (by omega) Entry.vals Entry.C9 (fun p hp=>hlt p (hy0 p hp)) (fun _ _ _ _ ht=>Ag6 ht) hs12;obtain⟨A1,n1,c1,m13,y13,h13,hn1,hs13,hy1⟩:=Nq Tryz.underlying51 h 13 57 _ rfl (e:=49) rfl rfl (by kernel_rfl) Tryz.underlying49;obtain⟨l1,rfl,hA1,hg1⟩:=Ab1 (α:=Int) (sz:=1) Tryz.underlying49 (by kernel_rfl) (by omega) Fz (fun n=>(Lit.int .i64 n).wf=true) (fun p hp=>hlt p (hy1 p hp)) (fun _ _ _ _ ht=>Ag5 ht) hs13;have hend:cs.drop 58=[]:=List.drop_of_length_le (by omega);have e:cs=cs.drop 0:=rfl;simp only[Nat.reduceAdd]at h0 h1 h2 h3 h4 h5 h6 h7 h8 h9 h10 h11 h12 h13;unfold maxLen at hn0 hn1;refine⟨⟨⟨z0,z1.data.toList,z2,z3,z4,z5,z6,z7,z8,z9.data.toList,z10,z11,A0,l0.length,c0,A1,l1.length,c1⟩,l0,l1⟩,e.trans ?_,⟨g2,g3,g4,g5,Ol g6,Ol g7,Ol g10,Ol g11,hg0,fun n hn=>Ol (hg1 n hn)⟩,⟨rfl,rfl,by omega,by omega,hA0,hA1⟩⟩
 rw[h0,h1,h2,h3,h4,h5,h6,h7,h8,h9,h10,h11,h12,h13,hend];simp only[Qv.vals,Aa.vals,Xs];rfl
theorem Ag4 (hlt:∀p∈x.2,p.block<w.heap.size)(h:DataW.trod enc Tryz.prog w base spare held fuel 53 cs=some x):∃a:Fw,cs=a.vals/\Aja a/\Af5 a.rep/\a.rep.Kk w:=by
 have hl:cs.length=94:=(N7 Tryz.underlying53 h).trans (by kernel_rfl);obtain⟨z0,h0,g0⟩:=Cb Tryz.underlying53 h 0 0 _ rfl (e:=3) rfl rfl (by kernel_rfl) Tryz.underlying3;obtain⟨ps1,m1,y1,h1,hs1⟩:=D4 Tryz.underlying53 h 1 1 30 _ rfl (e:=38) rfl rfl (by kernel_rfl);obtain⟨z1,rfl,g1⟩:=Amx hs1;obtain⟨ps2,m2,y2,h2,hs2⟩:=D4 Tryz.underlying53 h 2 31 3 _ rfl (e:=40) rfl rfl (by kernel_rfl);obtain⟨z2,rfl,g2⟩:=Ad9 hs2;obtain⟨ps3,m3,y3,h3,hs3,hy3⟩:=Uo Tryz.underlying53 h 3 34 58 _ rfl (e:=51) rfl rfl (by kernel_rfl);obtain⟨z3,rfl,g6,g3⟩:=Ad7 (fun p hp=>hlt p (hy3 p hp)) hs3;obtain⟨z4,h4,g4⟩:=Cb Tryz.underlying53 h 4 92 _ rfl (e:=3) rfl rfl (by kernel_rfl) Tryz.underlying3;obtain⟨z5,h5,g5⟩:=Cb Tryz.underlying53 h 5 93 _ rfl (e:=3) rfl rfl (by kernel_rfl) Tryz.underlying3;have hend:cs.drop 94=[]:=List.drop_of_length_le (by omega);have e:cs=cs.drop 0:=rfl;simp only[Nat.reduceAdd]at h0 h1 h2 h3 h4 h5;obtain⟨r,es,us⟩:=z3;refine⟨⟨⟨z0,z1,z2,r,z4,z5⟩,es,us⟩,e.trans ?_,⟨g0,g1,g2,g4,g5⟩,g6,g3⟩
 rw[h0,h1,h2,h3,h4,h5,hend];rfl
theorem Ad6 (hlt:∀p∈x.2,p.block<w.heap.size){A:Option Addr}{n c:Nat}(h:DataW.trod enc Tryz.prog w base spare held fuel 22 [.slice A n c]=some x) :
  ∃l:List Fw,n=l.length/\n<=maxLen/\At w 94 A (l.map Fw.vals)/\∀a∈l,Aja a/\Af5 a.rep/\a.rep.Kk w:=by
 obtain⟨l,rfl,hA,hg⟩:=Ab1 (α:=Fw) (sz:=94) Tryz.underlying22 (by kernel_rfl) (by omega) Fw.vals (fun a=>Aja a/\Af5 a.rep/\a.rep.Kk w) hlt (fun _ _ _ hp ht=>by
  obtain⟨a,h1,h2,h3⟩:=Ag4 hp ht;exact⟨a,h1,h2,h3⟩) h
 exact⟨l,rfl,Ajr Tryz.underlying22 h,hA,hg⟩
end
end
end Go.Proofs.YtfjflkmhhbhceaaGreatDoor
