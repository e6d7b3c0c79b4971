/-
  The data of clients, and of what is asked of them, as plain structures, and the cells that each takes (written by wip/tools/structs.py). No condition.
-/
import Derived.Test.YtfjflkmhhbhceaaGreatDoorO02
import Derived.Deep.AppendLies
import Derived.Lib.AppendStr
import Derived.Maps.AppendAt
import Derived.Deep.MidRow
import Derived.Laws.RangeString
import Derived.Laws.BytesArg
import Derived.Test.YtfjflkmhhbhceaaGreatDoorProg
import Derived.Great.BuildSlice
set_option maxRecDepth 20000
set_option maxHeartbeats 40000000
namespace Go.Proofs.YtfjflkmhhbhceaaGreatDoor
open Go.RowKit
structure B3 where
 from_:Int
 to_:Int
 data:List UInt8
 deriving DecidableEq
def B3.vals (x:B3):List Value:=[.int .i64 x.from_,.int .i64 x.to_,.string (bs x.data)]
theorem B3.len (x:B3):x.vals.length=3:=rfl
theorem B3.one (x:B3):∀v∈x.vals,v.oneCell'=true:=by
 intro v hv;unfold B3.vals at hv;simp only[List.mem_cons,List.not_mem_nil,or_false]at hv;rcases hv with rfl|rfl|rfl<;>rfl
def B3.C9 (x:B3):Prop:=(Lit.int .i64 x.from_).wf=true/\(Lit.int .i64 x.to_).wf=true/\x.data.length<=maxLen
structure Ask where
 kind:Int
 var:Int
 dir:Int
 to_:Int
 uid:Int
 gid:Int
 call:Call
 deriving DecidableEq
def Ask.vals (x:Ask):List Value:=[.int .i64 x.kind,.int .i64 x.var,.int .i64 x.dir,.int .i64 x.to_,.int .i64 x.uid,.int .i64 x.gid]++x.call.vals
theorem Ask.len (x:Ask):x.vals.length=30:=rfl
theorem Ask.at0 (x:Ask)(h:0<x.vals.length):x.vals[0]=.int .i64 x.kind:=rfl
theorem Ask.Bo (x:Ask):x.vals[0]?=some (.int .i64 x.kind):=rfl
theorem Ask.at1 (x:Ask)(h:1<x.vals.length):x.vals[1]=.int .i64 x.var:=rfl
theorem Ask.Bk (x:Ask):x.vals[1]?=some (.int .i64 x.var):=rfl
theorem Ask.at2 (x:Ask)(h:2<x.vals.length):x.vals[2]=.int .i64 x.dir:=rfl
theorem Ask.Ca (x:Ask):x.vals[2]?=some (.int .i64 x.dir):=rfl
theorem Ask.at3 (x:Ask)(h:3<x.vals.length):x.vals[3]=.int .i64 x.to_:=rfl
theorem Ask.Cg (x:Ask):x.vals[3]?=some (.int .i64 x.to_):=rfl
theorem Ask.at4 (x:Ask)(h:4<x.vals.length):x.vals[4]=.int .i64 x.uid:=rfl
theorem Ask.Cx (x:Ask):x.vals[4]?=some (.int .i64 x.uid):=rfl
theorem Ask.at5 (x:Ask)(h:5<x.vals.length):x.vals[5]=.int .i64 x.gid:=rfl
theorem Ask.Cw (x:Ask):x.vals[5]?=some (.int .i64 x.gid):=rfl
theorem Ask.at6 (x:Ask)(h:6<x.vals.length):x.vals[6]=.int .i64 x.call.proc:=rfl
theorem Ask.Cv (x:Ask):x.vals[6]?=some (.int .i64 x.call.proc):=rfl
theorem Ask.at7 (x:Ask)(h:7<x.vals.length):x.vals[7]=.string (bs x.call.fh):=rfl
theorem Ask.Cu (x:Ask):x.vals[7]?=some (.string (bs x.call.fh)):=rfl
theorem Ask.at8 (x:Ask)(h:8<x.vals.length):x.vals[8]=.string (bs x.call.name):=rfl
theorem Ask.Ct (x:Ask):x.vals[8]?=some (.string (bs x.call.name)):=rfl
theorem Ask.at9 (x:Ask)(h:9<x.vals.length):x.vals[9]=.string (bs x.call.fh2):=rfl
theorem Ask.Cs (x:Ask):x.vals[9]?=some (.string (bs x.call.fh2)):=rfl
theorem Ask.Ee (x:Ask)(h:10<x.vals.length):x.vals[10]=.string (bs x.call.name2):=rfl
theorem Ask.C4 (x:Ask):x.vals[10]?=some (.string (bs x.call.name2)):=rfl
theorem Ask.Fm (x:Ask)(h:11<x.vals.length):x.vals[11]=.int .i64 x.call.offset:=rfl
theorem Ask.Dm (x:Ask):x.vals[11]?=some (.int .i64 x.call.offset):=rfl
theorem Ask.Fl (x:Ask)(h:12<x.vals.length):x.vals[12]=.int .i64 x.call.count:=rfl
theorem Ask.Dl (x:Ask):x.vals[12]?=some (.int .i64 x.call.count):=rfl
theorem Ask.Ia (x:Ask)(h:13<x.vals.length):x.vals[13]=.int .i64 x.call.how:=rfl
theorem Ask.Ep (x:Ask):x.vals[13]?=some (.int .i64 x.call.how):=rfl
theorem Ask.H9 (x:Ask)(h:14<x.vals.length):x.vals[14]=.string (bs x.call.data):=rfl
theorem Ask.Eo (x:Ask):x.vals[14]?=some (.string (bs x.call.data)):=rfl
theorem Ask.Lx (x:Ask)(h:15<x.vals.length):x.vals[15]=.bool x.call.set.mode.is:=rfl
theorem Ask.Hg (x:Ask):x.vals[15]?=some (.bool x.call.set.mode.is):=rfl
theorem Ask.Lw (x:Ask)(h:16<x.vals.length):x.vals[16]=.int .i64 x.call.set.mode.n:=rfl
theorem Ask.Hf (x:Ask):x.vals[16]?=some (.int .i64 x.call.set.mode.n):=rfl
theorem Ask.Lv (x:Ask)(h:17<x.vals.length):x.vals[17]=.bool x.call.set.uid.is:=rfl
theorem Ask.He (x:Ask):x.vals[17]?=some (.bool x.call.set.uid.is):=rfl
theorem Ask.Lu (x:Ask)(h:18<x.vals.length):x.vals[18]=.int .i64 x.call.set.uid.n:=rfl
theorem Ask.Hd (x:Ask):x.vals[18]?=some (.int .i64 x.call.set.uid.n):=rfl
theorem Ask.Lt (x:Ask)(h:19<x.vals.length):x.vals[19]=.bool x.call.set.gid.is:=rfl
theorem Ask.Hc (x:Ask):x.vals[19]?=some (.bool x.call.set.gid.is):=rfl
theorem Ask.Ls (x:Ask)(h:20<x.vals.length):x.vals[20]=.int .i64 x.call.set.gid.n:=rfl
theorem Ask.Ha (x:Ask):x.vals[20]?=some (.int .i64 x.call.set.gid.n):=rfl
theorem Ask.Lr (x:Ask)(h:21<x.vals.length):x.vals[21]=.bool x.call.set.size.is:=rfl
theorem Ask.G9 (x:Ask):x.vals[21]?=some (.bool x.call.set.size.is):=rfl
theorem Ask.Lq (x:Ask)(h:22<x.vals.length):x.vals[22]=.int .i64 x.call.set.size.n:=rfl
theorem Ask.G8 (x:Ask):x.vals[22]?=some (.int .i64 x.call.set.size.n):=rfl
theorem Ask.Lp (x:Ask)(h:23<x.vals.length):x.vals[23]=.bool x.call.set.time.is:=rfl
theorem Ask.G7 (x:Ask):x.vals[23]?=some (.bool x.call.set.time.is):=rfl
theorem Ask.Aah (x:Ask)(h:24<x.vals.length):x.vals[24]=.int .i64 x.call.set.time.n:=rfl
theorem Ask.Sx (x:Ask):x.vals[24]?=some (.int .i64 x.call.set.time.n):=rfl
theorem Ask.Aag (x:Ask)(h:25<x.vals.length):x.vals[25]=.bool x.call.guard.is:=rfl
theorem Ask.Sw (x:Ask):x.vals[25]?=some (.bool x.call.guard.is):=rfl
theorem Ask.Aaf (x:Ask)(h:26<x.vals.length):x.vals[26]=.int .i64 x.call.guard.n:=rfl
theorem Ask.Sv (x:Ask):x.vals[26]?=some (.int .i64 x.call.guard.n):=rfl
theorem Ask.Aae (x:Ask)(h:27<x.vals.length):x.vals[27]=.int .i64 x.call.cookie:=rfl
theorem Ask.Su (x:Ask):x.vals[27]?=some (.int .i64 x.call.cookie):=rfl
theorem Ask.Aad (x:Ask)(h:28<x.vals.length):x.vals[28]=.int .i64 x.call.verf:=rfl
theorem Ask.St (x:Ask):x.vals[28]?=some (.int .i64 x.call.verf):=rfl
theorem Ask.Aac (x:Ask)(h:29<x.vals.length):x.vals[29]=.string (bs x.call.text):=rfl
theorem Ask.Ss (x:Ask):x.vals[29]?=some (.string (bs x.call.text)):=rfl
theorem Ask.Ao8 (x:Ask):x.vals.toArray.extract 0 30=x.vals.toArray:=(List.extract_toArray ..).trans (congrArg List.toArray (show _=x.vals from rfl))
theorem Ask.Ang (x:Ask):x.vals.take 30=x.vals:=rfl
theorem Ask.Ao4 (x:Ask):x.vals.toArray.extract 6 30=x.call.vals.toArray:=(List.extract_toArray ..).trans (congrArg List.toArray (show _=x.call.vals from rfl))
theorem Ask.Anb (x:Ask):(x.vals.drop 6).take 24=x.call.vals:=rfl
theorem Ask.Al8 (x:Ask):x.vals.toArray.extract 15 25=x.call.set.vals.toArray:=(List.extract_toArray ..).trans (congrArg List.toArray (show _=x.call.set.vals from rfl))
theorem Ask.Aks (x:Ask):(x.vals.drop 15).take 10=x.call.set.vals:=rfl
theorem Ask.F9 (x:Ask):x.vals.toArray.extract 15 17=x.call.set.mode.vals.toArray:=(List.extract_toArray ..).trans (congrArg List.toArray (show _=x.call.set.mode.vals from rfl))
theorem Ask.Et (x:Ask):(x.vals.drop 15).take 2=x.call.set.mode.vals:=rfl
theorem Ask.F8 (x:Ask):x.vals.toArray.extract 17 19=x.call.set.uid.vals.toArray:=(List.extract_toArray ..).trans (congrArg List.toArray (show _=x.call.set.uid.vals from rfl))
theorem Ask.Es (x:Ask):(x.vals.drop 17).take 2=x.call.set.uid.vals:=rfl
theorem Ask.F7 (x:Ask):x.vals.toArray.extract 19 21=x.call.set.gid.vals.toArray:=(List.extract_toArray ..).trans (congrArg List.toArray (show _=x.call.set.gid.vals from rfl))
theorem Ask.Er (x:Ask):(x.vals.drop 19).take 2=x.call.set.gid.vals:=rfl
theorem Ask.Ao7 (x:Ask):x.vals.toArray.extract 21 23=x.call.set.size.vals.toArray:=(List.extract_toArray ..).trans (congrArg List.toArray (show _=x.call.set.size.vals from rfl))
theorem Ask.Anf (x:Ask):(x.vals.drop 21).take 2=x.call.set.size.vals:=rfl
theorem Ask.Ao6 (x:Ask):x.vals.toArray.extract 23 25=x.call.set.time.vals.toArray:=(List.extract_toArray ..).trans (congrArg List.toArray (show _=x.call.set.time.vals from rfl))
theorem Ask.Ane (x:Ask):(x.vals.drop 23).take 2=x.call.set.time.vals:=rfl
theorem Ask.Ao5 (x:Ask):x.vals.toArray.extract 25 27=x.call.guard.vals.toArray:=(List.extract_toArray ..).trans (congrArg List.toArray (show _=x.call.guard.vals from rfl))
theorem Ask.Anc (x:Ask):(x.vals.drop 25).take 2=x.call.guard.vals:=rfl
def Ask.C9 (x:Ask):Prop:=(Lit.int .i64 x.kind).wf=true/\(Lit.int .i64 x.var).wf=true/\(Lit.int .i64 x.dir).wf=true/\(Lit.int .i64 x.to_).wf=true/\(Lit.int .i64 x.uid).wf=true/\(Lit.int .i64 x.gid).wf=true/\x.call.C9
structure Hl where
 handle:List UInt8
 gen:Int
 at_:Int
 bytes:List UInt8
 deriving DecidableEq
def Hl.vals (x:Hl):List Value:=[.string (bs x.handle),.int .i64 x.gen,.int .i64 x.at_,.string (bs x.bytes)]
structure Bm where
 c:Call
 dir:Int
 to_:Int
 put:Int
 uid:Int
 gid:Int
 deriving DecidableEq
def Bm.vals (x:Bm):List Value:=x.c.vals++[.int .i64 x.dir,.int .i64 x.to_,.int .i64 x.put,.int .i64 x.uid,.int .i64 x.gid]
theorem Bm.len (x:Bm):x.vals.length=29:=rfl
theorem Bm.one (x:Bm):∀v∈x.vals,v.oneCell'=true:=by
 intro v hv;unfold Bm.vals at hv;rcases List.mem_append.1 hv with hv|hv
 ·exact Call.one _ v hv
 ·simp only[List.mem_cons,List.not_mem_nil,or_false]at hv
  rcases hv with rfl|rfl|rfl|rfl|rfl<;>rfl
structure Bz where
 C3:A8
 begin_:Int
 end_:Int
 call:Call
 Il:Aa
def Bz.vals (x:Bz):List Value:=x.C3.vals++([.int .i64 x.begin_,.int .i64 x.end_]++(x.call.vals++x.Il.vals))
theorem Bz.len (x:Bz):x.vals.length=88:=rfl
theorem Bz.one (x:Bz):∀v∈x.vals,v.oneCell'=true:=by
 intro v hv;unfold Bz.vals at hv;rcases List.mem_append.1 hv with hv|hv
 ·exact A8.one _ v hv
 ·rcases List.mem_append.1 hv with hv|hv
  ·simp only[List.mem_cons,List.not_mem_nil,or_false]at hv
   rcases hv with rfl|rfl<;>rfl
  ·rcases List.mem_append.1 hv with hv|hv
   ·exact Call.one _ v hv
   ·exact Aa.one _ v hv
structure Di where
 id:Int
 self:Int
 server:Int
 p0:Hl
 p1:Hl
 p2:Hl
 p3:Hl
 ta:Option Addr
 tn:Nat
 tc:Nat
 now:Bm
 busy:Bool
 sent:B3
 due:Int
 made:Int
 ra:Option Addr
 rn:Nat
 rc:Nat
def Di.vals (x:Di):List Value:=[.int .i64 x.id,.int .i64 x.self,.int .i64 x.server]++(x.p0.vals++(x.p1.vals++(x.p2.vals++(x.p3.vals++([.slice x.ta x.tn x.tc]++(x.now.vals++([.bool x.busy]++(x.sent.vals++[.int .i64 x.due,.int .i64 x.made,.slice x.ra x.rn x.rc]))))))))
theorem Di.len (x:Di):x.vals.length=56:=rfl
theorem Di.U2 (x:Di):(x.vals.drop 20).take 24=x.now.c.vals:=rfl
structure Gc where
 handle:List UInt8
 gen:Int
 at_:Int
 bytes:List UInt8
 deriving DecidableEq
def Gc.vals (x:Gc):List Value:=[.string (bs x.handle),.int .i64 x.gen,.int .i64 x.at_,.string (bs x.bytes)]
theorem Gc.len (x:Gc):x.vals.length=4:=rfl
structure C1 where
 c:Call
 dir:Int
 to_:Int
 put:Int
 deriving DecidableEq
def C1.vals (x:C1):List Value:=x.c.vals++[.int .i64 x.dir,.int .i64 x.to_,.int .i64 x.put]
theorem C1.len (x:C1):x.vals.length=27:=rfl
theorem C1.one (x:C1):∀v∈x.vals,v.oneCell'=true:=by
 intro v hv;unfold C1.vals at hv;rcases List.mem_append.1 hv with hv|hv
 ·exact Call.one _ v hv
 ·simp only[List.mem_cons,List.not_mem_nil,or_false]at hv
  rcases hv with rfl|rfl|rfl<;>rfl
structure Co where
 id:Int
 self:Int
 server:Int
 p0:Gc
 p1:Gc
 p2:Gc
 p3:Gc
 ta:Option Addr
 tn:Nat
 tc:Nat
 now:C1
 busy:Bool
 sent:B3
 due:Int
 uid:Int
 gid:Int
 ra:Option Addr
 rn:Nat
 rc:Nat
def Co.vals (x:Co):List Value:=[.int .i64 x.id,.int .i64 x.self,.int .i64 x.server]++(x.p0.vals++(x.p1.vals++(x.p2.vals++(x.p3.vals++([.slice x.ta x.tn x.tc]++(x.now.vals++([.bool x.busy]++(x.sent.vals++[.int .i64 x.due,.int .i64 x.uid,.int .i64 x.gid,.slice x.ra x.rn x.rc]))))))))
theorem Co.len (x:Co):x.vals.length=55:=rfl
theorem Co.U2 (x:Co):(x.vals.drop 20).take 24=x.now.c.vals:=rfl
structure Step where
 kind:Int
 a:Ask
 p:B3
 r:Aa
 from_:Int
 now:Int
def Step.vals (x:Step):List Value:=[.int .i64 x.kind]++(x.a.vals++(x.p.vals++(x.r.vals++[.int .i64 x.from_,.int .i64 x.now])))
theorem Step.len (x:Step):x.vals.length=94:=rfl
section
structure Touch (F:Nat->Prop) (w w':World):Prop where
 os:w'.os=w.os
 tape:w'.tape=w.tape
 output:w'.output=w.output
 size:w.heap.size<=w'.heap.size
 block:∀k,k<w.heap.size->¬F k->w'.heap[k]?=w.heap[k]?
theorem Touch.refl (F:Nat->Prop)(w:World):Touch F w w:=⟨rfl,rfl,rfl,Nat.le_refl _,fun _ _ _=>rfl⟩
theorem Touch.Aq {w w':World}(h:Below w.heap.size w w')(F:Nat->Prop):Touch F w w':=⟨h.os,h.tape,h.output,h.size,fun k hk _=>h.block k hk⟩
theorem Touch.Mq {w w':World}{row:Option Nat}(h:w.grownBy w' row){F:Nat->Prop}(hF:∀k,row=some k->F k):Touch F w w':=
 ⟨h.os,h.tape,h.output,h.size,fun k hk hn=>h.block k hk (fun e=>hn (hF k e.symm))⟩
theorem Touch.mono {F G:Nat->Prop}{w w':World}(h:Touch F w w')(hFG:∀k,k<w.heap.size->F k->G k):Touch G w w':=
 ⟨h.os,h.tape,h.output,h.size,fun k hk hn=>h.block k hk (fun hf=>hn (hFG k hk hf))⟩
theorem Touch.trans {F G:Nat->Prop}{a b c:World}(h:Touch F a b)(k:Touch G b c)(hG:∀i,i<a.heap.size->G i->F i):Touch F a c:=
 ⟨k.os.trans h.os,k.tape.trans h.tape,k.output.trans h.output,Nat.le_trans h.size k.size,fun i hi hn=>
  (k.block i (Nat.lt_of_lt_of_le hi h.size) (fun hg=>hn (hG i hi hg))).trans (h.block i hi hn)⟩
theorem Touch.Ay {F:Nat->Prop}{a b c:World}(h:Touch F a b)(k:Touch F b c):Touch F a c:=h.trans k fun _ _ hg=>hg
theorem Touch.alloc {F:Nat->Prop}{a b:World}(h:Touch F a b)(o:Obj):Touch F a (b.alloc o):=
 h.trans (Touch.Aq ((Below.refl _ _).alloc (Nat.le_refl _) o) F) fun _ _ hg=>hg
theorem Touch.drew {F:Nat->Prop}{a b:World}(h:Touch F a b):Touch F a b.drew:=⟨h.os,h.tape,h.output,h.size,h.block⟩
theorem Touch.drewN {F:Nat->Prop}{a b:World}(h:Touch F a b)(n:Nat):Touch F a (b.drewN n):=⟨h.os,h.tape,h.output,h.size,h.block⟩
theorem Touch.setCell {F:Nat->Prop}{a b:World}(h:Touch F a b){p:Addr}(hp:F p.block\/a.heap.size<=p.block)(u:Value):Touch F a (b.setCell p u):=
 ⟨h.os,h.tape,h.output,by simpa[World.setCell] using h.size,fun i hi hn=>(Below.heap_setCell b p u i (by
  rintro rfl;rcases hp with hp|hp
  ·exact hn hp
  ·omega)).trans (h.block i hi hn)⟩
theorem Touch.below {F:Nat->Prop}{B:Nat}{w w':World}(h:Touch F w w')(hF:∀k,k<w.heap.size->F k->B<=k)(hB:B<=w.heap.size):Below B w w':=
 ⟨h.os,h.tape,h.output,h.size,fun k hk=>h.block k (by omega) (fun hf=>by have:=hF k (by omega) hf;omega)⟩
theorem Touch.cell {F:Nat->Prop}{w w':World}(h:Touch F w w'){p:Addr}(hp:p.block<w.heap.size)(hn:¬F p.block):w'.cell? p=w.cell? p:=World.cell?_of_block (h.block p.block hp hn)
theorem Touch.row {F:Nat->Prop}{w w':World}(h:Touch F w w'){b:Nat}(hb:b<w.heap.size)(hn:¬F b)(o n:Nat):rowOf w' b o n=rowOf w b o n:=by
 simp only[rowOf,h.block b hb hn]
def Blk (w:World)(g:Nat)(t:TypeId)(cs:List Value):Prop:=w.heap[g]?=some (.cells cs.toArray t (0,0))
section
variable {w w':World} {g:Nat} {t:TypeId} {cs:List Value}
theorem Blk.lt (h:Blk w g t cs):g<w.heap.size:=by
 rcases Nat.lt_or_ge g w.heap.size with hlt|hge
 ·exact hlt
 ·unfold Blk at h;rw[Array.getElem?_eq_none hge]at h;cases h
theorem Blk.cell (h:Blk w g t cs)(i:Nat):w.cell? ⟨g,i,none⟩=cs[i]?:=by rw[cell_of_row w g i _ t (0,0) h];simp
theorem Blk.frozen (h:Blk w g t cs)(i:Nat):w.frozen? ⟨g,i,none⟩=false:=by
 unfold Blk at h;simp[World.frozen?,h]
theorem Blk.new (w:World)(t:TypeId)(cs:List Value):Blk (w.alloc (.cells cs.toArray t)) w.heap.size t cs:=heap_alloc_new w _
theorem Blk.drew (h:Blk w g t cs):Blk w.drew g t cs:=h
theorem Blk.drewN (h:Blk w g t cs)(n:Nat):Blk (w.drewN n) g t cs:=h
theorem Blk.alloc (h:Blk w g t cs)(o:Obj):Blk (w.alloc o) g t cs:=(Below.heap_alloc w o g h.lt).trans h
theorem Blk.Be (h:Blk w g t cs)(i:Nat)(u:Value):Blk (w.setCell ⟨g,i,none⟩ u) g t (cs.set i u):=by
 unfold Blk at h ⊢;simp[World.setCell,Array.getElem?_modify,h]
theorem Blk.far (h:Blk w g t cs){p:Addr}(hp:g≠p.block)(u:Value):Blk (w.setCell p u) g t cs:=(Below.heap_setCell w p u g hp).trans h
theorem Blk.Ak {F:Nat->Prop}(h:Blk w g t cs)(hb:Touch F w w')(hn:¬F g):Blk w' g t cs:=(hb.block g h.lt hn).trans h
theorem Blk.below {B:Nat}(h:Blk w g t cs)(hb:Below B w w')(hg:g<B):Blk w' g t cs:=(hb.block g hg).trans h
theorem Blk.stays (h:Blk w g t cs)(hb:Below w.heap.size w w'):Blk w' g t cs:=h.below hb h.lt
theorem Blk.grown {row:Option Nat}(h:Blk w g t cs)(hb:w.grownBy w' row)(hg:row≠some g):Blk w' g t cs:=(hb.block g h.lt (fun e=>hg e.symm)).trans h
theorem Blk.ne_ {g':Nat}{t':TypeId}{cs':List Value}(h:Blk w g t cs)(h':Blk w g' t' cs')(hne:t≠t'):g≠g':=by
 rintro rfl;unfold Blk at h h';rw[h]at h';injection h' with h';injection h' with _ ht;exact hne ht
theorem Blk.M1 {base:Nat}{e:TypeId}{size n:Nat}{v:Value}{xs:List Value}(h:w.ownsRow base e size v n xs)(hg:Blk w g t cs)(hne:e≠t):v.ownBlock≠some g:=by
 rcases h.2 with ⟨rfl,_⟩|⟨g',cap,cur,rfl,_,hh,_⟩
 ·simp[Value.ownBlock]
 ·intro he
  have:g'=g:=by simpa[Value.ownBlock] using he
  subst this;unfold Blk at hg;rw[hh]at hg;injection hg with hg;injection hg with _ ht;exact hne ht
theorem Blk.row (h:Blk w g t cs)(o n:Nat)(hn:o+n<=cs.length):rowOf w g o n=some ((cs.drop o).take n).toArray:=by
 unfold Blk at h;unfold rowOf;simp only[h];rw[if_pos (by simpa using hn)];simp
end
theorem At.Ak {w w':World}{sz:Nat}{A:Option Addr}{rows:List (List Value)}{F:Nat->Prop}(h:At w sz A rows)(hb:Touch F w w')(hn:∀b off,A=some ⟨b,off,none⟩->¬F b):At w' sz A rows:=by
 intro i r hr;obtain⟨b,off,hA,hlt,hc⟩:=h i r hr;exact⟨b,off,hA,Nat.lt_of_lt_of_le hlt hb.size,fun j u hu=>(hb.cell (p:=⟨b,_,none⟩) hlt (hn b off hA)).trans (hc j u hu)⟩
theorem Pd {w w':World}{base:Nat}{e:TypeId}{size n:Nat}{v:Value}{xs:List Value}{F:Nat->Prop}(h:w.ownsRow base e size v n xs)(hb:Touch F w w')(hn:∀k,v.ownBlock=some k->¬F k):w'.ownsRow base e size v n xs:=by
 obtain⟨h1,h2⟩:=h;refine⟨h1,?_⟩
 rcases h2 with h2|⟨g,cap,cur,hv,hg,hh,r⟩
 ·exact Or.inl h2
 ·have hlt:g<w.heap.size:=by
   rcases Nat.lt_or_ge g w.heap.size with h|h
   ·exact h
   ·rw[Array.getElem?_eq_none h]at hh;cases hh
  exact Or.inr ⟨g,cap,cur,hv,hg,by rw[hb.block g hlt (hn g (by rw[hv];rfl))];exact hh,r⟩
end
theorem Cz {P:Program}{fn:Func}{R:Ending->World->Prop}{a:Act}{w:World}{p:Tmp}{ty:TypeId}{d:TypeDesc}(b o:Nat)(cs:List Value)(hres:fn.results=#[.cell p ty])(hu:P.underlying ty=some d)(hd:d.isRow=true)
  (hi:(P.info? ty).map (·.size)=some cs.length) (hp:a.tmps.getD p undef=.pointer (some ⟨b,o,none⟩)) (hc:w.rangeAt b o cs) (hdef:a.defers=[]) (hR:R (.returned (.agg cs.toArray)) w):bodyPost P fn R .ret a w:=by
 refine bodyPost_ret (v:=.agg cs.toArray) ?_ hdef hR
 have hl:=run_loadVar_mid (P:=P) w b o ty cs d hc hu hd hi;rw[Array.getD_eq_getD_getElem?]at hp;simp[results,hres,hp,asAddr,hl]
theorem flat_get {sz:Nat}:∀(rows:List (List Value)),(∀r∈rows,r.length=sz)->∀i r,rows[i]?=some r->∀j u,r[j]?=some u->rows.flatten[i*sz+j]?=some u
 |[],_,i,r,h,_,_,_=>by simp at h
 |r0::rows,hl,0,r,h,j,u,hu=>by
  obtain rfl:r0=r:=by simpa using h
  have hj:j<r0.length:=(List.getElem?_eq_some_iff.1 hu).1;rw[List.flatten_cons,Nat.zero_mul,Nat.zero_add,List.getElem?_append_left hj,hu]
 |r0::rows,hl,i+1,r,h,j,u,hu=>by
  have h0:r0.length=sz:=hl r0 (by simp);have ih:=flat_get rows (fun r hr=>hl r (by simp[hr])) i r (by simpa using h) j u hu;rw[List.flatten_cons,List.getElem?_append_right (by rw[h0,Nat.succ_mul];omega),h0,show (i+1)*sz+j - sz=i*sz+j by rw[Nat.succ_mul];omega];exact ih
theorem At.fresh (w:World)(T:TypeId)(sz b:Nat)(rows:List (List Value))(h:∀r∈rows,r.length=sz)(hb:b=w.heap.size):At (w.alloc (.cells rows.flatten.toArray T)) sz (some ⟨b,0,none⟩) rows:=fun i r hr=>by
 subst hb;refine⟨w.heap.size,0,rfl,by simp,fun j u hu=>?_⟩
 have:=Gd w rows.flatten T (i*sz+j) u (flat_get rows h i r hr j u hu)
 simpa[Nat.add_assoc] using this
theorem Blk.Aar {w:World}{g:Nat}{T:TypeId}:∀(cs pre zs:List Value),zs.length=cs.length->Blk w g T (pre++zs)->Blk (w.setCells g pre.length cs) g T (pre++cs)
 |[],pre,zs,h,hb=>by
  obtain rfl:zs=[]:=List.eq_nil_of_length_eq_zero h;exact hb
 |c::cs,pre,z::zs,h,hb=>by
  rw[World.setCells];have h1:=hb.Be pre.length c;rw[show (pre++z::zs).set pre.length c=(pre++[c])++zs by simp]at h1;have:=Blk.Aar cs (pre++[c]) zs (by simpa using h) h1;rw[show (pre++[c]).length=pre.length+1 by simp]at this;rw[show pre++c::cs=pre++[c]++cs by simp];exact this
theorem Blk.whole {w:World}{g:Nat}{T:TypeId}{old cs:List Value}(h:Blk w g T old)(hl:old.length=cs.length):Blk (w.setCells g 0 cs) g T cs:=Blk.Aar cs [] old hl h
theorem Blk.Fk {g b:Nat}{T:TypeId}{cs:List Value}(hg:g≠b):∀(vs:List Value) (o:Nat) (w:World),Blk w g T cs->Blk (w.setCells b o vs) g T cs
 |[],_,_,h=>h
 |v::vs,o,w,h=>by
  rw[World.setCells];exact Blk.Fk hg vs (o+1) _ (h.far (p:=⟨b,o,none⟩) hg v)
theorem Blk.there {w:World}{g:Nat}{T:TypeId}{cs:List Value}(h:Blk w g T cs)(o n:Nat)(hn:o+n<=cs.length):w.there g o n:=fun j hj=>by
 exact⟨by rw[h.cell,List.getElem?_eq_getElem (by omega)];rfl,h.frozen _⟩
theorem Below.setCells {B:Nat}{a:World}{b:Nat}(hb:B<=b):∀(vs:List Value) (o:Nat) (w:World),Below B a w->Below B a (w.setCells b o vs)
 |[],_,_,h=>h
 |v::vs,o,w,h=>by
  rw[World.setCells];exact Below.setCells hb vs (o+1) _ (h.setCell (p:=⟨b,o,none⟩) hb v)
theorem Blk.range {w:World}{g:Nat}{T:TypeId}{cs:List Value}(h:Blk w g T cs):w.rangeAt g 0 cs:=fun j v hv=>by
 rw[h.cell];simpa using hv
theorem Ae {P:Program}{ops:Array Oper}{rest:List Oper}{op:Oper}{a:Act}{w:World}{Q:Exit->Act->World->Prop}(hgd:op.guard=none)(T:TypeId)(x y:Operand)(ho:op.op=.store T x y)
  (b:Nat) (cs old:List Value) {T':TypeId} (hB:Blk w b T' old) (hl:old.length=cs.length) (hx:a.eval x=.pointer (some ⟨b,0,none⟩)) (hy:a.eval y=.agg cs.toArray) (hi:(P.info? T).map (·.size)=some cs.length)
  (h1:∀v∈cs,v.oneCell'=true) (h:wpList P ops Q rest (a.put op.dst undef) (w.setCells b 0 cs)):wpList P ops Q (op::rest) a w:=
 wpList_store_mid hgd T x y ho b 0 cs.toArray hx hy (hB.there 0 _ (by simp[hl])) (by simpa using hi) (all_oneCell_toArray h1) (by simpa using h)
theorem De {P:Program}{ops:Array Oper}{rest:List Oper}{op:Oper}{a:Act}{w:World}{Q:Exit->Act->World->Prop}(hgd:op.guard=none)(T:TypeId)(x y:Operand)(ho:op.op=.store T x y)
  (cs zs:List Value) (w0:World) (T':TypeId) (hw:w=w0.alloc (.cells zs.toArray T')) (hl:zs.length=cs.length) (hx:a.eval x=.pointer (some ⟨w0.heap.size,0,none⟩)) (hy:a.eval y=.agg cs.toArray) (hi:(P.info? T).map (·.size)=some cs.length)
  (h1:∀v∈cs,v.oneCell'=true) (h:wpList P ops Q rest (a.put op.dst undef) (w0.alloc (.cells cs.toArray T'))):wpList P ops Q (op::rest) a w:=by
 subst hw;refine Ae hgd T x y ho w0.heap.size cs zs (Blk.new _ _ _) hl hx hy hi h1 ?_
 have:=M6 w0 T' cs [] zs hl;simp only[List.nil_append,List.length_nil]at this;rw[this];exact h
theorem Ap {P:Program}{fn:Func}{R:Ending->World->Prop}{a:Act}{w:World}{p q:Tmp}{ty:TypeId}{d:TypeDesc}(b o:Nat)(cs:List Value)(v:Value)(hres:fn.results=#[.cell p ty,.tmp q])(hu:P.underlying ty=some d)(hd:d.isRow=true)
  (hi:(P.info? ty).map (·.size)=some cs.length) (hp:a.tmps.getD p undef=.pointer (some ⟨b,o,none⟩)) (hq:a.tmps.getD q undef=v) (hc:w.rangeAt b o cs) (hdef:a.defers=[]) (hR:R (.returned (.tuple #[.agg cs.toArray,v])) w):bodyPost P fn R .ret a w:=by
 refine bodyPost_ret (v:=.tuple #[.agg cs.toArray,v]) ?_ hdef hR
 have hl:=run_loadVar_mid (P:=P) w b o ty cs d hc hu hd hi;rw[Array.getD_eq_getD_getElem?]at hp hq;simp[results,hres,hp,hq,asAddr,hl]
theorem A7 (w:World)(a b:List Value)(S T:TypeId):Blk ((w.alloc (.cells a.toArray S)).alloc (.cells b.toArray T)) w.heap.size S a/\Blk ((w.alloc (.cells a.toArray S)).alloc (.cells b.toArray T)) (w.heap.size+1) T b /\
  Below w.heap.size w ((w.alloc (.cells a.toArray S)).alloc (.cells b.toArray T))/\((w.alloc (.cells a.toArray S)).alloc (.cells b.toArray T)).heap.size=w.heap.size+1+1:=by
 have b0:=Blk.new w S a;have B0:Below w.heap.size w (w.alloc (.cells a.toArray S)):=(Below.refl _ _).alloc (Nat.le_refl _) _;have e0:(w.alloc (.cells a.toArray S)).heap.size=w.heap.size+1:=by simp
 generalize w.alloc (.cells a.toArray S)=w0 at *;have b1:=Blk.new w0 T b;rw[e0]at b1;exact⟨b0.alloc _,b1,B0.alloc B0.size _,by simp[e0]⟩
theorem O4 (w:World)(a b c:List Value)(S T U:TypeId):Blk (((w.alloc (.cells a.toArray S)).alloc (.cells b.toArray T)).alloc (.cells c.toArray U)) w.heap.size S a/\Blk (((w.alloc (.cells a.toArray S)).alloc (.cells b.toArray T)).alloc (.cells c.toArray U)) (w.heap.size+1) T b /\
  Blk (((w.alloc (.cells a.toArray S)).alloc (.cells b.toArray T)).alloc (.cells c.toArray U)) (w.heap.size+1+1) U c/\Below w.heap.size w (((w.alloc (.cells a.toArray S)).alloc (.cells b.toArray T)).alloc (.cells c.toArray U)) /\
  (((w.alloc (.cells a.toArray S)).alloc (.cells b.toArray T)).alloc (.cells c.toArray U)).heap.size=w.heap.size+1+1+1:=by
 obtain⟨h1,h2,h3,h4⟩:=A7 w a b S T;generalize (w.alloc (.cells a.toArray S)).alloc (.cells b.toArray T)=w1 at *;have h5:=Blk.new w1 U c;rw[h4]at h5;exact⟨h1.alloc _,h2.alloc _,h5,h3.alloc h3.size _,by simp[h4]⟩
def setAt:List Value->Nat->List Value->List Value
 |l,_,[]=>l
 |l,o,c::cs=>setAt (l.set o c) (o+1) cs
theorem Blk.Ml {g:Nat}{T:TypeId}:∀(cs l:List Value) (o:Nat) (w:World),Blk w g T l->Blk (w.setCells g o cs) g T (setAt l o cs)
 |[],_,_,_,h=>h
 |c::cs,l,o,w,h=>by
  rw[World.setCells,setAt];exact Blk.Ml cs _ (o+1) _ (h.Be o c)
theorem Below.Bf {B:Nat}{a w:World}{b:Nat}(h:Below B a w)(hb:B<=b)(cs:List Value):Below B a (w.setCells b 0 cs):=Below.setCells hb cs 0 w h
theorem Ax {P:Program}{ops:Array Oper}{rest:List Oper}{op:Oper}{a:Act}{w:World}{Q:Exit->Act->World->Prop}(hgd:op.guard=none)(T:TypeId)(x y:Operand)(ho:op.op=.store T x y)
  (b o:Nat) (cs old:List Value) {T':TypeId} (hB:Blk w b T' old) (hl:o+cs.length<=old.length) (hx:a.eval x=.pointer (some ⟨b,o,none⟩)) (hy:a.eval y=.agg cs.toArray) (hi:(P.info? T).map (·.size)=some cs.length)
  (h1:∀v∈cs,v.oneCell'=true) (h:wpList P ops Q rest (a.put op.dst undef) (w.setCells b o cs)):wpList P ops Q (op::rest) a w:=
 wpList_store_mid hgd T x y ho b o cs.toArray hx hy (hB.there o _ (by simpa using hl)) (by simpa using hi) (all_oneCell_toArray h1) (by simpa using h)
section
def Itr (w:World)(b:Nat)(l:List UInt8)(pos:Nat):Prop:=w.heap[b]?=some (.stringIter (bs l) pos)
def _root_.Go.World.setIter (w:World)(b:Nat)(l:List UInt8)(pos:Nat):World:={ w with heap:=w.heap.setIfInBounds b (.stringIter (bs l) pos) }
section
variable {w w':World} {b:Nat} {l:List UInt8} {pos:Nat}
theorem Itr.lt (h:Itr w b l pos):b<w.heap.size:=by
 rcases Nat.lt_or_ge b w.heap.size with hlt|hge
 ·exact hlt
 ·unfold Itr at h;rw[Array.getElem?_eq_none hge]at h;cases h
theorem Itr.new (w:World)(l:List UInt8):Itr (w.iter (bs l) 0) w.heap.size l 0:=World.iter_heap w (bs l) 0
theorem Itr.below {B:Nat}(h:Itr w b l pos)(hb:Below B w w')(hg:b<B):Itr w' b l pos:=(hb.block b hg).trans h
theorem Itr.stays (h:Itr w b l pos)(hb:Below w.heap.size w w'):Itr w' b l pos:=h.below hb h.lt
theorem Itr.Ak {F:Nat->Prop}(h:Itr w b l pos)(hb:Touch F w w')(hn:¬F b):Itr w' b l pos:=(hb.block b h.lt hn).trans h
theorem Itr.Be (h:Itr w b l pos)(p:Nat):Itr (w.setIter b l p) b l p:=by
 have hl:=h.lt;unfold Itr World.setIter;simp[hl]
theorem Qi (w:World)(b:Nat)(l:List UInt8)(p k:Nat)(h:k≠b):(w.setIter b l p).heap[k]?=w.heap[k]?:=by
 unfold World.setIter;simp[Ne.symm h]
theorem Below.setIter {B:Nat}{a:World}(h:Below B a w)(hb:B<=b)(l:List UInt8)(p:Nat):Below B a (w.setIter b l p):=
 ⟨h.os,h.tape,h.output,by have:=h.size;simpa[World.setIter] using this,fun k hk=>(Qi w b l p k (by omega)).trans (h.block k hk)⟩
theorem Blk.Ql {g:Nat}{T:TypeId}{cs:List Value}(h:Blk w g T cs)(hg:g≠b)(l:List UInt8)(p:Nat):Blk (w.setIter b l p) g T cs:=(Qi w b l p g hg).trans h
theorem Touch.setIter {F:Nat->Prop}{a:World}(h:Touch F a w)(hb:F b\/a.heap.size<=b)(l:List UInt8)(p:Nat):Touch F a (w.setIter b l p):=
 ⟨h.os,h.tape,h.output,by have:=h.size;simpa[World.setIter] using this,fun k hk hn=>(Qi w b l p k (fun e=>by subst e;rcases hb with hb|hb;exact hn hb;omega)).trans (h.block k hk hn)⟩
variable {P:Program}
theorem Tz (h:Itr w b l pos)(hp:pos<l.length)(ha:l[pos].toNat<128)(ty:TypeId) :
  (Instr.next (.pointer (some ⟨b,0,none⟩)) true ty).run P w=.ok (.tuple #[.bool true,.int .i64 pos,.int .i32 l[pos].toNat]) (w.setIter b l (pos+1)):=by
 have hd:=decode_ascii (bs l) pos hp ha;have hs:pos<(bs l).size:=hp;unfold Itr at h;simp only[Instr.next,getObj,setObj,Sem.run_bind,Sem.run,h,Result.andThen,hs,if_true,hd];simp[goInt,World.setIter,Rw]
theorem Pq (h:Itr w b l pos)(hp:¬pos<l.length)(ty:TypeId) :
  (Instr.next (.pointer (some ⟨b,0,none⟩)) true ty).run P w=.ok (.tuple #[.bool false]) w:=by
 have hs:¬pos<(bs l).size:=hp;unfold Itr at h;simp[Instr.next,getObj,Sem.run,h,hs]
end
end
section
theorem strOf (l:List UInt8):strOfNums (l.map fun b=>(b.toNat:Int))=bs l:=by
 unfold strOfNums bs;congr 1
 rw[List.map_map];congr 1
 conv=>rhs;rw[<-List.map_id l]
 refine List.map_congr_left fun b _=>?_
 simp
section
variable {P:Program} {w:World}
theorem X2 {base:Nat}{e src dst:TypeId}{sv:Value}{l:List UInt8}(hs:P.underlying src=some (.slice e))(he:P.underlying e=some (.int .u8))(hd:P.underlying dst=some .string)
  (hown:w.ownsRow base e 1 sv l.length (l.map u8)):(convert src dst sv).run P w=.ok (.string (bs l)) w:=by
 rcases hown.2 with ⟨rfl,hn⟩|⟨g,cap,cur,rfl,_⟩
 ·have:l=[]:=by simpa using hn
  subst this;exact run_convert_bytes_nil w src e hs he 0 0 dst hd
 ·rw[run_convert_bytes_arg (P:=P) w src e hs he g 0 l.length cap (l.map fun b=>(b.toNat:Int)) (by simp) (fun i hi=>by
   have h1:=hown.cellAt i (by simpa using hi);rw[Nat.zero_add,h1];simp[u8,hi]) dst hd,strOf]
theorem X3 {src dst e:TypeId}(hs:P.underlying src=some (.slice e))(he:P.underlying e=some (.int .u8))(hd:P.underlying dst=some .string)(x:Int)(W:World) :
  (convert src dst (.slice (some ⟨W.heap.size,0,none⟩) 1 1)).run P (W.alloc (.cells #[.int .u8 x] e))=.ok (.string (bs [UInt8.ofNat x.toNat])) (W.alloc (.cells #[.int .u8 x] e)):=by
 rw[run_convert_bytes_arg (P:=P) (W.alloc (.cells #[.int .u8 x] e)) src e hs he W.heap.size 0 1 1 [x] rfl (fun i hi=>by
  obtain rfl:i=0:=by omega
  rw[World.cell?_alloc_at _ _ _ _ rfl];rfl) dst hd]
 rfl
theorem T0 (base:Nat)(t u ty e:TypeId)(i:TypeInfo)(ht:P.underlying t=some (.slice e))(hu:P.underlying u=some .string)(hi:P.info? e=some i)(hz:i.zero=some (.int .u8 0))
  (hsize:i.size=1) (hby:i.bytes=1) (v:Value) (n:Nat) (xs:List Value) (hown:w.ownsRow base e 1 v n xs) (s:ByteArray)
  (h63:n+s.size<=maxLen) (hbytes:n+s.size<=140737488355328) (hbase:base<=w.heap.size) :
  ∃v' w',(Builtin.append_ #[t,u] ty #[v,.string s]).run P w=.ok v' w'/\w'.ownsRow base e 1 v' (n+s.size) (xs++Lib.strCells s)/\w.grownBy w' v.ownBlock/\(v'.ownBlock=v.ownBlock\/v'.ownBlock=some w.heap.size)/\∃A c,v'=.slice A (n+s.size) c:=by
 obtain⟨v',w',hr,ho,hg,_⟩:=Lib.run_append_own_string (P:=P) w base t u ty e i ht hu hi hz hsize hby v n xs hown s h63 hbytes hbase;refine⟨v',w',hr,ho,hg,?_⟩
 have hsmall:n+s.size<=9223372036854775807:=by simp only[maxLen]at h63;omega
 have hxl:xs.length=n:=by simpa using hown.1
 rcases hown.2 with ⟨rfl,rfl⟩|⟨g,cap,cur,rfl,hbg,hgc,hnc,hcm,hcs,htake⟩
 ·have hx:xs=[]:=List.eq_nil_of_length_eq_zero hxl
  subst hx;by_cases hm:s.size=0
  ·have hf:=Lib.run_firstCells_string (P:=P) w 1 s
   rw[hm]at hf;have hr2:(Builtin.append_ #[t,u] ty #[.slice none 0 0,.string s]).run P w=.ok (.slice none 0 0) w:=by
    simp[Builtin.append_,run_underlying ht,run_underlying hu,sizeOf,typeInfo,hi,hsize,Builtin.lenOf,hm,hf]
   rw[hr2]at hr;injection hr with h1 _;subst h1;exact⟨.inl rfl,none,0,by rw[hm]⟩
  ·have hr2:=run_append_nil_string (P:=P) w t u ty e i (.int .u8 0) ht hu hi hz s (by omega) (by omega) (by rw[hby];omega)
   rw[hr2]at hr;injection hr with h1 _;subst h1;exact⟨.inr rfl,_,_,by rw[Nat.zero_add]⟩
 ·by_cases hroom:n+s.size<=cap
  ·have hcs':cur.size=cap:=by simpa using hcs
   have hr2:=Lib.run_append_room_string (P:=P) w t u ty e i ht hu hi hsize g n cap cur hgc s hroom (by omega);rw[hr2]at hr;injection hr with h1 _;subst h1;exact⟨.inl rfl,_,_,rfl⟩
  ·have holds:∀j u,xs[j]?=some u->w.cell? ((⟨g,0,none⟩:Addr).add j)=some u:=hown.cells (g:=g) rfl
   have hr2:=Lib.run_append_grow_string (P:=P) w t u ty e i (.int .u8 0) ht hu hi hz ⟨g,0,none⟩ n cap xs (by rw[hsize];simpa using hxl) holds s (by omega) (by omega) (by rw[hby];exact growslice_fits (by omega) (by omega));rw[hr2]at hr;injection hr with h1 _;subst h1;exact⟨.inr rfl,_,_,rfl⟩
theorem Sf (base:Nat)(t u ty e:TypeId)(i:TypeInfo)(ht:P.underlying t=some (.slice e))(hu:P.underlying u=some .string)(hi:P.info? e=some i)(hz:i.zero=some (.int .u8 0))
  (hsize:i.size=1) (hby:i.bytes=1) (v:Value) (n:Nat) (xs:List Value) (hown:w.ownsRow base e 1 v n xs) (s:List UInt8)
  (hbytes:n+s.length<=140737488355328) (hbase:base<=w.heap.size) :
  ∃v' w',(Builtin.append_ #[t,u] ty #[v,.string (bs s)]).run P w=.ok v' w'/\w'.ownsRow base e 1 v' (n+s.length) (xs++s.map u8)/\w.grownBy w' v.ownBlock/\(v'.ownBlock=v.ownBlock\/v'.ownBlock=some w.heap.size)/\∃A c,v'=.slice A (n+s.length) c:=
 T0 base t u ty e i ht hu hi hz hsize hby v n xs hown (bs s) (by rw[Au];unfold maxLen;omega) (by rw[Au];omega) hbase
def G2 (n:Nat):List Value:=List.replicate n (.int .u8 0)
theorem Jz (n:Nat):(G2 n).length=n:=by simp[G2]
theorem Ajd (n:Nat):G2 n=(List.replicate n (0:UInt8)).map u8:=by simp[G2,u8]
theorem Aga (n:Nat):∀u∈G2 n,u.oneCell'=true:=by
 intro u hu;rw[List.eq_of_mem_replicate hu];rfl
theorem Qx (n:Nat):Builtin.zeroCells (Value.int IntKind.u8 0).cells n=(G2 n).toArray:=by
 apply Array.ext
 ·simp[Builtin.zeroCells,G2,Value.cells]
 ·intro j h1 h2
  simp[Builtin.zeroCells,G2,Value.cells,Nat.mod_one]
theorem Se (base:Nat)(t u ty e:TypeId)(i:TypeInfo)(ht:P.underlying t=some (.slice e))(hu:P.underlying u=some (.int .i64))(hi:P.info? e=some i)(hz:i.zero=some (.int .u8 0))
  (hsize:i.size=1) (hby:i.bytes=1) (v:Value) (n:Nat) (xs:List Value) (hown:w.ownsRow base e 1 v n xs) (m:Nat)
  (hbytes:n+m<=140737488355328) (hbase:base<=w.heap.size) :
  ∃v' w',(Builtin.append_ #[t,u] ty #[v,.int .i64 m]).run P w=.ok v' w'/\w'.ownsRow base e 1 v' (n+m) (xs++G2 m)/\w.grownBy w' v.ownBlock/\(v'.ownBlock=v.ownBlock\/v'.ownBlock=some w.heap.size)/\∃A c,v'=.slice A (n+m) c:=by
 have h63:n+m<=maxLen:=by simp only[maxLen];omega
 have hw0:IntKind.i64.wrap (m:Int)=m:=IntWalk.i64_in _ (by omega);have hai:∀W:World,(asIntOf (.int .i64 (m:Int))).run P W=.ok (.i64,(m:Int)) W:=fun _=>rfl
 have hneg:¬((m:Int)<0):=by omega
 have hbig:¬(281474976710656<(m:Int)):=by omega
 have hxl:xs.length=n:=by simpa using hown.1
 have hlen:(xs++G2 m).length=(n+m)*1:=by rw[List.length_append,hxl,Jz,Nat.mul_one]
 have grown:∀(old:Nat),old<n+m->∀(row:Option Nat),
   (w.drew.alloc (.cells (xs.toArray++(G2 m).toArray++Builtin.zeroCells (Value.int .u8 0).cells (grownCap w (n+m) old e - (n+m))) e)).ownsRow base e 1
    (.slice (some ⟨w.heap.size,0,none⟩) (n+m) (grownCap w (n+m) old e)) (n+m) (xs++G2 m) /\
   w.grownBy (w.drew.alloc (.cells (xs.toArray++(G2 m).toArray++Builtin.zeroCells (Value.int .u8 0).cells (grownCap w (n+m) old e - (n+m))) e)) row:=by
  intro old ho row;have hge:=grownCap_ge w (n+m) old e;have hcm:grownCap w (n+m) old e<=maxLen:=grownCap_le_maxLen w (n+m) old e h63;refine⟨⟨hlen,.inr ⟨w.heap.size,_,_,rfl,hbase,heap_alloc_new w.drew _,hge,hcm,?_,?_⟩⟩,⟨rfl,rfl,rfl,by simp,fun k hk _=>Below.heap_alloc w.drew _ k hk⟩⟩
  ·have hz1:(Value.int IntKind.u8 0).cells.size=1:=rfl
   simp only[Array.size_append,List.size_toArray,size_zeroCells,hz1,hxl,Jz];omega
  ·simp only[Array.toList_append,List.append_assoc]
   rw[<-List.append_assoc,<-hlen];exact List.take_left
 rcases hown.2 with ⟨rfl,rfl⟩|⟨g,cap,cur,rfl,hbg,hg,hnc,hcm,hcs,htake⟩
 ·have hx:xs=[]:=List.eq_nil_of_length_eq_zero hxl
  subst hx;by_cases hm:m=0
  ·subst hm
   refine⟨.slice none 0 0,w,?_,World.ownsRow_nil w base e 1,⟨rfl,rfl,rfl,Nat.le_refl _,fun _ _ _=>rfl⟩,.inl rfl,none,0,rfl⟩
   have hai0:∀W:World,(asIntOf (.int .i64 0)).run P W=.ok (.i64,0) W:=fun _=>rfl
   have hw00:IntKind.i64.wrap 0=0:=rfl;simp[Builtin.append_,run_underlying ht,run_underlying hu,sizeOf,typeInfo,hi,hby,asInt,hai0,hw00]
  ·have hgr:=grown 0 (by omega) (Value.ownBlock (.slice none 0 0))
   simp only[Nat.zero_add,List.nil_append,Array.empty_append]at hgr ⊢;refine⟨_,_,?_,hgr.1,hgr.2,.inr rfl,_,_,rfl⟩
   have h48:¬(281474976710656<Builtin.nextslicecap m 0):=by rw[nextslicecap_zero (by omega)];omega
   have h63':¬(9223372036854775807<(m:Int)):=by omega
   have hm0:¬(m=0):=hm;have hm1:0<m:=by omega
   simp[Builtin.append_,run_underlying ht,run_underlying hu,sizeOf,typeInfo,zeroValue,hi,hz,hsize,hby,asInt,hai,hw0,hneg,hbig,h48,h63',hm0,Question.forced,Builtin.firstCells,newRow,grownCap,Qx]
 ·have hcs':cur.size=cap:=by simpa using hcs
  by_cases hroom:n+m<=cap
  ·have hst:=run_storeCells_at P g n e (G2 m) 0 cur w hg (by rw[Jz];omega) (Aga m)
   simp only[Nat.add_zero,Jz]at hst;refine⟨.slice (some ⟨g,0,none⟩) (n+m) cap,w.setRow g (cur.toList.take n++G2 m++cur.toList.drop (n+m)).toArray,?_,⟨hlen,.inr ⟨g,cap,_,rfl,hbg,setRow_heap w g cur _ e _ hg,hroom,hcm,?_,?_⟩⟩,⟨rfl,rfl,rfl,by simp,fun k _ hk=>setRow_other w g k _ (fun e=>hk (by simp[Value.ownBlock,e]))⟩,.inl rfl,_,_,rfl⟩
   ·by_cases hm:m=0
    ·subst hm
     have hai0:∀W:World,(asIntOf (.int .i64 0)).run P W=.ok (.i64,0) W:=fun _=>rfl
     have hw00:IntKind.i64.wrap 0=0:=rfl;have hroom':n<=cap:=by omega
     simp only[G2,List.replicate,List.append_nil,List.take_append_drop,Array.toArray_toList,Nat.add_zero]at hst;simp[Builtin.append_,run_underlying ht,run_underlying hu,sizeOf,typeInfo,hi,hsize,hby,asInt,hai0,hw00,hroom',G2,Addr.add_lit,hst]
    ·simp[Builtin.append_,run_underlying ht,run_underlying hu,sizeOf,typeInfo,zeroValue,hi,hz,hsize,hby,asInt,hai,hw0,hneg,hbig,hm,hroom,Qx,Addr.add_lit,hst]
   ·simp only[List.size_toArray,List.length_append,List.length_take,List.length_drop,Array.length_toList,Jz]
    omega
   ·have ht':cur.toList.take n=xs:=by simpa using htake
    rw[ht',<-hlen];exact List.take_left
  ·have holds:∀j u,xs[j]?=some u->w.cell? ((⟨g,0,none⟩:Addr).add j)=some u:=hown.cells (g:=g) rfl
   have hgr:=grown cap (by omega) (Value.ownBlock (.slice (some ⟨g,0,none⟩) n cap));refine⟨_,_,?_,hgr.1,hgr.2,.inr rfl,_,_,rfl⟩
   have h48:¬(281474976710656<Builtin.nextslicecap (n+m) cap):=by
    have:=growslice_fits (need:=n+m) (old:=cap) (bytes:=1) (by omega) (by omega);omega
   have h63':¬(9223372036854775807<(n:Int)+(m:Int)):=by omega
   have hfo:=run_firstCells_some (P:=P) w.drew 1 n ⟨g,0,none⟩ n cap xs (by simpa using hxl) (by simpa using holds);have hm0:¬(m=0):=by
    intro h;subst h;exact hroom (by omega)
   simp[Builtin.append_,run_underlying ht,run_underlying hu,sizeOf,typeInfo,zeroValue,hi,hz,hsize,hby,asInt,hai,hw0,hneg,hbig,h48,h63',hm0,hroom,Question.forced,hfo,newRow,grownCap,Qx]
theorem Tx {o:Oper}{a:Act}{K:Act->World->Prop}{Q:Exit->Act->World->Prop}{R:Value->World->Prop}(s x:Operand)(ats:Array TypeId)(ho:o.op=.call { callee:=.builtin .append,args:=#[s,x],argTypes:=ats })
  (v y:Value) (hs:a.eval s=v) (hx:a.eval x=y) (hex:∃v' w',(Builtin.append_ ats o.type #[v,y]).run P w=.ok v' w'/\R v' w') (h:∀v' w',R v' w'->K (a.put o.dst v') w'):o.wp P a w K Q:=by
 obtain⟨v',w',hr,hR⟩:=hex;unfold Oper.wp execOp;simp only[ho,resolve,invoke,builtin,Sem.run_bind,Sem.run_pure,Result.andThen_ok,List.map_toArray,List.map_cons,List.map_nil,hs,hx,hr];exact h v' w' hR
theorem Fy {ops:Array Oper}{rest:List Oper}{o:Oper}{a:Act}{Q:Exit->Act->World->Prop}{R:Value->World->Prop}(hgd:o.guard=none)(s x:Operand)(ats:Array TypeId)(ho:o.op=.call { callee:=.builtin .append,args:=#[s,x],argTypes:=ats })
  (v y:Value) (hs:a.eval s=v) (hx:a.eval x=y) (hex:∃v' w',(Builtin.append_ ats o.type #[v,y]).run P w=.ok v' w'/\R v' w') (h:∀v' w',R v' w'->wpList P ops Q rest (a.put o.dst v') w'):wpList P ops Q (o::rest) a w:=
 wpList_plain hgd fun _ hK=>Tx s x ats ho v y hs hx hex fun v' w' hR=>hK _ _ (h v' w' hR)
theorem Cp {ops:Array Oper}{o:Oper}{a:Act}{K:Act->World->Prop}{Q:Exit->Act->World->Prop}{R:Value->World->Prop}{E:Prop}(hgd:o.guard=none)(s x:Operand)(ats:Array TypeId)(ho:o.op=.call { callee:=.builtin .append,args:=#[s,x],argTypes:=ats })
  (v y:Value) (hs:a.eval s=v) (hx:a.eval x=y) (hex:∃v' w',(Builtin.append_ ats o.type #[v,y]).run P w=.ok v' w'/\R v' w') (h:∀v' w',R v' w'->K (a.put o.dst v') w') :
  if Region.wanted o (yielded ops a.tmps)=true then Oper.wp P o a w K Q else E:=by
 have hw:Region.wanted o (yielded ops a.tmps)=true:=by simp[Region.wanted,hgd]
 rw[if_pos hw];exact Tx s x ats ho v y hs hx hex h
end
end
def Wr (w:World)(g:Nat)(sv:Value)(l:List UInt8):Prop:=Blk w g 195 [sv]/\w.ownsRow 0 5 1 sv l.length (l.map u8)
def Xm (g:Nat)(sv:Value)(k:Nat):Prop:=k=g\/sv.ownBlock=some k
def Fe (g:Nat)(sv sv':Value)(l:List UInt8)(w w':World):Prop:=Wr w' g sv' l/\(∀k,sv'.ownBlock=some k->sv.ownBlock=some k\/w.heap.size<=k)/\Touch (Xm g sv) w w'
def Kl (g:Nat)(sv:Value)(l:List UInt8)(w w':World):Prop:=∃sv',Fe g sv sv' l w w'
theorem Kl.refl {g:Nat}{sv:Value}{l:List UInt8}{w:World}(h:Wr w g sv l):Kl g sv l w w:=⟨sv,h,fun _ e=>.inl e,Touch.refl _ _⟩
theorem Wr.Arx {g:Nat}{sv:Value}{l:List UInt8}{w:World}(h:Wr w g sv l):sv.ownBlock≠some g:=Blk.M1 h.2 h.1 (by decide)
theorem Abh {g:Nat}{sv sv1:Value}{w:World}(hrow:∀k,sv1.ownBlock=some k->sv.ownBlock=some k\/w.heap.size<=k):∀i,i<w.heap.size->Xm g sv1 i->Xm g sv i:=fun i hi hf=>by
 rcases hf with rfl|hf
 ·exact .inl rfl
 ·rcases hrow i hf with h|h
  ·exact .inr h
  ·omega
theorem Fe.next {g:Nat}{sv sv1 sv2:Value}{l:List UInt8}{w w1 w2:World}(hrow:∀k,sv1.ownBlock=some k->sv.ownBlock=some k\/w.heap.size<=k)(ht:Touch (Xm g sv) w w1)(h:Fe g sv1 sv2 l w1 w2):Fe g sv sv2 l w w2:=by
 obtain⟨hw,hr,ht2⟩:=h;refine⟨hw,fun k hk=>?_,ht.trans ht2 (Abh hrow)⟩
 rcases hr k hk with h|h
 ·exact hrow k h
 ·exact .inr (Nat.le_trans ht.size h)
theorem Kl.next {g:Nat}{sv sv1:Value}{l:List UInt8}{w w1 w2:World}(hrow:∀k,sv1.ownBlock=some k->sv.ownBlock=some k\/w.heap.size<=k)(ht:Touch (Xm g sv) w w1)(h:Kl g sv1 l w1 w2):Kl g sv l w w2:=by
 obtain⟨sv2,hw,hr,ht2⟩:=h;refine⟨sv2,hw,fun k hk=>?_,ht.trans ht2 (Abh hrow)⟩
 rcases hr k hk with h|h
 ·exact hrow k h
 ·exact .inr (Nat.le_trans ht.size h)
theorem Wr.keeps {g:Nat}{sv:Value}{l:List UInt8}{w w':World}{k:Nat}{T:TypeId}{cs:List Value}(h:Wr w g sv l)(hb:Blk w k T cs)(h1:T≠195)(h2:T≠5)(ht:Touch (Xm g sv) w w'):Blk w' k T cs:=
 hb.Ak ht fun hf=>by
  rcases hf with rfl|hf
  ·exact Blk.ne_ h.1 hb (Ne.symm h1) rfl
  ·exact Blk.M1 h.2 hb (Ne.symm h2) hf
theorem Wr.Ak {g:Nat}{sv:Value}{l:List UInt8}{w w':World}{F:Nat->Prop}(h:Wr w g sv l)(ht:Touch F w w')(hn:∀k,Xm g sv k->¬F k):Wr w' g sv l:=
 ⟨h.1.Ak ht (hn g (.inl rfl)),Pd h.2 ht fun k hk=>hn k (.inr hk)⟩
theorem Wr.stays {g:Nat}{sv:Value}{l:List UInt8}{w w':World}(h:Wr w g sv l)(hb:Below w.heap.size w w'):Wr w' g sv l:=h.Ak (Touch.Aq hb (fun _=>False)) fun _ _ hf=>hf
theorem Wr.alloc {g:Nat}{sv:Value}{l:List UInt8}{w:World}(h:Wr w g sv l)(o:Obj):Wr (w.alloc o) g sv l:=h.stays ((Below.refl _ _).alloc (Nat.le_refl _) o)
theorem R2 {g:Nat}{sv sv2:Value}{l:List UInt8}{n:Nat}{xs:List Value}{w W0 w1:World}(hW:Wr w g sv l)(hb0:Below w.heap.size w W0)(hgrow:W0.grownBy w1 sv.ownBlock)(hown:w1.ownsRow 0 5 1 sv2 n xs):Blk w1 g 195 [sv]/\sv2.ownBlock≠some g:=by
 have h1:Blk w1 g 195 [sv]:=(hW.1.stays hb0).grown hgrow hW.Arx;exact⟨h1,Blk.M1 hown h1 (by decide)⟩
theorem Qf {g:Nat}{sv sv1 sv2:Value}{l m:List UInt8}{w wr W0 w1:World}(hW:Wr wr g sv1 l)(hrow:∀k,sv1.ownBlock=some k->sv.ownBlock=some k\/w.heap.size<=k)(hT:Touch (Xm g sv) w wr)
  (hb0:Below wr.heap.size wr W0) (hgrow:W0.grownBy w1 sv1.ownBlock) (hown:w1.ownsRow 0 5 1 sv2 (l.length+m.length) (l.map u8++m.map u8)) (hat:∀k,sv2.ownBlock=some k->sv1.ownBlock=some k\/W0.heap.size<=k) :
  Fe g sv sv2 (l++m) w (w1.setCell ⟨g,0,none⟩ sv2):=by
 obtain⟨hB,hne⟩:=R2 hW hb0 hgrow hown;refine Fe.next hrow hT ⟨⟨?_,?_⟩,?_,?_⟩
 ·have:=hB.Be 0 sv2
  simpa using this
 ·have:=ownsRow_setCell_other hown (a:=⟨g,0,none⟩) hne sv2
  simpa using this
 ·intro k hk
  rcases hat k hk with h|h
  ·exact .inl h
  ·exact .inr (Nat.le_trans hb0.size h)
 ·exact((Touch.Aq hb0 (Xm g sv1)).Ay ((Touch.Mq hgrow fun k hk=>.inr hk).mono fun _ _ h=>h)).setCell (.inl (.inl rfl)) _
def Jm (g:Nat)(sv:Value)(l:List UInt8)(v:Value)(w:World)(e:Ending)(w':World):Prop:=e=.returned v/\Kl g sv l w w'
def Rd (w:World)(g:Nat)(r:Rs):Prop:=Blk w g 200 [.string (bs r.s),.int .i64 r.e]/\(r.e≠0->r.s=[])
theorem Ap3 (n:Nat):∀(k j:Nat) (h:j<k),(num n k)[j]'(by rw[Ce];exact h)=UInt8.ofNat (n / 256 ^ (k - 1 - j)):=by
 intro k
 induction k with
 |zero=>intro j h;omega
 |succ k ih=>
  intro j h
  match j,h with
  |0,_=>simp[Aeb]
  |j+1,h=>
   have:=ih j (by omega);simp only[Aeb,List.getElem_cons_succ,this];congr 3
   omega
theorem Am2 (n k m:Nat)(hm:0<m)(hmk:m<=k):(num n k).take (k - (m - 1))=(num n k).take (k - m)++[UInt8.ofNat (n / 256 ^ (m - 1))]:=by
 have h:k - m<(num n k).length:=by rw[Ce];omega
 have e:k - 1 - (k - m)=m - 1:=by omega
 rw[show k - (m - 1)=k - m+1 by omega,List.take_succ_eq_append_getElem h,Ap3 n k (k - m) (by omega),e]
attribute [local go_sem ↓] Go.wp_at_zero Go.wp_at_succ
section
theorem Ai0 (n:Int)(w:World)(hn:n<=9223372036854775807) :
  Calls Tryz.prog 184 #[.int .i64 n] w fun e w'=>e=.returned (.int .i64 (D7 n.toNat))/\w=w':=by
 by_cases h:n<1
 ·have hr:=Zh (show D7 n.toNat=0 by rw[show n.toNat=0 by omega];rfl)
  go_enter Tryz.func184,Tryz.ntmps184
  go_wp2;go_ret;exact⟨Ov (by rw[hr.out];rfl),rfl⟩
 ·have hr:=Zh (show (D7 n.toNat:Int)=(4 - n % 4) % 4 by unfold D7;omega)
  go_enter Tryz.func184,Tryz.ntmps184
  go_wp2;go_ret;exact⟨Ov (by have:=hr.out;omega),rfl⟩
theorem Ag7 (x:Int)(W:World):(convert 124 9 (.slice (some ⟨W.heap.size,0,none⟩) 1 1)).run Tryz.prog (W.alloc (.cells #[.int .u8 x] 5))=.ok (.string (bs [UInt8.ofNat x.toNat])) (W.alloc (.cells #[.int .u8 x] 5)):=
 X3 Tryz.underlying124 Tryz.underlying5 Tryz.underlying9 x W
attribute [local go_sem] Ag7
theorem Bs (n k:Nat)(w:World)(hn:(n:Int)<=9223372036854775807)(hk:k<=8) :
  Calls Tryz.prog 60 #[.int .i64 n,.int .i64 k] w fun e w'=>e=.returned (.string (bs (num n k)))/\Below w.heap.size w w':=by
 go_enter Tryz.func60,Tryz.ntmps60
 go_wp2
 go_loopg [0,5,6] k (fun g m s i wr=>∃(j q:Nat) (l:List UInt8),i=.int .i64 j/\j+g=k/\m=.int .i64 q/\(q:Int)<=9223372036854775807/\s=.string (bs l)/\l.length=j/\num q g++l=num n k/\Below w.heap.size w wr)
 case atStart=>exact⟨0,n,[],rfl,by omega,rfl,hn,rfl,rfl,by simp,Below.refl _ _⟩
 case round=>
  obtain⟨j,q,l,rfl,hj,rfl,hq,rfl,hl,hnum,hB⟩:=hrel;have HN:=Zh hnum;clear hnum;by_cases hlt:j<k
  ·have HS:=Zh (show num (q / 256) (gk - 1)++(UInt8.ofNat (q % 256)::l)=num n k by
    rw[ofNat_mod,<-HN.out,show gk=gk - 1+1 by omega,num];simp)
   go_wp2;go_roundg (gk - 1)
   case measure=>omega
   case rel=>exact⟨j+1,q / 256,UInt8.ofNat (q % 256)::l,by go_num,by omega,by go_num,by omega,by rw[Bl];rfl,by simp[hl],HS.out,hB.alloc hB.size _⟩
  ·have HS:=Zh (show l=num n k by rw[<-HN.out,show gk=0 by omega];rfl)
   go_wp2;go_ret;exact⟨by show Ending.returned (.string (bs l))=_;rw[HS.out],hB⟩
theorem D9 {a b:List UInt8}(h:a=b):Ending.returned (.string (bs a))=.returned (.string (bs b)):=by rw[h]
theorem Kt (b:Bool)(w:World):Calls Tryz.prog 71 #[.bool b] w fun e w'=>e=.returned (.string (bs (Jo b)))/\Below w.heap.size w w':=by
 cases b
 ·go_enter Tryz.func71,Tryz.ntmps71
  go_wp2_with (go_at_call 60;refine(Bs 0 4 _ (by omega) (by omega)).mono ?_;rintro e w' ⟨rfl,hb⟩)
  go_ret;exact⟨rfl,hb⟩
 ·go_enter Tryz.func71,Tryz.ntmps71
  go_wp2_with (go_at_call 60;refine(Bs 1 4 _ (by omega) (by omega)).mono ?_;rintro e w' ⟨rfl,hb⟩)
  go_ret;exact⟨rfl,hb⟩
theorem Aep {l m:List UInt8}(h:filled l=filled m)(hn:m.length % 4≠0):filled l=filled (m++[0]):=by
 rw[h];unfold filled;have:D7 m.length=D7 (m++[0]).length+1:=by simp[D7];omega
 rw[this,List.append_assoc];rfl
theorem Ahl {m:List UInt8}(hn:m.length % 4=0):filled m=m:=by
 unfold filled;rw[show D7 m.length=0 by unfold D7;omega];simp
theorem Z1 (l:List UInt8)(w:World)(hl:l.length<=1000000000) :
  Calls Tryz.prog 115 #[.string (bs l)] w fun e w'=>e=.returned (.string (bs (filled l)))/\Below w.heap.size w w':=by
 go_enter Tryz.func115,Tryz.ntmps115
 go_wp2
 go_loopg [0] 4 (fun g s wr=>∃m:List UInt8,s=.string (bs m)/\filled l=filled m/\(m.length % 4≠0->4 - m.length % 4<=g)/\m.length<=1000000010 - g/\g<=4/\Below w.heap.size w wr)
 case atStart=>exact⟨l,rfl,rfl,fun _=>by omega,by omega,by omega,Below.refl _ _⟩
 case round=>
  obtain⟨m,rfl,hf,hg,hm,hg4,hB⟩:=hrel;have hsz:=Au m;by_cases hn:m.length % 4=0
  ·have HS:=Zh (show m=filled l by rw[hf,Ahl hn])
   have h1:((m.length:Int) % 4 != 0)=false:=by simp;omega
   clear hf hg hn;go_wp2;go_ret;exact⟨D9 HS.out,hB⟩
  ·have HS:=Zh (Aep hf hn)
   have h1:((m.length:Int) % 4 != 0)=true:=by simp;omega
   have hg':=hg hn;have hlen:(m++[(0:UInt8)]).length=m.length+1:=by simp
   clear hf hg;go_wp2;go_roundg (gk - 1)
   case measure=>omega
   case rel=>exact⟨m++[0],by rw[<-Bl],HS.out,fun h=>by omega,by omega,by omega,hB⟩
theorem E6 (l:List UInt8)(w:World)(hl:l.length<=1000000000) :
  Calls Tryz.prog 68 #[.string (bs l)] w fun e w'=>e=.returned (.string (bs (opq l)))/\Below w.heap.size w w':=by
 have hsz:=Au l;have hf:=Qk l;have hp:=Qa l.length;have hn:=Ce l.length 4;go_enter Tryz.func68,Tryz.ntmps68
 go_wp2_with fail;refine(Bs l.length 4 _ (by omega) (by omega)).mono ?_
 rintro e w1 ⟨rfl,hb1⟩;go_wp2_with fail;refine(Z1 l _ hl).mono ?_
 rintro e w2 ⟨rfl,hb2⟩;go_wp2;go_ret;exact⟨by show Ending.returned (.string (bs _++bs _))=_;rw[Bl];rfl,Ad hb1 hb2⟩
end
section
def As (w:World)(B:Nat)(e:TypeId)(sz:Nat)(v:Value)(rows:List (List Value)):Prop:=
 (∀r∈rows,r.length=sz)/\w.ownsRow B e sz v rows.length rows.flatten
section
variable {w w':World} {B:Nat} {e:TypeId} {sz:Nat} {v:Value} {rows:List (List Value)}
theorem As.none_:As w B e sz (.slice none 0 0) []:=⟨by simp,World.ownsRow_nil _ _ _ _⟩
theorem As.at_ (h:As w B e sz v rows):∃A c,v=.slice A rows.length c/\At w sz A rows:=by
 obtain⟨hl,hown⟩:=h;have hlt:=hown.lt;have hcells:=fun g hg=>hown.cells (g:=g) hg
 rcases hown.2 with ⟨rfl,h0⟩|⟨g,cap,cur,rfl,_⟩
 ·refine⟨none,0,by rw[h0],?_⟩
  rw[List.eq_nil_of_length_eq_zero h0];exact At.nil
 ·refine⟨_,_,rfl,fun i r hr=>⟨g,0,rfl,(hlt g rfl).2,fun j u hu=>?_⟩⟩
  have:=hcells g rfl (i*sz+j) u (flat_get rows hl i r hr j u hu);rw[Addr.add_mid,<-Nat.add_assoc]at this;exact this
theorem As.stays (h:As w B e sz v rows)(hb:Below w.heap.size w w'):As w' B e sz v rows:=
 ⟨h.1,Pd h.2 (Touch.Aq hb (fun _=>False)) fun _ _ hf=>hf⟩
theorem As.Ak {F:Nat->Prop}(h:As w B e sz v rows)(ht:Touch F w w')(hn:∀k,v.ownBlock=some k->¬F k):As w' B e sz v rows:=
 ⟨h.1,Pd h.2 ht hn⟩
theorem As.lt (h:As w B e sz v rows):∀k,v.ownBlock=some k->B<=k/\k<w.heap.size:=h.2.lt
theorem As.base {C:Nat}(h:As w B e sz v rows)(hC:C<=B):As w C e sz v rows:=⟨h.1,h.2.1,by
 rcases h.2.2 with h|⟨g,cap,cur,hv,hb,hr⟩
 ·exact .inl h
 ·exact .inr ⟨g,cap,cur,hv,Nat.le_trans hC hb,hr⟩⟩
variable {P:Program}
theorem As.append (t ty:TypeId)(i:TypeInfo){z:Value}{bytes:Nat}(ht:P.underlying t=some (.slice e))(hi:P.info? e=some i)(hz:i.zero=some z)(hsize:i.size=sz)(hby:i.bytes=bytes)
  (hzs:z.cells.size=sz) (h0:0<sz) (hb:bytes<=4096) (h:As w B e sz v rows) (hB:B<=w.heap.size) (r:List Value) (hr:r.length=sz) (h1:∀u∈r,u.oneCell'=true) (hl:rows.length<=1000000000) :
  ∃v' w',(Builtin.append_ #[t,t] ty #[v,.slice (some ⟨w.heap.size,0,none⟩) 1 1]).run P (w.alloc (.cells r.toArray e))=.ok v' w' /\
   (As w' B e sz v' (rows++[r])/\∀a,Below B a w->Below B a w'):=by
 have hone:Blk (w.alloc (.cells r.toArray e)) w.heap.size e r:=Blk.new w e r;have hcell:∀j u,r[j]?=some u->(w.alloc (.cells r.toArray e)).cell? ((⟨w.heap.size,0,none⟩:Addr).add j)=some u:=fun j u hu=>by
  rw[Addr.add_mid,Nat.zero_add,hone.cell,hu]
 obtain⟨v',w',hrun,hown,hgrow,_,hat⟩:=run_append_own_at (P:=P) (w:=w.alloc (.cells r.toArray e)) B t ty e i z sz bytes ht hi hz hsize hby hzs h0 v rows.length rows.flatten (h.2.alloc _) ⟨w.heap.size,0,none⟩ 1 1 r
  (by simpa using hr) hcell h1 (by unfold maxLen;omega) (Nat.le_trans (Nat.mul_le_mul (show rows.length+1<=1000000001 by omega) hb) (by omega)) (by simp;omega)
 refine⟨v',w',hrun,⟨fun q hq=>?_,?_⟩,fun a ha=>?_⟩
 ·rcases List.mem_append.1 hq with hq|hq
  ·exact h.1 q hq
  ·simp at hq;subst hq;exact hr
 ·rw[List.length_append,List.flatten_append]
  simpa using hown
 ·exact(ha.alloc hB _).grown hgrow (by simp;omega) fun k hk=>(h.2.lt k hk).1
end
end
theorem Anx (s:Nat)(hs:0<s)(base c:Array Value)(hb:base.size=s)(hc:c.size=s):Instr.fill (fun i=>some (i*s,s)) base [(0,.agg c)]=some c:=by
 have hv:∀v∈[Value.agg c],v.cells.size=s:=fun v h=>by
  obtain rfl:=List.mem_singleton.1 h;exact hc
 obtain⟨r,hr,hsz,hk⟩:=Great.fill_dense hs [Value.agg c] 0 base hv (by simp only[List.length_cons,List.length_nil];omega);have hr2:Instr.fill (fun i=>some (i*s,s)) base [(0,.agg c)]=some r:=hr;rw[hr2];congr 1
 apply Array.ext
 ·omega
 ·intro k h1 h2
  have h3:=hk k;have hk2:k<s:=by omega
  rw[if_pos (by simp only[List.length_cons,List.length_nil];omega),Nat.div_eq_of_lt hk2,Nat.mod_eq_of_lt hk2]at h3;have h4:r[k]?=c[k]?:=h3;rw[Array.getElem?_eq_getElem h1,Array.getElem?_eq_getElem h2]at h4;exact Option.some.inj h4
theorem K8 {P:Program}{ops:Array Oper}{rest:List Oper}{o:Oper}{a:Act}{w:World}{Q:Exit->Act->World->Prop}(hg:o.guard=none)(t e:TypeId)(x:Operand)(ho:o.op=.buildSlice t 1 #[(0,x)])
  (cs:List Value) (hx:a.eval x=.agg cs.toArray) (hu:P.underlying t=some (.slice e)) (ie:TypeInfo) (z:Value) (hie:P.info? e=some ie) (hz:ie.zero=some z) (_hzs:z.cells.size=cs.length) (hsize:ie.size=cs.length) (h0:0<cs.length) (hsm:cs.length<=1000)
  (h:wpList P ops Q rest (a.put o.dst (.slice (some ⟨w.heap.size,0,none⟩) 1 1)) (w.alloc (.cells cs.toArray e))):wpList P ops Q (o::rest) a w:=by
 refine wpList_buildSlice hg t e 1 #[(0,x)] ho cs.toArray ie z hu hie hz (by rw[hsize];omega) (by rw[hsize];omega) ?_ h
 rw[hsize];have hm:((#[(0,x)]:Array (Nat × Operand)).map fun (i,x)=>(i,a.eval x)).toList=[(0,.agg cs.toArray)]:=by simp[hx]
 rw[hm];exact Anx cs.length h0 _ _ (by simp) (by simp)
def Dq (x:Int)(n:Nat)(f:Nat->Nat)(rest:List UInt8):Option Message:=
 if n<4 then none else if f 0≠2 then none else if n<8 then none else if f 1≠100003 then some ⟨x,false,false,0,Av,1,[]⟩
 else if n<12 then none else if f 2≠3 then some ⟨x,false,false,0,Av,2,[]⟩
 else if n<48 then none
 else if O7 (f 3)=false then some ⟨x,false,false,0,Av,3,[]⟩
 else if f 4≠1\/f 5≠16\/f 10≠0\/f 11≠0\/A8.ok ⟨f 6,f 7,f 8,f 9⟩=false\/n % 4≠0 then some ⟨x,false,false,0,Av,4,[]⟩
 else some ⟨x,false,false,f 3,⟨f 6,f 7,f 8,f 9⟩,0,rest⟩
def Ew (x:Int)(n:Nat)(f:Nat->Nat)(rest:List UInt8):Option Message:=
 if n<16 then none else if f 0≠0\/1<f 1\/f 2≠0\/n % 4≠0 then none
 else if Message.may ⟨x,true,f 1==1,0,Av,f 3,rest⟩ then some ⟨x,true,f 1==1,0,Av,f 3,rest⟩ else none
def at0 (s:List UInt8)(k:Nat):Nat:=((s[k]?).getD 0).toNat
def Bx.Sh (p:Bx):Bool:=decide ((p.kind=1\/p.kind=2)/\(0<=p.a/\p.a<=4294967295)/\0<=p.b)
theorem Bx.N6 (p:Bx):p.Sh=true ↔ (p.kind=1\/p.kind=2)/\(0<=p.a/\p.a<=4294967295)/\0<=p.b:=by unfold Bx.Sh;exact decide_eq_true_iff
def fhB (p:Bx):List UInt8:=num (p.kind.toNat*16777216) 4++num p.a.toNat 4++num p.b.toNat 8
theorem Acp (p:Bx):(fhB p).length=16:=by simp[fhB,Ce]
def To (p:Bx):List UInt8:=if p.Sh then fhB p else []
theorem Akp (k:Nat)(_h:k<256):num (k*16777216) 4=[UInt8.ofNat k,0,0,0]:=by
 simp only[num,List.nil_append,List.cons_append];rw[show k*16777216 / 256 / 256 / 256=k by omega];congr 1
 congr 1
 ·apply UInt8.toNat_inj.1;simp<;>omega
 ·congr 1
  ·apply UInt8.toNat_inj.1;simp<;>omega
  ·congr 1
   apply UInt8.toNat_inj.1;simp<;>omega
structure Lim where
 space:Int
 quota:Int
 nodes:Int
 deriving DecidableEq
structure Nd where
 attr:Attr
 data:ByteArray
 verf:Int
 parent:Int
 last:Int
 ea:Option Addr
 en:Nat
 ec:Nat
structure Tr where
 lim:Lim
 now:Int
 gens:Int
 na:Option Addr
 nc:Nat
 ns:List Nd
def used (ns:List Nd):Nat:=(ns.map fun n=>n.data.size).sum
def owned (ns:List Nd)(uid:Int):Nat:=used (ns.filter fun n=>n.attr.uid==uid)
def free (t:Tr):Int:=max 0 (t.lim.space - used t.ns)
def left (t:Tr)(uid:Int):Int:=if uid==0 then free t else min (free t) (max 0 (t.lim.quota - owned t.ns uid))
end Go.Proofs.YtfjflkmhhbhceaaGreatDoor
