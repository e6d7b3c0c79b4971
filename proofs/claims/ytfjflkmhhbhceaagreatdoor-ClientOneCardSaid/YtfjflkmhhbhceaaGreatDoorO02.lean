/-
  Memory words for all walks: a slice whose rows of cells are known; what a region that draws its order keeps. No condition.
-/
import Derived.Below
import Derived.WalkKit
import Derived.WalkSpells
import Derived.WalkLawsBesides
import Derived.Deep.RegionHeld3
import Derived.Deep.DrawnRows
import Derived.Deep.MidRow
import Derived.Deep.Draws
import Derived.BigQuiet
import Derived.Deep.QuietTactic
import Derived.Deep.LoopGhost
import Derived.Lib.Hide
namespace Go.Proofs.YtfjflkmhhbhceaaGreatDoor
open Go.RowKit
section
theorem Zh {p:Prop}(h:p):Go.RowKit.Hid p:=h
theorem Ad {w W W':World}(h:Below w.heap.size w W)(hb:Below W.heap.size W W'):Below w.heap.size w W':=h.trans (hb.mono h.size)
theorem bdN {B:Nat}{a w:World}(h:Below B a w)(n:Nat):Below B a (w.drewN n):=⟨h.os,h.tape,h.output,h.size,h.block⟩
theorem Alk {w W:World}(o:Obj)(hb:Below (w.alloc o).heap.size (w.alloc o) W):Below w.heap.size w W:=
 Ad ((Below.refl _ _).alloc (Nat.le_refl _) o) hb
theorem Ov {k:IntKind}{a b:Int}(h:a=b):Ending.returned (.int k a)=.returned (.int k b):=by rw[h]
theorem A5 {a b:Bool}(h:a=b):Ending.returned (.bool a)=.returned (.bool b):=by rw[h]
def At (w:World)(sz:Nat)(A:Option Addr)(rows:List (List Value)):Prop:=
 ∀i r,rows[i]?=some r->∃b off,A=some ⟨b,off,none⟩/\b<w.heap.size/\∀j u,r[j]?=some u->w.cell? ⟨b,off+i*sz+j,none⟩=some u
theorem At.below {w w':World}{sz:Nat}{A:Option Addr}{rows:List (List Value)}(h:At w sz A rows)(hb:Below w.heap.size w w'):At w' sz A rows:=by
 intro i r hr;obtain⟨b,off,hA,hlt,hc⟩:=h i r hr;exact⟨b,off,hA,Nat.lt_of_lt_of_le hlt hb.size,fun j u hu=>(hb.cell (p:=⟨b,_,none⟩) hlt).trans (hc j u hu)⟩
theorem At.drew {w:World}{sz:Nat}{A:Option Addr}{rows:List (List Value)}(h:At w sz A rows):At w.drew sz A rows:=h
theorem At.nil {w:World}{sz:Nat}{A:Option Addr}:At w sz A []:=fun i r h=>by simp at h
theorem At.getD {w:World}{sz:Nat}{A:Option Addr}{rows:List (List Value)}(h:At w sz A rows){k:Nat}(hk:k<rows.length) :
  ∃b off,A=some ⟨b,off,none⟩/\b<w.heap.size/\∀j u,rows[k][j]?=some u->w.cell? ⟨b,off+k*sz+j,none⟩=some u:=h k _ (List.getElem?_eq_getElem hk)
section
variable {P:Program}
theorem M6 (w:World)(T:TypeId):∀(cs:List Value) (pre zs:List Value),zs.length=cs.length ->
  (w.alloc (.cells (pre++zs).toArray T)).setCells w.heap.size pre.length cs=w.alloc (.cells (pre++cs).toArray T)
 |[],pre,zs,h=>by
  have:zs=[]:=List.eq_nil_of_length_eq_zero h;subst this;rfl
 |c::cs,pre,z::zs,h=>by
  rw[World.setCells,World.setCell_alloc_at _ _ _ _ _ rfl];have e:(pre++z::zs).toArray.setIfInBounds pre.length c=((pre++[c])++zs).toArray:=by simp
  rw[e];have:=M6 w T cs (pre++[c]) zs (by simpa using h);rw[show (pre++[c]).length=pre.length+1 by simp]at this;rw[this];simp
theorem Dh {ops:Array Oper}{rest:List Oper}{o1 o2:Oper}{a:Act}{w:World}{Q:Exit->Act->World->Prop}(h1:o1.guard=none)(h2:o2.guard=none)(T:TypeId)(ho1:o1.op=.alloc T)(x y:Operand)(ho2:o2.op=.store T x y)
  (C:List Value) {Z:Array Value} {n:Nat} (hinfo:(P.info? T).map (fun i=>(i.zero,i.size))=some (some (.agg Z),n)) (hsz:C.length=n) (hZ:Z.size=n) (hone:∀v∈C,v.oneCell'=true)
  (hx:(a.put o1.dst (.pointer (some ⟨w.heap.size,0,none⟩))).eval x=.pointer (some ⟨w.heap.size,0,none⟩)) (hy:(a.put o1.dst (.pointer (some ⟨w.heap.size,0,none⟩))).eval y=.agg C.toArray)
  (h:wpList P ops Q rest ((a.put o1.dst (.pointer (some ⟨w.heap.size,0,none⟩))).put o2.dst undef) (w.alloc (.cells C.toArray T))):wpList P ops Q (o1::o2::rest) a w:=by
 obtain⟨i,hi,hzi,hsi⟩:∃i,P.info? T=some i/\i.zero=some (.agg Z)/\i.size=n:=by
  cases hq:P.info? T with
  |none=>rw[hq]at hinfo;cases hinfo
  |some i=>rw[hq]at hinfo;simp at hinfo;exact⟨i,rfl,hinfo.1,hinfo.2⟩
 refine wpList_plain h1 fun K hK=>?_
 have hrun:(Instr.alloc T true (.tuple #[])).run P w=.ok (.pointer (some ⟨w.heap.size,0,none⟩)) (w.alloc (.cells Z T)):=by
  simp[Instr.alloc,zeroValue,typeInfo,hi,hzi,newVar,newRow,Value.cells,go_sem]
 unfold Oper.wp execOp;simp only[ho1,Sem.run_bind,Sem.run_pure,Result.andThen_ok,hrun];refine hK _ _ ?_
 refine wpList_store_mid h2 T x y ho2 w.heap.size 0 C.toArray hx hy ?_ (by simp[hi,hsi,hsz]) (all_oneCell_toArray hone) ?_
 ·intro j hj
  rw[World.cell?_alloc_at _ _ _ _ rfl,World.frozen?_alloc_at _ _ _ _ rfl];simp at hj
  simp
  omega
 ·have:=M6 w T C [] Z.toList (by simp;omega)
  simp only[List.nil_append,List.length_nil,Array.toArray_toList]at this
  simpa[this] using h
end
theorem Gd (w:World)(C:List Value)(T:TypeId):(w.alloc (.cells C.toArray T)).rangeAt w.heap.size 0 C:=fun j v hv=>by
 rw[World.cell?_alloc_at _ _ _ _ rfl];simpa using hv
def rowOf (w:World)(b o n:Nat):Option (Array Value):=
 match w.heap[b]? with
 |some (.cells C _ _)=>if o+n<=C.size then some (C.extract o (o+n)) else none
 |_=>none
def rowAt (w:World)(n:Nat):Value->Option (Array Value)
 |.pointer (some ⟨b,o,none⟩)=>rowOf w b o n
 |_=>none
theorem Ai (w:World)(n b o:Nat):rowAt w n (.pointer (some ⟨b,o,none⟩))=rowOf w b o n:=rfl
theorem Adh {w:World}{b o n:Nat}{cs:Array Value}(h:rowOf w b o n=some cs):w.rangeAt b o cs.toList/\cs.size=n:=by
 unfold rowOf at h;split at h
 ·rename_i C T fr hb
  split at h
  ·rename_i hle
   obtain rfl:C.extract o (o+n)=cs:=by simpa using h
   refine⟨fun j v hv=>?_,by simp;omega⟩
   simp only[World.cell?,hb];simp only[Array.toList_extract,List.extract_eq_take_drop,List.getElem?_take,List.getElem?_drop]at hv;split at hv
   ·simpa using hv
   ·cases hv
  ·cases h
 ·cases h
theorem Mm {w:World}{b o n:Nat}{cs:List Value}(h:w.rangeAt b o cs)(hn:cs.length=n)(h0:0<n):rowOf w b o n=some cs.toArray:=by
 have h1:=h 0 cs[0] (List.getElem?_eq_getElem (by omega));unfold World.cell? at h1;split at h1
 ·rename_i C T fr hb
  have hc:∀j v,cs[j]?=some v->C[o+j]?=some v:=fun j v hv=>by
   have:=h j v hv
   simpa[World.cell?,hb] using this
  have hlast:=hc (n - 1) cs[n - 1] (List.getElem?_eq_getElem (by omega));have hsz:o+(n - 1)<C.size:=(Array.getElem?_eq_some_iff.1 hlast).1;simp only at hb
  simp only[rowOf,hb];rw[if_pos (by omega)];congr 1
  apply Array.ext
  ·simp;omega
  ·intro i h2 h3
   simp at h3
   have:=hc i cs[i] (List.getElem?_eq_getElem h3);have e:=(Array.getElem?_eq_some_iff.1 this).2
   simpa using e
 ·cases h1
theorem Ag (w:World)(b o n:Nat):rowOf w.drew b o n=rowOf w b o n:=rfl
theorem Af (w:World)(b o n k:Nat):rowOf (w.drewN k) b o n=rowOf w b o n:=rfl
theorem Ab (w:World)(ob:Obj)(b o n:Nat)(hb:b<w.heap.size):rowOf (w.alloc ob) b o n=rowOf w b o n:=by
 simp only[rowOf,Below.heap_alloc w ob b hb]
theorem Fu {B:Nat}{w w':World}(h:Below B w w'){b:Nat}(hb:b<B)(o n:Nat):rowOf w' b o n=rowOf w b o n:=by
 simp only[rowOf,h.block b hb]
theorem D8 {P:Program}{ρ:Operand->Value}{w:World}{dst:Option Tmp}{ty:TypeId}{pos:String}{after:Array Edge}{g:Option (Nat × Bool)}{x:Operand}(T n:Nat){d:TypeDesc}
  (hu:P.underlying T=some d) (hd:d.isRow=true) (hi:(P.info? T).map (·.size)=some n) (h:(rowAt w n (ρ x)).isSome=true) :
  (execOp ρ ⟨dst,.load T x,ty,pos,after,g⟩).run P w=.ok (.value (.agg ((rowAt w n (ρ x)).getD #[]))) w:=by
 cases hr:rowAt w n (ρ x) with
 |none=>rw[hr]at h;cases h
 |some cs=>
  cases hx:ρ x with
  |pointer p=>
   rw[hx]at hr
   match p,hr with
   |some ⟨b,o,none⟩,hr=>
    have hr':rowOf w b o n=some cs:=hr;obtain⟨h1,h2⟩:=Adh hr';have:=run_loadAt_mid (P:=P) w b o T cs.toList d h1 hu hd (by rw[hi];simp[h2]);unfold execOp;simp only[hx,Sem.run_bind,Sem.run_pure,Result.andThen_ok,this,Array.toArray_toList,Option.getD_some]
  |_=>rw[hx]at hr;cases hr
theorem Aj (w:World)(C:Array Value)(T:TypeId)(b o n:Nat)(hb:b=w.heap.size)(hn:o+n<=C.size):rowOf (w.alloc (.cells C T)) b o n=some (C.extract o (o+n)):=by
 subst hb;simp only[rowOf,heap_alloc_new];rw[if_pos hn]
abbrev Stb (w W:World):Prop:=(∀b o,b<w.heap.size->W.cell? ⟨b,o,none⟩=w.cell? ⟨b,o,none⟩)/\(∀b o n,b<w.heap.size->rowOf W b o n=rowOf w b o n)/\Below w.heap.size w W
theorem Stb.of {w W:World}(h:Below w.heap.size w W):Stb w W:=⟨fun _ _ hb=>h.cell hb,fun _ _ _ hb=>Fu h hb _ _,h⟩
theorem Stb.start {w:World}:Stb w w.drew:=Stb.of (Below.refl _ _).drew
theorem Stb.below {w W:World}(h:Stb w W):Below w.heap.size w W:=h.2.2
theorem Stb.call {w W W':World}(h:Stb w W)(hb:Below W.heap.size W W'):Stb w W':=Stb.of (Ad h.2.2 hb)
theorem Stb.alloc {w W:World}(h:Stb w W)(o:Obj):Stb w (W.alloc o):=Stb.of (h.2.2.alloc h.2.2.size o)
end
structure Attr where
 type:Int
 mode:Int
 nlink:Int
 uid:Int
 gid:Int
 size:Int
 id:Int
 gen:Int
 change:Int
 time:Int
 deriving DecidableEq
def Attr.vals (x:Attr):List Value:=[.int .i64 x.type,.int .i64 x.mode,.int .i64 x.nlink,.int .i64 x.uid,.int .i64 x.gid,.int .i64 x.size,.int .i64 x.id,.int .i64 x.gen,.int .i64 x.change,.int .i64 x.time]
theorem Attr.len (x:Attr):x.vals.length=10:=rfl
theorem Attr.one (x:Attr):∀v∈x.vals,v.oneCell'=true:=by
 intro v hv;unfold Attr.vals at hv;simp only[List.mem_cons,List.not_mem_nil,or_false]at hv;rcases hv with rfl|rfl|rfl|rfl|rfl|rfl|rfl|rfl|rfl|rfl<;>rfl
theorem Attr.at0 (x:Attr)(h:0<x.vals.length):x.vals[0]=.int .i64 x.type:=rfl
theorem Attr.Bo (x:Attr):x.vals[0]?=some (.int .i64 x.type):=rfl
theorem Attr.at1 (x:Attr)(h:1<x.vals.length):x.vals[1]=.int .i64 x.mode:=rfl
theorem Attr.Bk (x:Attr):x.vals[1]?=some (.int .i64 x.mode):=rfl
theorem Attr.at2 (x:Attr)(h:2<x.vals.length):x.vals[2]=.int .i64 x.nlink:=rfl
theorem Attr.Ca (x:Attr):x.vals[2]?=some (.int .i64 x.nlink):=rfl
theorem Attr.at3 (x:Attr)(h:3<x.vals.length):x.vals[3]=.int .i64 x.uid:=rfl
theorem Attr.Cg (x:Attr):x.vals[3]?=some (.int .i64 x.uid):=rfl
theorem Attr.at4 (x:Attr)(h:4<x.vals.length):x.vals[4]=.int .i64 x.gid:=rfl
theorem Attr.Cx (x:Attr):x.vals[4]?=some (.int .i64 x.gid):=rfl
theorem Attr.at5 (x:Attr)(h:5<x.vals.length):x.vals[5]=.int .i64 x.size:=rfl
theorem Attr.Cw (x:Attr):x.vals[5]?=some (.int .i64 x.size):=rfl
theorem Attr.at6 (x:Attr)(h:6<x.vals.length):x.vals[6]=.int .i64 x.id:=rfl
theorem Attr.Cv (x:Attr):x.vals[6]?=some (.int .i64 x.id):=rfl
theorem Attr.at7 (x:Attr)(h:7<x.vals.length):x.vals[7]=.int .i64 x.gen:=rfl
theorem Attr.Cu (x:Attr):x.vals[7]?=some (.int .i64 x.gen):=rfl
theorem Attr.at8 (x:Attr)(h:8<x.vals.length):x.vals[8]=.int .i64 x.change:=rfl
theorem Attr.Ct (x:Attr):x.vals[8]?=some (.int .i64 x.change):=rfl
theorem Attr.at9 (x:Attr)(h:9<x.vals.length):x.vals[9]=.int .i64 x.time:=rfl
theorem Attr.Cs (x:Attr):x.vals[9]?=some (.int .i64 x.time):=rfl
theorem Attr.Cl (x:Attr):x.vals.toArray.extract 0 10=x.vals.toArray:=(List.extract_toArray ..).trans (congrArg List.toArray (show _=x.vals from rfl))
theorem Attr.B4 (x:Attr):x.vals.take 10=x.vals:=rfl
def Attr.C9 (x:Attr):Prop:=(Lit.int .i64 x.type).wf=true/\(Lit.int .i64 x.mode).wf=true/\(Lit.int .i64 x.nlink).wf=true/\(Lit.int .i64 x.uid).wf=true/\(Lit.int .i64 x.gid).wf=true/\(Lit.int .i64 x.size).wf=true/\(Lit.int .i64 x.id).wf=true/\(Lit.int .i64 x.gen).wf=true/\(Lit.int .i64 x.change).wf=true/\(Lit.int .i64 x.time).wf=true
structure Opt where
 is:Bool
 n:Int
 deriving DecidableEq
def Opt.vals (x:Opt):List Value:=[.bool x.is,.int .i64 x.n]
theorem Opt.len (x:Opt):x.vals.length=2:=rfl
theorem Opt.one (x:Opt):∀v∈x.vals,v.oneCell'=true:=by
 intro v hv;unfold Opt.vals at hv;simp only[List.mem_cons,List.not_mem_nil,or_false]at hv;rcases hv with rfl|rfl<;>rfl
theorem Opt.at0 (x:Opt)(h:0<x.vals.length):x.vals[0]=.bool x.is:=rfl
theorem Opt.Bo (x:Opt):x.vals[0]?=some (.bool x.is):=rfl
theorem Opt.at1 (x:Opt)(h:1<x.vals.length):x.vals[1]=.int .i64 x.n:=rfl
theorem Opt.Bk (x:Opt):x.vals[1]?=some (.int .i64 x.n):=rfl
theorem Opt.Ch (x:Opt):x.vals.toArray.extract 0 2=x.vals.toArray:=(List.extract_toArray ..).trans (congrArg List.toArray (show _=x.vals from rfl))
theorem Opt.Br (x:Opt):x.vals.take 2=x.vals:=rfl
def Opt.C9 (x:Opt):Prop:=(Lit.int .i64 x.n).wf=true
structure Ac where
 mode:Opt
 uid:Opt
 gid:Opt
 size:Opt
 time:Opt
 deriving DecidableEq
def Ac.vals (x:Ac):List Value:=x.mode.vals++(x.uid.vals++(x.gid.vals++(x.size.vals++x.time.vals)))
theorem Ac.len (x:Ac):x.vals.length=10:=rfl
theorem Ac.one (x:Ac):∀v∈x.vals,v.oneCell'=true:=by
 intro v hv;unfold Ac.vals at hv;rcases List.mem_append.1 hv with hv|hv
 ·exact Opt.one _ v hv
 ·rcases List.mem_append.1 hv with hv|hv
  ·exact Opt.one _ v hv
  ·rcases List.mem_append.1 hv with hv|hv
   ·exact Opt.one _ v hv
   ·rcases List.mem_append.1 hv with hv|hv
    ·exact Opt.one _ v hv
    ·exact Opt.one _ v hv
theorem Ac.at0 (x:Ac)(h:0<x.vals.length):x.vals[0]=.bool x.mode.is:=rfl
theorem Ac.Bo (x:Ac):x.vals[0]?=some (.bool x.mode.is):=rfl
theorem Ac.at1 (x:Ac)(h:1<x.vals.length):x.vals[1]=.int .i64 x.mode.n:=rfl
theorem Ac.Bk (x:Ac):x.vals[1]?=some (.int .i64 x.mode.n):=rfl
theorem Ac.at2 (x:Ac)(h:2<x.vals.length):x.vals[2]=.bool x.uid.is:=rfl
theorem Ac.Ca (x:Ac):x.vals[2]?=some (.bool x.uid.is):=rfl
theorem Ac.at3 (x:Ac)(h:3<x.vals.length):x.vals[3]=.int .i64 x.uid.n:=rfl
theorem Ac.Cg (x:Ac):x.vals[3]?=some (.int .i64 x.uid.n):=rfl
theorem Ac.at4 (x:Ac)(h:4<x.vals.length):x.vals[4]=.bool x.gid.is:=rfl
theorem Ac.Cx (x:Ac):x.vals[4]?=some (.bool x.gid.is):=rfl
theorem Ac.at5 (x:Ac)(h:5<x.vals.length):x.vals[5]=.int .i64 x.gid.n:=rfl
theorem Ac.Cw (x:Ac):x.vals[5]?=some (.int .i64 x.gid.n):=rfl
theorem Ac.at6 (x:Ac)(h:6<x.vals.length):x.vals[6]=.bool x.size.is:=rfl
theorem Ac.Cv (x:Ac):x.vals[6]?=some (.bool x.size.is):=rfl
theorem Ac.at7 (x:Ac)(h:7<x.vals.length):x.vals[7]=.int .i64 x.size.n:=rfl
theorem Ac.Cu (x:Ac):x.vals[7]?=some (.int .i64 x.size.n):=rfl
theorem Ac.at8 (x:Ac)(h:8<x.vals.length):x.vals[8]=.bool x.time.is:=rfl
theorem Ac.Ct (x:Ac):x.vals[8]?=some (.bool x.time.is):=rfl
theorem Ac.at9 (x:Ac)(h:9<x.vals.length):x.vals[9]=.int .i64 x.time.n:=rfl
theorem Ac.Cs (x:Ac):x.vals[9]?=some (.int .i64 x.time.n):=rfl
theorem Ac.Cl (x:Ac):x.vals.toArray.extract 0 10=x.vals.toArray:=(List.extract_toArray ..).trans (congrArg List.toArray (show _=x.vals from rfl))
theorem Ac.B4 (x:Ac):x.vals.take 10=x.vals:=rfl
theorem Ac.Ch (x:Ac):x.vals.toArray.extract 0 2=x.mode.vals.toArray:=(List.extract_toArray ..).trans (congrArg List.toArray (show _=x.mode.vals from rfl))
theorem Ac.Br (x:Ac):x.vals.take 2=x.mode.vals:=rfl
theorem Ac.Gn (x:Ac):x.vals.toArray.extract 2 4=x.uid.vals.toArray:=(List.extract_toArray ..).trans (congrArg List.toArray (show _=x.uid.vals from rfl))
theorem Ac.E1 (x:Ac):(x.vals.drop 2).take 2=x.uid.vals:=rfl
theorem Ac.Gm (x:Ac):x.vals.toArray.extract 4 6=x.gid.vals.toArray:=(List.extract_toArray ..).trans (congrArg List.toArray (show _=x.gid.vals from rfl))
theorem Ac.E0 (x:Ac):(x.vals.drop 4).take 2=x.gid.vals:=rfl
theorem Ac.Gl (x:Ac):x.vals.toArray.extract 6 8=x.size.vals.toArray:=(List.extract_toArray ..).trans (congrArg List.toArray (show _=x.size.vals from rfl))
theorem Ac.Ez (x:Ac):(x.vals.drop 6).take 2=x.size.vals:=rfl
theorem Ac.Gk (x:Ac):x.vals.toArray.extract 8 10=x.time.vals.toArray:=(List.extract_toArray ..).trans (congrArg List.toArray (show _=x.time.vals from rfl))
theorem Ac.Ey (x:Ac):(x.vals.drop 8).take 2=x.time.vals:=rfl
def Ac.C9 (x:Ac):Prop:=x.mode.C9/\x.uid.C9/\x.gid.C9/\x.size.C9/\x.time.C9
structure Ah where
 is:Bool
 attr:Attr
 deriving DecidableEq
def Ah.vals (x:Ah):List Value:=[.bool x.is]++x.attr.vals
theorem Ah.len (x:Ah):x.vals.length=11:=rfl
theorem Ah.one (x:Ah):∀v∈x.vals,v.oneCell'=true:=by
 intro v hv;unfold Ah.vals at hv;rcases List.mem_append.1 hv with hv|hv
 ·simp only[List.mem_cons,List.not_mem_nil,or_false]at hv
  subst hv;rfl
 ·exact Attr.one _ v hv
theorem Ah.at0 (x:Ah)(h:0<x.vals.length):x.vals[0]=.bool x.is:=rfl
theorem Ah.Bo (x:Ah):x.vals[0]?=some (.bool x.is):=rfl
theorem Ah.at1 (x:Ah)(h:1<x.vals.length):x.vals[1]=.int .i64 x.attr.type:=rfl
theorem Ah.Bk (x:Ah):x.vals[1]?=some (.int .i64 x.attr.type):=rfl
theorem Ah.at2 (x:Ah)(h:2<x.vals.length):x.vals[2]=.int .i64 x.attr.mode:=rfl
theorem Ah.Ca (x:Ah):x.vals[2]?=some (.int .i64 x.attr.mode):=rfl
theorem Ah.at3 (x:Ah)(h:3<x.vals.length):x.vals[3]=.int .i64 x.attr.nlink:=rfl
theorem Ah.Cg (x:Ah):x.vals[3]?=some (.int .i64 x.attr.nlink):=rfl
theorem Ah.at4 (x:Ah)(h:4<x.vals.length):x.vals[4]=.int .i64 x.attr.uid:=rfl
theorem Ah.Cx (x:Ah):x.vals[4]?=some (.int .i64 x.attr.uid):=rfl
theorem Ah.at5 (x:Ah)(h:5<x.vals.length):x.vals[5]=.int .i64 x.attr.gid:=rfl
theorem Ah.Cw (x:Ah):x.vals[5]?=some (.int .i64 x.attr.gid):=rfl
theorem Ah.at6 (x:Ah)(h:6<x.vals.length):x.vals[6]=.int .i64 x.attr.size:=rfl
theorem Ah.Cv (x:Ah):x.vals[6]?=some (.int .i64 x.attr.size):=rfl
theorem Ah.at7 (x:Ah)(h:7<x.vals.length):x.vals[7]=.int .i64 x.attr.id:=rfl
theorem Ah.Cu (x:Ah):x.vals[7]?=some (.int .i64 x.attr.id):=rfl
theorem Ah.at8 (x:Ah)(h:8<x.vals.length):x.vals[8]=.int .i64 x.attr.gen:=rfl
theorem Ah.Ct (x:Ah):x.vals[8]?=some (.int .i64 x.attr.gen):=rfl
theorem Ah.at9 (x:Ah)(h:9<x.vals.length):x.vals[9]=.int .i64 x.attr.change:=rfl
theorem Ah.Cs (x:Ah):x.vals[9]?=some (.int .i64 x.attr.change):=rfl
theorem Ah.Ee (x:Ah)(h:10<x.vals.length):x.vals[10]=.int .i64 x.attr.time:=rfl
theorem Ah.C4 (x:Ah):x.vals[10]?=some (.int .i64 x.attr.time):=rfl
theorem Ah.Kp (x:Ah):x.vals.toArray.extract 0 11=x.vals.toArray:=(List.extract_toArray ..).trans (congrArg List.toArray (show _=x.vals from rfl))
theorem Ah.Iy (x:Ah):x.vals.take 11=x.vals:=rfl
theorem Ah.Kn (x:Ah):x.vals.toArray.extract 1 11=x.attr.vals.toArray:=(List.extract_toArray ..).trans (congrArg List.toArray (show _=x.attr.vals from rfl))
theorem Ah.Iw (x:Ah):x.vals.tail.take 10=x.attr.vals:=rfl
def Ah.C9 (x:Ah):Prop:=x.attr.C9
structure Wcc where
 before:Opt
 after:Ah
 deriving DecidableEq
def Wcc.vals (x:Wcc):List Value:=x.before.vals++x.after.vals
theorem Wcc.len (x:Wcc):x.vals.length=13:=rfl
theorem Wcc.one (x:Wcc):∀v∈x.vals,v.oneCell'=true:=by
 intro v hv;unfold Wcc.vals at hv;rcases List.mem_append.1 hv with hv|hv
 ·exact Opt.one _ v hv
 ·exact Ah.one _ v hv
theorem Wcc.at0 (x:Wcc)(h:0<x.vals.length):x.vals[0]=.bool x.before.is:=rfl
theorem Wcc.Bo (x:Wcc):x.vals[0]?=some (.bool x.before.is):=rfl
theorem Wcc.at1 (x:Wcc)(h:1<x.vals.length):x.vals[1]=.int .i64 x.before.n:=rfl
theorem Wcc.Bk (x:Wcc):x.vals[1]?=some (.int .i64 x.before.n):=rfl
theorem Wcc.at2 (x:Wcc)(h:2<x.vals.length):x.vals[2]=.bool x.after.is:=rfl
theorem Wcc.Ca (x:Wcc):x.vals[2]?=some (.bool x.after.is):=rfl
theorem Wcc.at3 (x:Wcc)(h:3<x.vals.length):x.vals[3]=.int .i64 x.after.attr.type:=rfl
theorem Wcc.Cg (x:Wcc):x.vals[3]?=some (.int .i64 x.after.attr.type):=rfl
theorem Wcc.at4 (x:Wcc)(h:4<x.vals.length):x.vals[4]=.int .i64 x.after.attr.mode:=rfl
theorem Wcc.Cx (x:Wcc):x.vals[4]?=some (.int .i64 x.after.attr.mode):=rfl
theorem Wcc.at5 (x:Wcc)(h:5<x.vals.length):x.vals[5]=.int .i64 x.after.attr.nlink:=rfl
theorem Wcc.Cw (x:Wcc):x.vals[5]?=some (.int .i64 x.after.attr.nlink):=rfl
theorem Wcc.at6 (x:Wcc)(h:6<x.vals.length):x.vals[6]=.int .i64 x.after.attr.uid:=rfl
theorem Wcc.Cv (x:Wcc):x.vals[6]?=some (.int .i64 x.after.attr.uid):=rfl
theorem Wcc.at7 (x:Wcc)(h:7<x.vals.length):x.vals[7]=.int .i64 x.after.attr.gid:=rfl
theorem Wcc.Cu (x:Wcc):x.vals[7]?=some (.int .i64 x.after.attr.gid):=rfl
theorem Wcc.at8 (x:Wcc)(h:8<x.vals.length):x.vals[8]=.int .i64 x.after.attr.size:=rfl
theorem Wcc.Ct (x:Wcc):x.vals[8]?=some (.int .i64 x.after.attr.size):=rfl
theorem Wcc.at9 (x:Wcc)(h:9<x.vals.length):x.vals[9]=.int .i64 x.after.attr.id:=rfl
theorem Wcc.Cs (x:Wcc):x.vals[9]?=some (.int .i64 x.after.attr.id):=rfl
theorem Wcc.Ee (x:Wcc)(h:10<x.vals.length):x.vals[10]=.int .i64 x.after.attr.gen:=rfl
theorem Wcc.C4 (x:Wcc):x.vals[10]?=some (.int .i64 x.after.attr.gen):=rfl
theorem Wcc.Fm (x:Wcc)(h:11<x.vals.length):x.vals[11]=.int .i64 x.after.attr.change:=rfl
theorem Wcc.Dm (x:Wcc):x.vals[11]?=some (.int .i64 x.after.attr.change):=rfl
theorem Wcc.Fl (x:Wcc)(h:12<x.vals.length):x.vals[12]=.int .i64 x.after.attr.time:=rfl
theorem Wcc.Dl (x:Wcc):x.vals[12]?=some (.int .i64 x.after.attr.time):=rfl
theorem Wcc.Ko (x:Wcc):x.vals.toArray.extract 0 13=x.vals.toArray:=(List.extract_toArray ..).trans (congrArg List.toArray (show _=x.vals from rfl))
theorem Wcc.Ix (x:Wcc):x.vals.take 13=x.vals:=rfl
theorem Wcc.Ch (x:Wcc):x.vals.toArray.extract 0 2=x.before.vals.toArray:=(List.extract_toArray ..).trans (congrArg List.toArray (show _=x.before.vals from rfl))
theorem Wcc.Br (x:Wcc):x.vals.take 2=x.before.vals:=rfl
theorem Wcc.Fa (x:Wcc):x.vals.toArray.extract 2 13=x.after.vals.toArray:=(List.extract_toArray ..).trans (congrArg List.toArray (show _=x.after.vals from rfl))
theorem Wcc.Ec (x:Wcc):(x.vals.drop 2).take 11=x.after.vals:=rfl
theorem Wcc.E9 (x:Wcc):x.vals.toArray.extract 3 13=x.after.attr.vals.toArray:=(List.extract_toArray ..).trans (congrArg List.toArray (show _=x.after.attr.vals from rfl))
theorem Wcc.Eb (x:Wcc):(x.vals.drop 3).take 10=x.after.attr.vals:=rfl
def Wcc.C9 (x:Wcc):Prop:=x.before.C9/\x.after.C9
abbrev bs (l:List UInt8):ByteArray:=⟨l.toArray⟩
theorem Xs (s:ByteArray):bs s.data.toList=s:=by cases s;simp[bs]
theorem Au (l:List UInt8):(bs l).size=l.length:=rfl
theorem U8 {a b:List UInt8}(h:bs a=bs b):a=b:=by
 have:(bs a).data.toList=(bs b).data.toList:=by rw[h]
 simpa using this
theorem Bl (a b:List UInt8):bs a++bs b=bs (a++b):=ByteArray.mk_append_mk a b
theorem Rw (s:List UInt8)(i:Nat)(h:i<(bs s).size):(bs s)[i]'h=s[i]'h:=rfl
theorem Acs (s:List UInt8)(n:Nat):(bs s).extract 0 n=bs (s.take n):=by
 apply ByteArray.ext
 simp[List.extract]
theorem Xt (s:List UInt8)(n:Nat):(bs s).extract n s.length=bs (s.drop n):=by
 apply ByteArray.ext
 simp[List.extract]
 rw[List.take_of_length_le (by simp)]
theorem ofNat_mod (q:Nat):UInt8.ofNat (q % 256)=UInt8.ofNat q:=by apply UInt8.toNat_inj.1;simp
def u8 (b:UInt8):Value:=.int .u8 b.toNat
theorem Al1 (l:List UInt8):∀u∈l.map u8,u.oneCell'=true:=by
 intro u hu;obtain⟨b,_,rfl⟩:=List.mem_map.1 hu;rfl
theorem Aoy (n:Nat):IntKind.u8.wrap (n:Int)=((UInt8.ofNat n).toNat:Int):=by
 rw[IntKind.wrap_u8];simp
theorem Ama (n m:Nat)(hm:1<=m)(hm8:m<=8):Op.shift .shr .i64 (n:Int) .i64 (IntKind.i64.wrap (8*((m:Int) - 1)))=pure (.int .i64 ((n / 256 ^ (m - 1):Nat):Int)):=by
 rw[IntWalk.i64_in _ (by omega),shift_shr .i64 .i64 _ _ (by omega) (by show 8*((m:Int) - 1)<=64;omega)];have e:(8*((m:Int) - 1)).toNat=8*(m - 1):=by omega
 have e2:((2:Int) ^ (8*(m - 1)))=((256 ^ (m - 1):Nat):Int):=by
  rw[show (256:Nat)=2 ^ 8 by rfl,<-Nat.pow_mul,Int.natCast_pow];rfl
 rw[e,e2];rfl
def num (n:Nat):Nat->List UInt8
 |0=>[]
 |k+1=>num (n / 256) k++[UInt8.ofNat n]
theorem Ce (n k:Nat):(num n k).length=k:=by
 induction k generalizing n with
 |zero=>rfl
 |succ k ih=>simp[num,ih]
theorem Aeb (n k:Nat):num n (k+1)=UInt8.ofNat (n / 256 ^ k)::num n k:=by
 induction k generalizing n with
 |zero=>simp[num]
 |succ k ih=>
  rw[num,ih (n / 256)];simp only[List.cons_append];rw[Nat.div_div_eq_div_mul,<-Nat.pow_succ'];rfl
def D7 (n:Nat):Nat:=(4 - n % 4) % 4
theorem Qa (n:Nat):D7 n<4:=Nat.mod_lt _ (by omega)
def filled (l:List UInt8):List UInt8:=l++List.replicate (D7 l.length) 0
theorem Qk (l:List UInt8):(filled l).length=l.length+D7 l.length:=by simp[filled]
def opq (l:List UInt8):List UInt8:=num l.length 4++filled l
def Jo (b:Bool):List UInt8:=num (if b then 1 else 0) 4
def Sg (b:Bool)(n:Int):List UInt8:=Jo b++(if b then num n.toNat 8 else [])
def Dy:List UInt8->Nat
 |[]=>0
 |b::l=>b.toNat*256 ^ l.length+Dy l
theorem Od (l:List UInt8)(b:UInt8):Dy (l++[b])=Dy l*256+b.toNat:=by
 induction l with
 |nil=>simp[Dy]
 |cons c l ih=>
  simp only[List.cons_append,Dy,ih,List.length_append,List.length_cons,List.length_nil,Nat.zero_add,Nat.pow_succ,Nat.add_mul];rw[Nat.mul_assoc];omega
theorem Py (l:List UInt8):Dy l<256 ^ l.length:=by
 induction l with
 |nil=>simp[Dy]
 |cons b l ih=>
  simp only[Dy,List.length_cons,Nat.pow_succ];have:b.toNat<=255:=by have:=b.toNat_lt;omega
  have h2:=Nat.mul_le_mul_right (256 ^ l.length) this;omega
theorem Ako (l:List UInt8):num (Dy l) l.length=l:=by
 have key:∀k (l:List UInt8),l.length=k->num (Dy l) k=l:=by
  intro k
  induction k with
  |zero=>intro l h;rw[List.eq_nil_of_length_eq_zero h];rfl
  |succ k ih=>
   intro l h;rw[<-List.dropLast_concat_getLast (l:=l) (by intro e;rw[e]at h;cases h)];generalize hb:l.getLast _=b;have hl:l.dropLast.length=k:=by simp[h]
   have hb':b.toNat<256:=b.toNat_lt;rw[Od,num,show (Dy l.dropLast*256+b.toNat) / 256=Dy l.dropLast by omega,ih _ hl];congr 2
   apply UInt8.toNat_inj.1
   simp
 exact key _ l rfl
structure Rs where
 s:List UInt8
 e:Int
 deriving DecidableEq
def Rs.fail (e:Int):Rs:=⟨[],e⟩
def F3 (k:Nat)(r:Rs):Nat × Rs:=
 if r.e≠0 then (0,r) else if r.s.length<k then (0,Rs.fail 10) else (Dy (r.s.take k),⟨r.s.drop k,0⟩)
def Am (r:Rs):Nat × Rs:=F3 4 r
def Bn (r:Rs):Nat × Rs:=if 9223372036854775808<=(F3 8 r).1 then (0,Rs.fail 3) else F3 8 r
def Bw (r:Rs):Bool × Rs:=if 1<(Am r).1 then (false,Rs.fail 13) else ((Am r).1==1,(Am r).2)
def Fp (r:Rs):(Bool × Nat) × Rs:=
 if (Bw r).1 then (if (Bn (Bw r).2).2.e≠0 then ((false,0),(Bn (Bw r).2).2) else ((true,(Bn (Bw r).2).1),(Bn (Bw r).2).2)) else ((false,0),(Bw r).2)
def En (n:Nat)(r:Rs):List UInt8 × Rs:=
 if r.e≠0 then ([],r)
 else if r.s.length<n then ([],Rs.fail 10)
 else if (r.s.drop n).length<D7 n then ([],Rs.fail 10)
 else if ((r.s.drop n).take (D7 n)).all (·==0) then (r.s.take n,⟨(r.s.drop n).drop (D7 n),0⟩)
 else ([],Rs.fail 11)
def Ff (n:Int)(r:Rs):List UInt8 × Rs:=if r.e≠0 then ([],r) else if n<0 then ([],Rs.fail 2) else En n.toNat r
def Ao (most:Int)(r:Rs):List UInt8 × Rs:=
 if (Am r).2.e≠0 then ([],(Am r).2) else if most<((Am r).1:Int) then ([],Rs.fail 4) else En (Am r).1 (Am r).2
def J9 (r:Rs):Nat:=if r.e≠0 then 0 else r.s.length
def Qq (r:Rs):Int:=if r.e≠0 then r.e else if 0<r.s.length then 12 else 0
structure A8 where
 client:Int
 seq:Int
 uid:Int
 gid:Int
 deriving DecidableEq
def A8.vals (x:A8):List Value:=[.int .i64 x.client,.int .i64 x.seq,.int .i64 x.uid,.int .i64 x.gid]
theorem A8.len (x:A8):x.vals.length=4:=rfl
theorem A8.one (x:A8):∀v∈x.vals,v.oneCell'=true:=by
 intro v hv;unfold A8.vals at hv;simp only[List.mem_cons,List.not_mem_nil,or_false]at hv;rcases hv with rfl|rfl|rfl|rfl<;>rfl
theorem A8.at0 (x:A8)(h:0<x.vals.length):x.vals[0]=.int .i64 x.client:=rfl
theorem A8.Bo (x:A8):x.vals[0]?=some (.int .i64 x.client):=rfl
theorem A8.at1 (x:A8)(h:1<x.vals.length):x.vals[1]=.int .i64 x.seq:=rfl
theorem A8.Bk (x:A8):x.vals[1]?=some (.int .i64 x.seq):=rfl
theorem A8.at2 (x:A8)(h:2<x.vals.length):x.vals[2]=.int .i64 x.uid:=rfl
theorem A8.Ca (x:A8):x.vals[2]?=some (.int .i64 x.uid):=rfl
theorem A8.at3 (x:A8)(h:3<x.vals.length):x.vals[3]=.int .i64 x.gid:=rfl
theorem A8.Cg (x:A8):x.vals[3]?=some (.int .i64 x.gid):=rfl
theorem A8.O8 (x:A8):x.vals.toArray.extract 0 4=x.vals.toArray:=(List.extract_toArray ..).trans (congrArg List.toArray (show _=x.vals from rfl))
theorem A8.L4 (x:A8):x.vals.take 4=x.vals:=rfl
structure Bx where
 kind:Int
 a:Int
 b:Int
 deriving DecidableEq
def Bx.vals (x:Bx):List Value:=[.int .i64 x.kind,.int .i64 x.a,.int .i64 x.b]
theorem Bx.len (x:Bx):x.vals.length=3:=rfl
theorem Bx.at0 (x:Bx)(h:0<x.vals.length):x.vals[0]=.int .i64 x.kind:=rfl
theorem Bx.Bo (x:Bx):x.vals[0]?=some (.int .i64 x.kind):=rfl
theorem Bx.at1 (x:Bx)(h:1<x.vals.length):x.vals[1]=.int .i64 x.a:=rfl
theorem Bx.Bk (x:Bx):x.vals[1]?=some (.int .i64 x.a):=rfl
theorem Bx.at2 (x:Bx)(h:2<x.vals.length):x.vals[2]=.int .i64 x.b:=rfl
theorem Bx.Ca (x:Bx):x.vals[2]?=some (.int .i64 x.b):=rfl
theorem Bx.Aby (x:Bx):x.vals.toArray.extract 0 3=x.vals.toArray:=(List.extract_toArray ..).trans (congrArg List.toArray (show _=x.vals from rfl))
theorem Bx.Xq (x:Bx):x.vals.take 3=x.vals:=rfl
structure Entry where
 gen:Int
 name:List UInt8
 cookie:Int
 attr:Ah
 fh:List UInt8
 deriving DecidableEq
def Entry.vals (x:Entry):List Value:=[.int .i64 x.gen,.string (bs x.name),.int .i64 x.cookie]++(x.attr.vals++[.string (bs x.fh)])
theorem Entry.len (x:Entry):x.vals.length=15:=rfl
theorem Entry.one (x:Entry):∀v∈x.vals,v.oneCell'=true:=by
 intro v hv;unfold Entry.vals at hv;rcases List.mem_append.1 hv with hv|hv
 ·simp only[List.mem_cons,List.not_mem_nil,or_false]at hv
  rcases hv with rfl|rfl|rfl<;>rfl
 ·rcases List.mem_append.1 hv with hv|hv
  ·exact Ah.one _ v hv
  ·simp only[List.mem_cons,List.not_mem_nil,or_false]at hv
   subst hv;rfl
theorem Entry.at0 (x:Entry)(h:0<x.vals.length):x.vals[0]=.int .i64 x.gen:=rfl
theorem Entry.Bo (x:Entry):x.vals[0]?=some (.int .i64 x.gen):=rfl
theorem Entry.at1 (x:Entry)(h:1<x.vals.length):x.vals[1]=.string (bs x.name):=rfl
theorem Entry.Bk (x:Entry):x.vals[1]?=some (.string (bs x.name)):=rfl
theorem Entry.at2 (x:Entry)(h:2<x.vals.length):x.vals[2]=.int .i64 x.cookie:=rfl
theorem Entry.Ca (x:Entry):x.vals[2]?=some (.int .i64 x.cookie):=rfl
theorem Entry.at3 (x:Entry)(h:3<x.vals.length):x.vals[3]=.bool x.attr.is:=rfl
theorem Entry.Cg (x:Entry):x.vals[3]?=some (.bool x.attr.is):=rfl
theorem Entry.at4 (x:Entry)(h:4<x.vals.length):x.vals[4]=.int .i64 x.attr.attr.type:=rfl
theorem Entry.Cx (x:Entry):x.vals[4]?=some (.int .i64 x.attr.attr.type):=rfl
theorem Entry.at5 (x:Entry)(h:5<x.vals.length):x.vals[5]=.int .i64 x.attr.attr.mode:=rfl
theorem Entry.Cw (x:Entry):x.vals[5]?=some (.int .i64 x.attr.attr.mode):=rfl
theorem Entry.at6 (x:Entry)(h:6<x.vals.length):x.vals[6]=.int .i64 x.attr.attr.nlink:=rfl
theorem Entry.Cv (x:Entry):x.vals[6]?=some (.int .i64 x.attr.attr.nlink):=rfl
theorem Entry.at7 (x:Entry)(h:7<x.vals.length):x.vals[7]=.int .i64 x.attr.attr.uid:=rfl
theorem Entry.Cu (x:Entry):x.vals[7]?=some (.int .i64 x.attr.attr.uid):=rfl
theorem Entry.at8 (x:Entry)(h:8<x.vals.length):x.vals[8]=.int .i64 x.attr.attr.gid:=rfl
theorem Entry.Ct (x:Entry):x.vals[8]?=some (.int .i64 x.attr.attr.gid):=rfl
theorem Entry.at9 (x:Entry)(h:9<x.vals.length):x.vals[9]=.int .i64 x.attr.attr.size:=rfl
theorem Entry.Cs (x:Entry):x.vals[9]?=some (.int .i64 x.attr.attr.size):=rfl
theorem Entry.Ee (x:Entry)(h:10<x.vals.length):x.vals[10]=.int .i64 x.attr.attr.id:=rfl
theorem Entry.C4 (x:Entry):x.vals[10]?=some (.int .i64 x.attr.attr.id):=rfl
theorem Entry.Fm (x:Entry)(h:11<x.vals.length):x.vals[11]=.int .i64 x.attr.attr.gen:=rfl
theorem Entry.Dm (x:Entry):x.vals[11]?=some (.int .i64 x.attr.attr.gen):=rfl
theorem Entry.Fl (x:Entry)(h:12<x.vals.length):x.vals[12]=.int .i64 x.attr.attr.change:=rfl
theorem Entry.Dl (x:Entry):x.vals[12]?=some (.int .i64 x.attr.attr.change):=rfl
theorem Entry.Ia (x:Entry)(h:13<x.vals.length):x.vals[13]=.int .i64 x.attr.attr.time:=rfl
theorem Entry.Ep (x:Entry):x.vals[13]?=some (.int .i64 x.attr.attr.time):=rfl
theorem Entry.H9 (x:Entry)(h:14<x.vals.length):x.vals[14]=.string (bs x.fh):=rfl
theorem Entry.Eo (x:Entry):x.vals[14]?=some (.string (bs x.fh)):=rfl
theorem Entry.L3 (x:Entry):x.vals.toArray.extract 0 15=x.vals.toArray:=(List.extract_toArray ..).trans (congrArg List.toArray (show _=x.vals from rfl))
theorem Entry.Js (x:Entry):x.vals.take 15=x.vals:=rfl
theorem Entry.L2 (x:Entry):x.vals.toArray.extract 3 14=x.attr.vals.toArray:=(List.extract_toArray ..).trans (congrArg List.toArray (show _=x.attr.vals from rfl))
theorem Entry.Jr (x:Entry):(x.vals.drop 3).take 11=x.attr.vals:=rfl
theorem Entry.L1 (x:Entry):x.vals.toArray.extract 4 14=x.attr.attr.vals.toArray:=(List.extract_toArray ..).trans (congrArg List.toArray (show _=x.attr.attr.vals from rfl))
theorem Entry.Jq (x:Entry):(x.vals.drop 4).take 10=x.attr.attr.vals:=rfl
def Entry.C9 (x:Entry):Prop:=(Lit.int .i64 x.gen).wf=true/\x.name.length<=maxLen/\(Lit.int .i64 x.cookie).wf=true/\x.attr.C9/\x.fh.length<=maxLen
structure Call where
 proc:Int
 fh:List UInt8
 name:List UInt8
 fh2:List UInt8
 name2:List UInt8
 offset:Int
 count:Int
 how:Int
 data:List UInt8
 set:Ac
 guard:Opt
 cookie:Int
 verf:Int
 text:List UInt8
 deriving DecidableEq
def Call.vals (x:Call):List Value:=[.int .i64 x.proc,.string (bs x.fh),.string (bs x.name),.string (bs x.fh2),.string (bs x.name2),.int .i64 x.offset,.int .i64 x.count,.int .i64 x.how,.string (bs x.data)]++(x.set.vals++(x.guard.vals++[.int .i64 x.cookie,.int .i64 x.verf,.string (bs x.text)]))
theorem Call.len (x:Call):x.vals.length=24:=rfl
theorem Call.one (x:Call):∀v∈x.vals,v.oneCell'=true:=by
 intro v hv;unfold Call.vals at hv;rcases List.mem_append.1 hv with hv|hv
 ·simp only[List.mem_cons,List.not_mem_nil,or_false]at hv
  rcases hv with rfl|rfl|rfl|rfl|rfl|rfl|rfl|rfl|rfl<;>rfl
 ·rcases List.mem_append.1 hv with hv|hv
  ·exact Ac.one _ v hv
  ·rcases List.mem_append.1 hv with hv|hv
   ·exact Opt.one _ v hv
   ·simp only[List.mem_cons,List.not_mem_nil,or_false]at hv
    rcases hv with rfl|rfl|rfl<;>rfl
theorem Call.at0 (x:Call)(h:0<x.vals.length):x.vals[0]=.int .i64 x.proc:=rfl
theorem Call.Bo (x:Call):x.vals[0]?=some (.int .i64 x.proc):=rfl
theorem Call.at1 (x:Call)(h:1<x.vals.length):x.vals[1]=.string (bs x.fh):=rfl
theorem Call.Bk (x:Call):x.vals[1]?=some (.string (bs x.fh)):=rfl
theorem Call.at2 (x:Call)(h:2<x.vals.length):x.vals[2]=.string (bs x.name):=rfl
theorem Call.Ca (x:Call):x.vals[2]?=some (.string (bs x.name)):=rfl
theorem Call.at3 (x:Call)(h:3<x.vals.length):x.vals[3]=.string (bs x.fh2):=rfl
theorem Call.Cg (x:Call):x.vals[3]?=some (.string (bs x.fh2)):=rfl
theorem Call.at4 (x:Call)(h:4<x.vals.length):x.vals[4]=.string (bs x.name2):=rfl
theorem Call.Cx (x:Call):x.vals[4]?=some (.string (bs x.name2)):=rfl
theorem Call.at5 (x:Call)(h:5<x.vals.length):x.vals[5]=.int .i64 x.offset:=rfl
theorem Call.Cw (x:Call):x.vals[5]?=some (.int .i64 x.offset):=rfl
theorem Call.at6 (x:Call)(h:6<x.vals.length):x.vals[6]=.int .i64 x.count:=rfl
theorem Call.Cv (x:Call):x.vals[6]?=some (.int .i64 x.count):=rfl
theorem Call.at7 (x:Call)(h:7<x.vals.length):x.vals[7]=.int .i64 x.how:=rfl
theorem Call.Cu (x:Call):x.vals[7]?=some (.int .i64 x.how):=rfl
theorem Call.at8 (x:Call)(h:8<x.vals.length):x.vals[8]=.string (bs x.data):=rfl
theorem Call.Ct (x:Call):x.vals[8]?=some (.string (bs x.data)):=rfl
theorem Call.at9 (x:Call)(h:9<x.vals.length):x.vals[9]=.bool x.set.mode.is:=rfl
theorem Call.Cs (x:Call):x.vals[9]?=some (.bool x.set.mode.is):=rfl
theorem Call.Ee (x:Call)(h:10<x.vals.length):x.vals[10]=.int .i64 x.set.mode.n:=rfl
theorem Call.C4 (x:Call):x.vals[10]?=some (.int .i64 x.set.mode.n):=rfl
theorem Call.Fm (x:Call)(h:11<x.vals.length):x.vals[11]=.bool x.set.uid.is:=rfl
theorem Call.Dm (x:Call):x.vals[11]?=some (.bool x.set.uid.is):=rfl
theorem Call.Fl (x:Call)(h:12<x.vals.length):x.vals[12]=.int .i64 x.set.uid.n:=rfl
theorem Call.Dl (x:Call):x.vals[12]?=some (.int .i64 x.set.uid.n):=rfl
theorem Call.Ia (x:Call)(h:13<x.vals.length):x.vals[13]=.bool x.set.gid.is:=rfl
theorem Call.Ep (x:Call):x.vals[13]?=some (.bool x.set.gid.is):=rfl
theorem Call.H9 (x:Call)(h:14<x.vals.length):x.vals[14]=.int .i64 x.set.gid.n:=rfl
theorem Call.Eo (x:Call):x.vals[14]?=some (.int .i64 x.set.gid.n):=rfl
theorem Call.Lx (x:Call)(h:15<x.vals.length):x.vals[15]=.bool x.set.size.is:=rfl
theorem Call.Hg (x:Call):x.vals[15]?=some (.bool x.set.size.is):=rfl
theorem Call.Lw (x:Call)(h:16<x.vals.length):x.vals[16]=.int .i64 x.set.size.n:=rfl
theorem Call.Hf (x:Call):x.vals[16]?=some (.int .i64 x.set.size.n):=rfl
theorem Call.Lv (x:Call)(h:17<x.vals.length):x.vals[17]=.bool x.set.time.is:=rfl
theorem Call.He (x:Call):x.vals[17]?=some (.bool x.set.time.is):=rfl
theorem Call.Lu (x:Call)(h:18<x.vals.length):x.vals[18]=.int .i64 x.set.time.n:=rfl
theorem Call.Hd (x:Call):x.vals[18]?=some (.int .i64 x.set.time.n):=rfl
theorem Call.Lt (x:Call)(h:19<x.vals.length):x.vals[19]=.bool x.guard.is:=rfl
theorem Call.Hc (x:Call):x.vals[19]?=some (.bool x.guard.is):=rfl
theorem Call.Ls (x:Call)(h:20<x.vals.length):x.vals[20]=.int .i64 x.guard.n:=rfl
theorem Call.Ha (x:Call):x.vals[20]?=some (.int .i64 x.guard.n):=rfl
theorem Call.Lr (x:Call)(h:21<x.vals.length):x.vals[21]=.int .i64 x.cookie:=rfl
theorem Call.G9 (x:Call):x.vals[21]?=some (.int .i64 x.cookie):=rfl
theorem Call.Lq (x:Call)(h:22<x.vals.length):x.vals[22]=.int .i64 x.verf:=rfl
theorem Call.G8 (x:Call):x.vals[22]?=some (.int .i64 x.verf):=rfl
theorem Call.Lp (x:Call)(h:23<x.vals.length):x.vals[23]=.string (bs x.text):=rfl
theorem Call.G7 (x:Call):x.vals[23]?=some (.string (bs x.text)):=rfl
theorem Call.Gy (x:Call):x.vals.toArray.extract 0 24=x.vals.toArray:=(List.extract_toArray ..).trans (congrArg List.toArray (show _=x.vals from rfl))
theorem Call.Fj (x:Call):x.vals.take 24=x.vals:=rfl
theorem Call.Gv (x:Call):x.vals.toArray.extract 9 19=x.set.vals.toArray:=(List.extract_toArray ..).trans (congrArg List.toArray (show _=x.set.vals from rfl))
theorem Call.Fg (x:Call):(x.vals.drop 9).take 10=x.set.vals:=rfl
theorem Call.Jn (x:Call):x.vals.toArray.extract 9 11=x.set.mode.vals.toArray:=(List.extract_toArray ..).trans (congrArg List.toArray (show _=x.set.mode.vals from rfl))
theorem Call.Gz (x:Call):(x.vals.drop 9).take 2=x.set.mode.vals:=rfl
theorem Call.Gx (x:Call):x.vals.toArray.extract 11 13=x.set.uid.vals.toArray:=(List.extract_toArray ..).trans (congrArg List.toArray (show _=x.set.uid.vals from rfl))
theorem Call.Fi (x:Call):(x.vals.drop 11).take 2=x.set.uid.vals:=rfl
theorem Call.Gw (x:Call):x.vals.toArray.extract 13 15=x.set.gid.vals.toArray:=(List.extract_toArray ..).trans (congrArg List.toArray (show _=x.set.gid.vals from rfl))
theorem Call.Fh (x:Call):(x.vals.drop 13).take 2=x.set.gid.vals:=rfl
theorem Call.F9 (x:Call):x.vals.toArray.extract 15 17=x.set.size.vals.toArray:=(List.extract_toArray ..).trans (congrArg List.toArray (show _=x.set.size.vals from rfl))
theorem Call.Et (x:Call):(x.vals.drop 15).take 2=x.set.size.vals:=rfl
theorem Call.F8 (x:Call):x.vals.toArray.extract 17 19=x.set.time.vals.toArray:=(List.extract_toArray ..).trans (congrArg List.toArray (show _=x.set.time.vals from rfl))
theorem Call.Es (x:Call):(x.vals.drop 17).take 2=x.set.time.vals:=rfl
theorem Call.F7 (x:Call):x.vals.toArray.extract 19 21=x.guard.vals.toArray:=(List.extract_toArray ..).trans (congrArg List.toArray (show _=x.guard.vals from rfl))
theorem Call.Er (x:Call):(x.vals.drop 19).take 2=x.guard.vals:=rfl
def Call.C9 (x:Call):Prop:=(Lit.int .i64 x.proc).wf=true/\x.fh.length<=maxLen/\x.name.length<=maxLen/\x.fh2.length<=maxLen/\x.name2.length<=maxLen/\(Lit.int .i64 x.offset).wf=true/\(Lit.int .i64 x.count).wf=true/\(Lit.int .i64 x.how).wf=true/\x.data.length<=maxLen/\x.set.C9/\x.guard.C9/\(Lit.int .i64 x.cookie).wf=true/\(Lit.int .i64 x.verf).wf=true/\x.text.length<=maxLen
structure Message where
 xid:Int
 answer:Bool
 again:Bool
 proc:Int
 C3:A8
 accept:Int
 body:List UInt8
 deriving DecidableEq
def Message.vals (x:Message):List Value:=[.int .i64 x.xid,.bool x.answer,.bool x.again,.int .i64 x.proc]++(x.C3.vals++[.int .i64 x.accept,.string (bs x.body)])
theorem Message.len (x:Message):x.vals.length=10:=rfl
theorem Message.one (x:Message):∀v∈x.vals,v.oneCell'=true:=by
 intro v hv;unfold Message.vals at hv;rcases List.mem_append.1 hv with hv|hv
 ·simp only[List.mem_cons,List.not_mem_nil,or_false]at hv
  rcases hv with rfl|rfl|rfl|rfl<;>rfl
 ·rcases List.mem_append.1 hv with hv|hv
  ·exact A8.one _ v hv
  ·simp only[List.mem_cons,List.not_mem_nil,or_false]at hv
   rcases hv with rfl|rfl<;>rfl
theorem Message.at0 (x:Message)(h:0<x.vals.length):x.vals[0]=.int .i64 x.xid:=rfl
theorem Message.Bo (x:Message):x.vals[0]?=some (.int .i64 x.xid):=rfl
theorem Message.at1 (x:Message)(h:1<x.vals.length):x.vals[1]=.bool x.answer:=rfl
theorem Message.Bk (x:Message):x.vals[1]?=some (.bool x.answer):=rfl
theorem Message.at2 (x:Message)(h:2<x.vals.length):x.vals[2]=.bool x.again:=rfl
theorem Message.Ca (x:Message):x.vals[2]?=some (.bool x.again):=rfl
theorem Message.at3 (x:Message)(h:3<x.vals.length):x.vals[3]=.int .i64 x.proc:=rfl
theorem Message.Cg (x:Message):x.vals[3]?=some (.int .i64 x.proc):=rfl
theorem Message.at4 (x:Message)(h:4<x.vals.length):x.vals[4]=.int .i64 x.C3.client:=rfl
theorem Message.Cx (x:Message):x.vals[4]?=some (.int .i64 x.C3.client):=rfl
theorem Message.at5 (x:Message)(h:5<x.vals.length):x.vals[5]=.int .i64 x.C3.seq:=rfl
theorem Message.Cw (x:Message):x.vals[5]?=some (.int .i64 x.C3.seq):=rfl
theorem Message.at6 (x:Message)(h:6<x.vals.length):x.vals[6]=.int .i64 x.C3.uid:=rfl
theorem Message.Cv (x:Message):x.vals[6]?=some (.int .i64 x.C3.uid):=rfl
theorem Message.at7 (x:Message)(h:7<x.vals.length):x.vals[7]=.int .i64 x.C3.gid:=rfl
theorem Message.Cu (x:Message):x.vals[7]?=some (.int .i64 x.C3.gid):=rfl
theorem Message.at8 (x:Message)(h:8<x.vals.length):x.vals[8]=.int .i64 x.accept:=rfl
theorem Message.Ct (x:Message):x.vals[8]?=some (.int .i64 x.accept):=rfl
theorem Message.at9 (x:Message)(h:9<x.vals.length):x.vals[9]=.string (bs x.body):=rfl
theorem Message.Cs (x:Message):x.vals[9]?=some (.string (bs x.body)):=rfl
theorem Message.Cl (x:Message):x.vals.toArray.extract 0 10=x.vals.toArray:=(List.extract_toArray ..).trans (congrArg List.toArray (show _=x.vals from rfl))
theorem Message.B4 (x:Message):x.vals.take 10=x.vals:=rfl
theorem Message.Np (x:Message):x.vals.toArray.extract 4 8=x.C3.vals.toArray:=(List.extract_toArray ..).trans (congrArg List.toArray (show _=x.C3.vals from rfl))
theorem Message.Ky (x:Message):(x.vals.drop 4).take 4=x.C3.vals:=rfl
structure Change where
 kind:Int
 epoch:Int
 serial:Int
 up:List UInt8
 name:List UInt8
 child:List UInt8
 attr:Attr
 no:Int
 slot:Int
 deriving DecidableEq
structure Held where
 epoch:Int
 serial:Int
 up:List UInt8
 deriving DecidableEq
structure Cached where
 up:List UInt8
 attr:Attr
 deriving DecidableEq
structure Atd where
 dir:List UInt8
 name:List UInt8
 up:List UInt8
 deriving DecidableEq
structure Asi where
 up:List UInt8
 no:Int
 slot:Int
 deriving DecidableEq
structure Aa where
 status:Int
 fh:List UInt8
 obj:Ah
 dir:Ah
 wcc:Wcc
 wcc2:Wcc
 access:Int
 count:Int
 eof:Bool
 data:List UInt8
 stable:Int
 verf:Int
 ea:Option Addr
 en:Nat
 ec:Nat
 ua:Option Addr
 un:Nat
 uc:Nat
def Aa.vals (x:Aa):List Value:=[.int .i64 x.status,.string (bs x.fh)]++(x.obj.vals++(x.dir.vals++(x.wcc.vals++(x.wcc2.vals++[.int .i64 x.access,.int .i64 x.count,.bool x.eof,.string (bs x.data),.int .i64 x.stable,.int .i64 x.verf,.slice x.ea x.en x.ec,.slice x.ua x.un x.uc]))))
theorem Aa.len (x:Aa):x.vals.length=58:=rfl
theorem Aa.one (x:Aa):∀v∈x.vals,v.oneCell'=true:=by
 intro v hv;unfold Aa.vals at hv;rcases List.mem_append.1 hv with hv|hv
 ·simp only[List.mem_cons,List.not_mem_nil,or_false]at hv
  rcases hv with rfl|rfl<;>rfl
 ·rcases List.mem_append.1 hv with hv|hv
  ·exact Ah.one _ v hv
  ·rcases List.mem_append.1 hv with hv|hv
   ·exact Ah.one _ v hv
   ·rcases List.mem_append.1 hv with hv|hv
    ·exact Wcc.one _ v hv
    ·rcases List.mem_append.1 hv with hv|hv
     ·exact Wcc.one _ v hv
     ·simp only[List.mem_cons,List.not_mem_nil,or_false]at hv
      rcases hv with rfl|rfl|rfl|rfl|rfl|rfl|rfl|rfl<;>rfl
theorem Aa.at0 (x:Aa)(h:0<x.vals.length):x.vals[0]=.int .i64 x.status:=rfl
theorem Aa.Bo (x:Aa):x.vals[0]?=some (.int .i64 x.status):=rfl
theorem Aa.at1 (x:Aa)(h:1<x.vals.length):x.vals[1]=.string (bs x.fh):=rfl
theorem Aa.Bk (x:Aa):x.vals[1]?=some (.string (bs x.fh)):=rfl
theorem Aa.at2 (x:Aa)(h:2<x.vals.length):x.vals[2]=.bool x.obj.is:=rfl
theorem Aa.Ca (x:Aa):x.vals[2]?=some (.bool x.obj.is):=rfl
theorem Aa.at3 (x:Aa)(h:3<x.vals.length):x.vals[3]=.int .i64 x.obj.attr.type:=rfl
theorem Aa.Cg (x:Aa):x.vals[3]?=some (.int .i64 x.obj.attr.type):=rfl
theorem Aa.at4 (x:Aa)(h:4<x.vals.length):x.vals[4]=.int .i64 x.obj.attr.mode:=rfl
theorem Aa.Cx (x:Aa):x.vals[4]?=some (.int .i64 x.obj.attr.mode):=rfl
theorem Aa.at5 (x:Aa)(h:5<x.vals.length):x.vals[5]=.int .i64 x.obj.attr.nlink:=rfl
theorem Aa.Cw (x:Aa):x.vals[5]?=some (.int .i64 x.obj.attr.nlink):=rfl
theorem Aa.at6 (x:Aa)(h:6<x.vals.length):x.vals[6]=.int .i64 x.obj.attr.uid:=rfl
theorem Aa.Cv (x:Aa):x.vals[6]?=some (.int .i64 x.obj.attr.uid):=rfl
theorem Aa.at7 (x:Aa)(h:7<x.vals.length):x.vals[7]=.int .i64 x.obj.attr.gid:=rfl
theorem Aa.Cu (x:Aa):x.vals[7]?=some (.int .i64 x.obj.attr.gid):=rfl
theorem Aa.at8 (x:Aa)(h:8<x.vals.length):x.vals[8]=.int .i64 x.obj.attr.size:=rfl
theorem Aa.Ct (x:Aa):x.vals[8]?=some (.int .i64 x.obj.attr.size):=rfl
theorem Aa.at9 (x:Aa)(h:9<x.vals.length):x.vals[9]=.int .i64 x.obj.attr.id:=rfl
theorem Aa.Cs (x:Aa):x.vals[9]?=some (.int .i64 x.obj.attr.id):=rfl
theorem Aa.Ee (x:Aa)(h:10<x.vals.length):x.vals[10]=.int .i64 x.obj.attr.gen:=rfl
theorem Aa.C4 (x:Aa):x.vals[10]?=some (.int .i64 x.obj.attr.gen):=rfl
theorem Aa.Fm (x:Aa)(h:11<x.vals.length):x.vals[11]=.int .i64 x.obj.attr.change:=rfl
theorem Aa.Dm (x:Aa):x.vals[11]?=some (.int .i64 x.obj.attr.change):=rfl
theorem Aa.Fl (x:Aa)(h:12<x.vals.length):x.vals[12]=.int .i64 x.obj.attr.time:=rfl
theorem Aa.Dl (x:Aa):x.vals[12]?=some (.int .i64 x.obj.attr.time):=rfl
theorem Aa.Ia (x:Aa)(h:13<x.vals.length):x.vals[13]=.bool x.dir.is:=rfl
theorem Aa.Ep (x:Aa):x.vals[13]?=some (.bool x.dir.is):=rfl
theorem Aa.H9 (x:Aa)(h:14<x.vals.length):x.vals[14]=.int .i64 x.dir.attr.type:=rfl
theorem Aa.Eo (x:Aa):x.vals[14]?=some (.int .i64 x.dir.attr.type):=rfl
theorem Aa.Lx (x:Aa)(h:15<x.vals.length):x.vals[15]=.int .i64 x.dir.attr.mode:=rfl
theorem Aa.Hg (x:Aa):x.vals[15]?=some (.int .i64 x.dir.attr.mode):=rfl
theorem Aa.Lw (x:Aa)(h:16<x.vals.length):x.vals[16]=.int .i64 x.dir.attr.nlink:=rfl
theorem Aa.Hf (x:Aa):x.vals[16]?=some (.int .i64 x.dir.attr.nlink):=rfl
theorem Aa.Lv (x:Aa)(h:17<x.vals.length):x.vals[17]=.int .i64 x.dir.attr.uid:=rfl
theorem Aa.He (x:Aa):x.vals[17]?=some (.int .i64 x.dir.attr.uid):=rfl
theorem Aa.Lu (x:Aa)(h:18<x.vals.length):x.vals[18]=.int .i64 x.dir.attr.gid:=rfl
theorem Aa.Hd (x:Aa):x.vals[18]?=some (.int .i64 x.dir.attr.gid):=rfl
theorem Aa.Lt (x:Aa)(h:19<x.vals.length):x.vals[19]=.int .i64 x.dir.attr.size:=rfl
theorem Aa.Hc (x:Aa):x.vals[19]?=some (.int .i64 x.dir.attr.size):=rfl
theorem Aa.Ls (x:Aa)(h:20<x.vals.length):x.vals[20]=.int .i64 x.dir.attr.id:=rfl
theorem Aa.Ha (x:Aa):x.vals[20]?=some (.int .i64 x.dir.attr.id):=rfl
theorem Aa.Lr (x:Aa)(h:21<x.vals.length):x.vals[21]=.int .i64 x.dir.attr.gen:=rfl
theorem Aa.G9 (x:Aa):x.vals[21]?=some (.int .i64 x.dir.attr.gen):=rfl
theorem Aa.Lq (x:Aa)(h:22<x.vals.length):x.vals[22]=.int .i64 x.dir.attr.change:=rfl
theorem Aa.G8 (x:Aa):x.vals[22]?=some (.int .i64 x.dir.attr.change):=rfl
theorem Aa.Lp (x:Aa)(h:23<x.vals.length):x.vals[23]=.int .i64 x.dir.attr.time:=rfl
theorem Aa.G7 (x:Aa):x.vals[23]?=some (.int .i64 x.dir.attr.time):=rfl
theorem Aa.Aah (x:Aa)(h:24<x.vals.length):x.vals[24]=.bool x.wcc.before.is:=rfl
theorem Aa.Sx (x:Aa):x.vals[24]?=some (.bool x.wcc.before.is):=rfl
theorem Aa.Aag (x:Aa)(h:25<x.vals.length):x.vals[25]=.int .i64 x.wcc.before.n:=rfl
theorem Aa.Sw (x:Aa):x.vals[25]?=some (.int .i64 x.wcc.before.n):=rfl
theorem Aa.Aaf (x:Aa)(h:26<x.vals.length):x.vals[26]=.bool x.wcc.after.is:=rfl
theorem Aa.Sv (x:Aa):x.vals[26]?=some (.bool x.wcc.after.is):=rfl
theorem Aa.Aae (x:Aa)(h:27<x.vals.length):x.vals[27]=.int .i64 x.wcc.after.attr.type:=rfl
theorem Aa.Su (x:Aa):x.vals[27]?=some (.int .i64 x.wcc.after.attr.type):=rfl
theorem Aa.Aad (x:Aa)(h:28<x.vals.length):x.vals[28]=.int .i64 x.wcc.after.attr.mode:=rfl
theorem Aa.St (x:Aa):x.vals[28]?=some (.int .i64 x.wcc.after.attr.mode):=rfl
theorem Aa.Aac (x:Aa)(h:29<x.vals.length):x.vals[29]=.int .i64 x.wcc.after.attr.nlink:=rfl
theorem Aa.Ss (x:Aa):x.vals[29]?=some (.int .i64 x.wcc.after.attr.nlink):=rfl
theorem Aa.Afz (x:Aa)(h:30<x.vals.length):x.vals[30]=.int .i64 x.wcc.after.attr.uid:=rfl
theorem Aa.Wn (x:Aa):x.vals[30]?=some (.int .i64 x.wcc.after.attr.uid):=rfl
theorem Aa.Afy (x:Aa)(h:31<x.vals.length):x.vals[31]=.int .i64 x.wcc.after.attr.gid:=rfl
theorem Aa.Wm (x:Aa):x.vals[31]?=some (.int .i64 x.wcc.after.attr.gid):=rfl
theorem Aa.Afx (x:Aa)(h:32<x.vals.length):x.vals[32]=.int .i64 x.wcc.after.attr.size:=rfl
theorem Aa.Wl (x:Aa):x.vals[32]?=some (.int .i64 x.wcc.after.attr.size):=rfl
theorem Aa.Afw (x:Aa)(h:33<x.vals.length):x.vals[33]=.int .i64 x.wcc.after.attr.id:=rfl
theorem Aa.Wk (x:Aa):x.vals[33]?=some (.int .i64 x.wcc.after.attr.id):=rfl
theorem Aa.Afv (x:Aa)(h:34<x.vals.length):x.vals[34]=.int .i64 x.wcc.after.attr.gen:=rfl
theorem Aa.Wj (x:Aa):x.vals[34]?=some (.int .i64 x.wcc.after.attr.gen):=rfl
theorem Aa.Afu (x:Aa)(h:35<x.vals.length):x.vals[35]=.int .i64 x.wcc.after.attr.change:=rfl
theorem Aa.Wi (x:Aa):x.vals[35]?=some (.int .i64 x.wcc.after.attr.change):=rfl
theorem Aa.Aft (x:Aa)(h:36<x.vals.length):x.vals[36]=.int .i64 x.wcc.after.attr.time:=rfl
theorem Aa.Wh (x:Aa):x.vals[36]?=some (.int .i64 x.wcc.after.attr.time):=rfl
theorem Aa.Afs (x:Aa)(h:37<x.vals.length):x.vals[37]=.bool x.wcc2.before.is:=rfl
theorem Aa.Wg (x:Aa):x.vals[37]?=some (.bool x.wcc2.before.is):=rfl
theorem Aa.Afr (x:Aa)(h:38<x.vals.length):x.vals[38]=.int .i64 x.wcc2.before.n:=rfl
theorem Aa.Wf (x:Aa):x.vals[38]?=some (.int .i64 x.wcc2.before.n):=rfl
theorem Aa.Afq (x:Aa)(h:39<x.vals.length):x.vals[39]=.bool x.wcc2.after.is:=rfl
theorem Aa.We (x:Aa):x.vals[39]?=some (.bool x.wcc2.after.is):=rfl
theorem Aa.Afp (x:Aa)(h:40<x.vals.length):x.vals[40]=.int .i64 x.wcc2.after.attr.type:=rfl
theorem Aa.Wd (x:Aa):x.vals[40]?=some (.int .i64 x.wcc2.after.attr.type):=rfl
theorem Aa.Afo (x:Aa)(h:41<x.vals.length):x.vals[41]=.int .i64 x.wcc2.after.attr.mode:=rfl
theorem Aa.Wc (x:Aa):x.vals[41]?=some (.int .i64 x.wcc2.after.attr.mode):=rfl
theorem Aa.Afn (x:Aa)(h:42<x.vals.length):x.vals[42]=.int .i64 x.wcc2.after.attr.nlink:=rfl
theorem Aa.Wb (x:Aa):x.vals[42]?=some (.int .i64 x.wcc2.after.attr.nlink):=rfl
theorem Aa.Afm (x:Aa)(h:43<x.vals.length):x.vals[43]=.int .i64 x.wcc2.after.attr.uid:=rfl
theorem Aa.Wa (x:Aa):x.vals[43]?=some (.int .i64 x.wcc2.after.attr.uid):=rfl
theorem Aa.Afl (x:Aa)(h:44<x.vals.length):x.vals[44]=.int .i64 x.wcc2.after.attr.gid:=rfl
theorem Aa.V9 (x:Aa):x.vals[44]?=some (.int .i64 x.wcc2.after.attr.gid):=rfl
theorem Aa.Afk (x:Aa)(h:45<x.vals.length):x.vals[45]=.int .i64 x.wcc2.after.attr.size:=rfl
theorem Aa.V8 (x:Aa):x.vals[45]?=some (.int .i64 x.wcc2.after.attr.size):=rfl
theorem Aa.Afj (x:Aa)(h:46<x.vals.length):x.vals[46]=.int .i64 x.wcc2.after.attr.id:=rfl
theorem Aa.V7 (x:Aa):x.vals[46]?=some (.int .i64 x.wcc2.after.attr.id):=rfl
theorem Aa.Afi (x:Aa)(h:47<x.vals.length):x.vals[47]=.int .i64 x.wcc2.after.attr.gen:=rfl
theorem Aa.V6 (x:Aa):x.vals[47]?=some (.int .i64 x.wcc2.after.attr.gen):=rfl
theorem Aa.Afh (x:Aa)(h:48<x.vals.length):x.vals[48]=.int .i64 x.wcc2.after.attr.change:=rfl
theorem Aa.V0 (x:Aa):x.vals[48]?=some (.int .i64 x.wcc2.after.attr.change):=rfl
theorem Aa.Afg (x:Aa)(h:49<x.vals.length):x.vals[49]=.int .i64 x.wcc2.after.attr.time:=rfl
theorem Aa.Vz (x:Aa):x.vals[49]?=some (.int .i64 x.wcc2.after.attr.time):=rfl
theorem Aa.Aff (x:Aa)(h:50<x.vals.length):x.vals[50]=.int .i64 x.access:=rfl
theorem Aa.Vy (x:Aa):x.vals[50]?=some (.int .i64 x.access):=rfl
theorem Aa.Afe (x:Aa)(h:51<x.vals.length):x.vals[51]=.int .i64 x.count:=rfl
theorem Aa.Vx (x:Aa):x.vals[51]?=some (.int .i64 x.count):=rfl
theorem Aa.Afd (x:Aa)(h:52<x.vals.length):x.vals[52]=.bool x.eof:=rfl
theorem Aa.Vw (x:Aa):x.vals[52]?=some (.bool x.eof):=rfl
theorem Aa.Afc (x:Aa)(h:53<x.vals.length):x.vals[53]=.string (bs x.data):=rfl
theorem Aa.Vv (x:Aa):x.vals[53]?=some (.string (bs x.data)):=rfl
theorem Aa.Afb (x:Aa)(h:54<x.vals.length):x.vals[54]=.int .i64 x.stable:=rfl
theorem Aa.Vu (x:Aa):x.vals[54]?=some (.int .i64 x.stable):=rfl
theorem Aa.Afa (x:Aa)(h:55<x.vals.length):x.vals[55]=.int .i64 x.verf:=rfl
theorem Aa.Vt (x:Aa):x.vals[55]?=some (.int .i64 x.verf):=rfl
theorem Aa.Ae9 (x:Aa)(h:56<x.vals.length):x.vals[56]=.slice x.ea x.en x.ec:=rfl
theorem Aa.Vs (x:Aa):x.vals[56]?=some (.slice x.ea x.en x.ec):=rfl
theorem Aa.Ae8 (x:Aa)(h:57<x.vals.length):x.vals[57]=.slice x.ua x.un x.uc:=rfl
theorem Aa.Vr (x:Aa):x.vals[57]?=some (.slice x.ua x.un x.uc):=rfl
theorem Aa.Oq (x:Aa):x.vals.toArray.extract 0 58=x.vals.toArray:=(List.extract_toArray ..).trans (congrArg List.toArray (show _=x.vals from rfl))
theorem Aa.Mu (x:Aa):x.vals.take 58=x.vals:=rfl
theorem Aa.Fa (x:Aa):x.vals.toArray.extract 2 13=x.obj.vals.toArray:=(List.extract_toArray ..).trans (congrArg List.toArray (show _=x.obj.vals from rfl))
theorem Aa.Ec (x:Aa):(x.vals.drop 2).take 11=x.obj.vals:=rfl
theorem Aa.E9 (x:Aa):x.vals.toArray.extract 3 13=x.obj.attr.vals.toArray:=(List.extract_toArray ..).trans (congrArg List.toArray (show _=x.obj.attr.vals from rfl))
theorem Aa.Eb (x:Aa):(x.vals.drop 3).take 10=x.obj.attr.vals:=rfl
theorem Aa.Mj (x:Aa):x.vals.toArray.extract 13 24=x.dir.vals.toArray:=(List.extract_toArray ..).trans (congrArg List.toArray (show _=x.dir.vals from rfl))
theorem Aa.Kh (x:Aa):(x.vals.drop 13).take 11=x.dir.vals:=rfl
theorem Aa.Mi (x:Aa):x.vals.toArray.extract 14 24=x.dir.attr.vals.toArray:=(List.extract_toArray ..).trans (congrArg List.toArray (show _=x.dir.attr.vals from rfl))
theorem Aa.Kg (x:Aa):(x.vals.drop 14).take 10=x.dir.attr.vals:=rfl
theorem Aa.Mh (x:Aa):x.vals.toArray.extract 24 37=x.wcc.vals.toArray:=(List.extract_toArray ..).trans (congrArg List.toArray (show _=x.wcc.vals from rfl))
theorem Aa.Kf (x:Aa):(x.vals.drop 24).take 13=x.wcc.vals:=rfl
theorem Aa.Oo (x:Aa):x.vals.toArray.extract 24 26=x.wcc.before.vals.toArray:=(List.extract_toArray ..).trans (congrArg List.toArray (show _=x.wcc.before.vals from rfl))
theorem Aa.Mt (x:Aa):(x.vals.drop 24).take 2=x.wcc.before.vals:=rfl
theorem Aa.Mg (x:Aa):x.vals.toArray.extract 26 37=x.wcc.after.vals.toArray:=(List.extract_toArray ..).trans (congrArg List.toArray (show _=x.wcc.after.vals from rfl))
theorem Aa.Ke (x:Aa):(x.vals.drop 26).take 11=x.wcc.after.vals:=rfl
theorem Aa.Mf (x:Aa):x.vals.toArray.extract 27 37=x.wcc.after.attr.vals.toArray:=(List.extract_toArray ..).trans (congrArg List.toArray (show _=x.wcc.after.attr.vals from rfl))
theorem Aa.Kd (x:Aa):(x.vals.drop 27).take 10=x.wcc.after.attr.vals:=rfl
theorem Aa.Me (x:Aa):x.vals.toArray.extract 37 50=x.wcc2.vals.toArray:=(List.extract_toArray ..).trans (congrArg List.toArray (show _=x.wcc2.vals from rfl))
theorem Aa.Kc (x:Aa):(x.vals.drop 37).take 13=x.wcc2.vals:=rfl
theorem Aa.On (x:Aa):x.vals.toArray.extract 37 39=x.wcc2.before.vals.toArray:=(List.extract_toArray ..).trans (congrArg List.toArray (show _=x.wcc2.before.vals from rfl))
theorem Aa.Ms (x:Aa):(x.vals.drop 37).take 2=x.wcc2.before.vals:=rfl
theorem Aa.Md (x:Aa):x.vals.toArray.extract 39 50=x.wcc2.after.vals.toArray:=(List.extract_toArray ..).trans (congrArg List.toArray (show _=x.wcc2.after.vals from rfl))
theorem Aa.Kb (x:Aa):(x.vals.drop 39).take 11=x.wcc2.after.vals:=rfl
theorem Aa.Mc (x:Aa):x.vals.toArray.extract 40 50=x.wcc2.after.attr.vals.toArray:=(List.extract_toArray ..).trans (congrArg List.toArray (show _=x.wcc2.after.attr.vals from rfl))
theorem Aa.Ka (x:Aa):(x.vals.drop 40).take 10=x.wcc2.after.attr.vals:=rfl
structure Xo where
 status:Int
 fh:List UInt8
 data:List UInt8
 obj:Ah
 dir:Ah
 wcc:Wcc
 wcc2:Wcc
 access:Int
 count:Int
 stable:Int
 verf:Int
 eof:Bool
 deriving DecidableEq
section
variable {α:Type}
theorem Pn (l:List α)(k:Nat)(hk:k<l.length):l.take (k+1)=l.take k++[l[k]]:=List.take_succ_eq_append_getElem hk
end
def okN (n most:Int):Bool:=decide (0<=n) && decide (n<=most)
def Opt.ok (o:Opt)(most:Int):Bool:=if o.is then okN o.n most else o.n==0
def Ac.ok (s:Ac):Bool:=s.mode.ok 4095 && (s.uid.ok 4294967295 && (s.gid.ok 4294967295 && (s.size.ok 9223372036854775807 && s.time.ok 9223372036854775807)))
def form (b:Bool):Int:=if b then 0 else 14
def Opt.bytes (o:Opt):List UInt8:=Sg o.is o.n
def Ac.bytes (s:Ac):List UInt8:=s.mode.bytes++s.uid.bytes++s.gid.bytes++s.size.bytes++s.time.bytes
def Attr.ok (a:Attr):Bool:=
 okN a.type 7 && decide (1<=a.type) && okN a.mode 4095 && okN a.nlink 4294967295 && okN a.uid 4294967295 && okN a.gid 4294967295 && okN a.id 4294967295 && decide (0<=a.size) && decide (0<=a.gen) && decide (0<=a.change) && decide (0<=a.time)
theorem Opt.Qb {o:Opt}{m:Int}(h:o.ok m=true):o.is=true->0<=o.n:=fun hi=>by
 unfold Opt.ok okN at h;rw[if_pos hi]at h;simp at h
 exact h.1
theorem Ac.Qb {s:Ac}(h:s.ok=true):(s.mode.is=true->0<=s.mode.n)/\(s.uid.is=true->0<=s.uid.n)/\(s.gid.is=true->0<=s.gid.n)/\(s.size.is=true->0<=s.size.n)/\(s.time.is=true->0<=s.time.n):=by
 unfold Ac.ok at h;simp only[Bool.and_eq_true]at h;exact⟨Opt.Qb h.1,Opt.Qb h.2.1,Opt.Qb h.2.2.1,Opt.Qb h.2.2.2.1,Opt.Qb h.2.2.2.2⟩
def Ac.opt (s:Ac):Nat->Opt
 |0=>s.mode
 |1=>s.uid
 |2=>s.gid
 |3=>s.size
 |_=>s.time
def Ac.upto (s:Ac):Nat->List UInt8
 |0=>[]
 |k+1=>s.upto k++(s.opt k).bytes
theorem Ac.Ajf (s:Ac):s.upto 5=s.bytes:=by simp[Ac.upto,Ac.opt,Ac.bytes]
theorem Opt.Dk (o:Opt):o.bytes.length<=12:=by
 unfold Opt.bytes Sg Jo;cases o.is<;>simp[Ce]
theorem Ac.Aly (s:Ac)(k:Nat):(s.upto k).length<=12*k:=by
 induction k with
 |zero=>simp[Ac.upto]
 |succ k ih=>have:=(s.opt k).Dk;simp only[Ac.upto,List.length_append];omega
theorem Ac.Apz {s:Ac}(h:s.ok=true){k:Nat}(hk:k<5):(s.opt k).is=true->0<=(s.opt k).n:=by
 obtain⟨h0,h1,h2,h3,h4⟩:=Ac.Qb h
 match k,hk with
 |0,_=>exact h0
 |1,_=>exact h1
 |2,_=>exact h2
 |3,_=>exact h3
 |4,_=>exact h4
theorem Ac.Amw {s:Ac}(h:s.C9){k:Nat}(hk:k<5):(s.opt k).C9:=by
 obtain⟨h0,h1,h2,h3,h4⟩:=h
 match k,hk with
 |0,_=>exact h0
 |1,_=>exact h1
 |2,_=>exact h2
 |3,_=>exact h3
 |4,_=>exact h4
def Rk (n least:Int):Bool:=decide (least<=n) && decide (n<=4294967295)
def A8.ok (c:A8):Bool:=decide (1<=c.client) && (decide (c.client<=4) && (Rk c.seq 1 && (Rk c.uid 0 && Rk c.gid 0)))
def O7 (p:Int):Bool:=decide (0<=p) && decide (p<=21)
def Av:A8:=⟨0,0,0,0⟩
def Message.may (m:Message):Bool:=
  Rk m.xid 0 && ((m.body.length % 4==0) &&
    (if m.answer then (m.proc==0) && (decide (m.C3=Av) && (decide (0<=m.accept) && (decide (m.accept<=4) && ((m.accept==0) || (m.body.isEmpty && !m.again)))))
     else O7 m.proc && (m.C3.ok && ((m.accept==0) && !m.again))))
def Message.Gi (m:Message):List Int:=
  if m.answer then [m.xid,1,0,if m.again then 1 else 0,0,m.accept]
  else [m.xid,0,2,100003,3,m.proc,1,16,m.C3.client,m.C3.seq,m.C3.uid,m.C3.gid,0,0]
def Jl (l:List Int):List UInt8:=l.flatMap fun n=>num n.toNat 4
def Message.bytes (m:Message):List UInt8:=Jl m.Gi++filled m.body
def Message.bad (m:Message):Bool:=!m.may || (decide (2048<m.body.length) || decide (2048<m.bytes.length))
end Go.Proofs.YtfjflkmhhbhceaaGreatDoor
