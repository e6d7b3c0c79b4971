/-
  Stores of whole structs, as rules of the walk's own simp; what a block is behind them. No condition.
-/
import Derived.Test.YtfjflkmhhbhceaaGreatDoorO27
import Derived.Test.YtfjflkmhhbhceaaGreatDoorO20
import Derived.Laws.IdiomCopy
import Derived.Great.BuildSlice
import Derived.Test.YtfjflkmhhbhceaaGreatDoorO03
import Derived.Test.YtfjflkmhhbhceaaGreatDoorO26
set_option maxRecDepth 20000
set_option maxHeartbeats 40000000
namespace Go.Proofs.YtfjflkmhhbhceaaGreatDoor
open Go.RowKit
section
theorem Lf {P:Program}{fn:Func}{R:Ending->World->Prop}{a:Act}{w:World}{p q r:Tmp}{ty:TypeId}{d:TypeDesc}(b o:Nat)(cs:List Value)(v u:Value)(hres:fn.results=#[.cell p ty,.tmp q,.tmp r])(hu:P.underlying ty=some d)(hd:d.isRow=true)
  (hi:(P.info? ty).map (·.size)=some cs.length) (hp:a.tmps.getD p undef=.pointer (some ⟨b,o,none⟩)) (hq:a.tmps.getD q undef=v) (hr:a.tmps.getD r undef=u) (hc:w.rangeAt b o cs) (hdef:a.defers=[]) (hR:R (.returned (.tuple #[.agg cs.toArray,v,u])) w):bodyPost P fn R .ret a w:=by
 refine bodyPost_ret (v:=.tuple #[.agg cs.toArray,v,u]) ?_ hdef hR
 have hl:=run_loadVar_mid (P:=P) w b o ty cs d hc hu hd hi;rw[Array.getD_eq_getD_getElem?]at hp hq hr;simp[results,hres,hp,hq,hr,asAddr,hl]
theorem As.made (W:World){b B sz:Nat}(e:TypeId)(rows:List (List Value))(hl:∀r∈rows,r.length=sz)(hb:b=W.heap.size)(hB:B<=b)(hn:rows.length<=1000000){k:Nat}(hk:k=rows.length) :
  As (W.alloc (.cells rows.flatten.toArray e)) B e sz (.slice (some ⟨b,0,none⟩) k k) rows:=by
 subst hb hk;have hf:=K6 rows hl;exact⟨hl,hf,.inr ⟨W.heap.size,rows.length,_,rfl,hB,heap_alloc_new W _,Nat.le_refl _,by unfold maxLen;omega,by simpa using hf,by rw[<-hf];exact List.take_length⟩⟩
def Ar (w:World)(b o n:Nat):Bool:=match w.heap[b]? with
 |some (.cells C _ (0,0))=>decide (o+n<=C.size)
 |_=>false
theorem Jf {w:World}{b o n:Nat}(h:Ar w b o n=true):w.there b o n:=by
 unfold Ar at h;split at h
 ·rename_i C T hb
  simp only[decide_eq_true_eq]at h;intro j hj;exact⟨by rw[cell_of_row w b _ C T (0,0) hb,Array.getElem?_eq_getElem (by omega)];rfl,by simp[World.frozen?,hb]⟩
 ·cases h
theorem Bv (w:World)(b o n:Nat):Ar w.drew b o n=Ar w b o n:=rfl
theorem Bj (w:World)(b o n k:Nat):Ar (w.drewN k) b o n=Ar w b o n:=rfl
theorem Cc (w:World)(C:Array Value)(T:TypeId)(b o n:Nat)(hb:b=w.heap.size):Ar (w.alloc (.cells C T)) b o n=decide (o+n<=C.size):=by
 subst hb;simp only[Ar,heap_alloc_new]
theorem Bu (w:World)(ob:Obj)(b o n:Nat)(hb:b<w.heap.size):Ar (w.alloc ob) b o n=Ar w b o n:=by
 simp only[Ar,Below.heap_alloc w ob b hb]
theorem Blk.Ar {w:World}{g:Nat}{T:TypeId}{cs:List Value}(h:Blk w g T cs)(o n:Nat)(hn:o+n<=cs.length):Ar w g o n=true:=by
 unfold Go.Proofs.YtfjflkmhhbhceaaGreatDoor.Ar;unfold Blk at h;simp only[h]
 simpa using hn
theorem Cd (w:World)(b o:Nat)(cs:List Value):putsW w.drew b o cs=(putsW w b o cs).drew:=by
 rw[B9,B9]
 induction cs generalizing w o with
 |nil=>rfl
 |cons c cs ih=>exact ih (w.setCell ⟨b,o,none⟩ c) (o+1)
theorem Bp (w:World)(b o:Nat)(cs:List Value):(putsW w b o cs).heap.size=w.heap.size:=by
 rw[B9];exact Qz b cs o w
theorem M4 (ob:Obj)(n:Nat):∀(vs:List Value) (i:Nat) (u:World),n<u.heap.size->(u.alloc ob).setCells n i vs=(u.setCells n i vs).alloc ob
 |[],_,_,_=>rfl
 |v::vs,i,u,h=>by
  rw[World.setCells,World.setCells,World.setCell_alloc_past _ _ _ _ h];exact M4 ob n vs (i+1) _ (by simpa using h)
theorem Cj (w:World)(C:Array Value)(T:TypeId)(b:Nat)(cs:List Value)(hb:b=w.heap.size)(hn:C.size=cs.length):putsW (w.alloc (.cells C T)) b 0 cs=w.alloc (.cells cs.toArray T):=by
 subst hb;rw[B9];have:=M6 w T cs [] C.toList (by simpa using hn)
 simpa using this
theorem F4 (w:World)(T:TypeId)(b:Nat)(x:Call)(hb:b=w.heap.size):putsW (w.alloc (.cells #[.int .i64 0,.string ⟨#[]⟩,.string ⟨#[]⟩,.string ⟨#[]⟩,.string ⟨#[]⟩,.int .i64 0,.int .i64 0,.int .i64 0,.string ⟨#[]⟩,.bool false,.int .i64 0,.bool false,.int .i64 0,.bool false,.int .i64 0,.bool false,.int .i64 0,.bool false,.int .i64 0,.bool false,.int .i64 0,.int .i64 0,.int .i64 0,.string ⟨#[]⟩] T)) b 0 x.vals=w.alloc (.cells x.vals.toArray T):=Cj w _ T b x.vals hb rfl
theorem P6 (w:World)(T:TypeId)(b:Nat)(x:A8)(hb:b=w.heap.size):putsW (w.alloc (.cells #[.int .i64 0,.int .i64 0,.int .i64 0,.int .i64 0] T)) b 0 x.vals=w.alloc (.cells x.vals.toArray T):=Cj w _ T b x.vals hb rfl
theorem Acd (w:World)(T:TypeId)(b:Nat)(x:B3)(hb:b=w.heap.size):putsW (w.alloc (.cells #[.int .i64 0,.int .i64 0,.string ⟨#[]⟩] T)) b 0 x.vals=w.alloc (.cells x.vals.toArray T):=Cj w _ T b x.vals hb rfl
theorem Pa (w:World)(T:TypeId)(b:Nat)(x:Message)(hb:b=w.heap.size):putsW (w.alloc (.cells #[.int .i64 0,.bool false,.bool false,.int .i64 0,.int .i64 0,.int .i64 0,.int .i64 0,.int .i64 0,.int .i64 0,.string ⟨#[]⟩] T)) b 0 x.vals=w.alloc (.cells x.vals.toArray T):=Cj w _ T b x.vals hb rfl
theorem Cm (w:World)(ob:Obj)(b o:Nat)(cs:List Value)(hb:b<w.heap.size):putsW (w.alloc ob) b o cs=(putsW w b o cs).alloc ob:=by
 rw[B9,B9];exact M4 ob b cs o w hb
theorem Ln:(Tryz.prog.info? 91).map (fun i=>(i.zero,i.size,i.bytes))=some (some (.agg T4.vals.toArray),29,280):=by kernel_rfl
def Aiv:Bz:=⟨Av,0,0,Aw,Bt⟩
theorem Lm:(Tryz.prog.info? 65).map (fun i=>(i.zero,i.size,i.bytes))=some (some (.agg Aiv.vals.toArray),88,800):=by kernel_rfl
theorem Acn:(Tryz.prog.info? 40).map (fun i=>(i.zero,i.size,i.bytes))=some (some (.agg G4.vals.toArray),3,32):=by kernel_rfl
theorem C2 (w:World)(p:Addr)(v:Value)(b o n:Nat)(h:b≠p.block):rowOf (w.setCell p v) b o n=rowOf w b o n:=by
 simp only[rowOf,Below.heap_setCell w p v b h]
theorem Bc (w:World)(b o n k i:Nat)(cs:List Value)(h:b≠k):rowOf (putsW w k i cs) b o n=rowOf w b o n:=by
 have ht:Touch (fun j=>j=k) w (putsW w k i cs):=by rw[B9];exact Touch.setCells (F:=fun j=>j=k) (g:=k) (.inl rfl) cs i w (Touch.refl _ _)
 rcases Nat.lt_or_ge b w.heap.size with hlt|hge
 ·exact ht.row hlt h o n
 ·have h1:=Array.getElem?_eq_none hge
  have h2:(putsW w k i cs).heap[b]?=none:=Array.getElem?_eq_none (by rw[Bp];exact hge);simp only[rowOf,h1,h2]
theorem Az (w:World)(b o k i:Nat)(cs:List Value)(h:b≠k)(hlt:b<w.heap.size):(putsW w k i cs).cell? ⟨b,o,none⟩=w.cell? ⟨b,o,none⟩:=by
 have ht:Touch (fun j=>j=k) w (putsW w k i cs):=by rw[B9];exact Touch.setCells (F:=fun j=>j=k) (g:=k) (.inl rfl) cs i w (Touch.refl _ _)
 exact ht.cell (p:=⟨b,o,none⟩) hlt h
theorem B7 (w:World)(b o i:Nat)(cs:List Value)(h:o<i):(putsW w b i cs).cell? ⟨b,o,none⟩=w.cell? ⟨b,o,none⟩:=by
 rw[B9];exact World.cell?_setCells_out b cs i w _ fun _ _=>.inl h
theorem C5 (w:World)(b i:Nat)(cs:List Value)(x:Addr):(putsW w b i cs).frozen? x=w.frozen? x:=by
 rw[B9];exact World.frozen?_setCells b cs i w x
theorem C6 (w:World)(p:Addr)(v:Value)(b o n:Nat):Ar (w.setCell p v) b o n=Ar w b o n:=by
 unfold Ar;by_cases h:b=p.block
 ·subst h
  cases hb:w.heap[p.block]? with
  |none=>
   have:(w.setCell p v).heap[p.block]?=none:=by simp[World.setCell,Array.getElem?_modify,hb]
   rw[this]
  |some ob=>
   cases ob with
   |cells C T fr=>
    have:∃D,(w.setCell p v).heap[p.block]?=some (.cells D T fr)/\D.size=C.size:=by
     simp only[World.setCell,Array.getElem?_modify,hb,if_true,Option.map_some];split<;>exact⟨_,rfl,by simp⟩
    obtain⟨D,h1,h2⟩:=this;rw[h1];obtain⟨f1,f2⟩:=fr;cases f1<;>cases f2<;>simp[h2]
   |_=>
    have:∃o',(w.setCell p v).heap[p.block]?=some o'/\(∀C T fr,o'≠.cells C T fr):=by
     simp only[World.setCell,Array.getElem?_modify,hb,if_true,Option.map_some];refine⟨_,rfl,?_⟩
     intro C T fr hq
     first|cases hq|(split at hq<;>cases hq)
    obtain⟨o',h1,h2⟩:=this;rw[h1];cases o'<;>first|rfl|(exact absurd rfl (h2 _ _ _))
 ·simp only[Below.heap_setCell w p v b h]
theorem Bi (w:World)(b o n k i:Nat)(cs:List Value):Ar (putsW w k i cs) b o n=Ar w b o n:=by
 rw[B9]
 induction cs generalizing w i with
 |nil=>rfl
 |cons c cs ih=>rw[World.setCells,ih,C6]
def D5:Value->Bool
 |.int _ _=>true
 |.string _=>true
 |.bool _=>true
 |.slice _ _ _=>true
 |_=>false
def Dz:List Value->Bool
 |[]=>true
 |v::vs=>D5 v && Dz vs
def Da (n:Nat):Value->Bool
 |.agg cs=>decide (cs.toList.length=n) && Dz cs.toList
 |_=>false
theorem Yr:∀v,D5 v=true->v.oneCell'=true:=by
 intro v h;cases v<;>first|rfl|cases h
theorem Zu:∀vs,Dz vs=true->∀v∈vs,v.oneCell'=true
 |[],_,v,hv=>absurd hv (by simp)
 |u::us,h,v,hv=>by
  unfold Dz at h;rw[Bool.and_eq_true]at h;rcases List.mem_cons.1 hv with rfl|hv
  ·exact Yr _ h.1
  ·exact Zu us h.2 v hv
theorem Aat {n:Nat}{v:Value}(h:Da n v=true):Arn n v:=by
 unfold Da at h;split at h
 ·simp only[Bool.and_eq_true,decide_eq_true_eq]at h
  exact⟨h.1,fun u hu=>Zu _ h.2 u hu⟩
 ·cases h
theorem Cr (n:Nat)(cs:Array Value):Da n (.agg cs)=(decide (cs.toList.length=n) && Dz cs.toList):=rfl
theorem D0 (x:Call):Da 24 (.agg x.vals.toArray)=true:=by
 obtain⟨⟩:=x;rfl
theorem Ot (x:Bm):Da 29 (.agg x.vals.toArray)=true:=by
 obtain⟨⟩:=x;rfl
theorem Adg (x:A8):Da 4 (.agg x.vals.toArray)=true:=by
 obtain⟨⟩:=x;rfl
theorem Ic (x:B3):Da 3 (.agg x.vals.toArray)=true:=by
 obtain⟨⟩:=x;rfl
theorem Ks (x:Message):Da 10 (.agg x.vals.toArray)=true:=by
 obtain⟨⟩:=x;rfl
theorem Ho (x:Aa):Da 58 (.agg x.vals.toArray)=true:=by
 obtain⟨⟩:=x;rfl
theorem Nr (x:Ask):Da 30 (.agg x.vals.toArray)=true:=by
 obtain⟨⟩:=x;rfl
theorem Hh {T:TypeId}{n:Nat}(hi:(Tryz.prog.info? T).map (·.size)=some n){ρ:Operand->Value}{w:World}{dst:Option Tmp}{ty:TypeId}{pos:String}{after:Array Edge}{g:Option (Nat × Bool)}{x y:Operand}(hx:Dt (ρ x)=true)(hy:Da n (ρ y)=true)(ht:Ar w (C8 (ρ x)) (C7 (ρ x)) n=true) :
  (execOp ρ ⟨dst,.store T x y,ty,pos,after,g⟩).run Tryz.prog w=.ok .skip (putsW w (C8 (ρ x)) (C7 (ρ x)) (ρ y).cells.toList):=
 Abk hi hx (Aat hy) (Jf ht)
section
variable {ρ:Operand->Value} {w:World} {dst:Option Tmp} {ty:TypeId} {pos:String} {after:Array Edge} {g:Option (Nat × Bool)} {x y:Operand}
theorem Pp (hx:Dt (ρ x)=true)(hy:Da 29 (ρ y)=true)(ht:Ar w (C8 (ρ x)) (C7 (ρ x)) 29=true) :
  (execOp ρ ⟨dst,.store 91 x y,ty,pos,after,g⟩).run Tryz.prog w=.ok .skip (putsW w (C8 (ρ x)) (C7 (ρ x)) (ρ y).cells.toList):=Hh (by kernel_rfl) hx hy ht
theorem Po (hx:Dt (ρ x)=true)(hy:D5 (ρ y)=true)(ht:Ar w (C8 (ρ x)) (C7 (ρ x)) 1=true) :
  (execOp ρ ⟨dst,.store 9 x y,ty,pos,after,g⟩).run Tryz.prog w=.ok .skip (putsW w (C8 (ρ x)) (C7 (ρ x)) [ρ y]):=by
 have hc:(ρ y).cells=#[ρ y]:=by
  generalize ρ y=v at *;cases v<;>first|rfl|cases hy
 have:=Abk (P:=Tryz.prog) (T:=9) (n:=1) (by kernel_rfl) (ρ:=ρ) (w:=w) (dst:=dst) (ty:=ty) (pos:=pos) (after:=after) (g:=g) (x:=x) (y:=y) hx ⟨by rw[hc];rfl,by rw[hc];intro u hu;simp at hu;subst hu;exact Yr _ hy⟩ (Jf ht);rw[this,hc]
theorem Up (hx:Dt (ρ x)=true)(hy:Da 4 (ρ y)=true)(ht:Ar w (C8 (ρ x)) (C7 (ρ x)) 4=true) :
  (execOp ρ ⟨dst,.store 87 x y,ty,pos,after,g⟩).run Tryz.prog w=.ok .skip (putsW w (C8 (ρ x)) (C7 (ρ x)) (ρ y).cells.toList):=Hh (by kernel_rfl) hx hy ht
theorem F1 (hx:Dt (ρ x)=true)(hy:Da 24 (ρ y)=true)(ht:Ar w (C8 (ρ x)) (C7 (ρ x)) 24=true) :
  (execOp ρ ⟨dst,.store 36 x y,ty,pos,after,g⟩).run Tryz.prog w=.ok .skip (putsW w (C8 (ρ x)) (C7 (ρ x)) (ρ y).cells.toList):=Hh (by kernel_rfl) hx hy ht
theorem Qy (hx:Dt (ρ x)=true)(hy:Da 4 (ρ y)=true)(ht:Ar w (C8 (ρ x)) (C7 (ρ x)) 4=true) :
  (execOp ρ ⟨dst,.store 63 x y,ty,pos,after,g⟩).run Tryz.prog w=.ok .skip (putsW w (C8 (ρ x)) (C7 (ρ x)) (ρ y).cells.toList):=Hh (by kernel_rfl) hx hy ht
theorem J1 (hx:Dt (ρ x)=true)(hy:Da 3 (ρ y)=true)(ht:Ar w (C8 (ρ x)) (C7 (ρ x)) 3=true) :
  (execOp ρ ⟨dst,.store 40 x y,ty,pos,after,g⟩).run Tryz.prog w=.ok .skip (putsW w (C8 (ρ x)) (C7 (ρ x)) (ρ y).cells.toList):=Hh (by kernel_rfl) hx hy ht
theorem Mk (hx:Dt (ρ x)=true)(hy:Da 10 (ρ y)=true)(ht:Ar w (C8 (ρ x)) (C7 (ρ x)) 10=true) :
  (execOp ρ ⟨dst,.store 81 x y,ty,pos,after,g⟩).run Tryz.prog w=.ok .skip (putsW w (C8 (ρ x)) (C7 (ρ x)) (ρ y).cells.toList):=Hh (by kernel_rfl) hx hy ht
theorem Le (hx:Dt (ρ x)=true)(hy:Da 58 (ρ y)=true)(ht:Ar w (C8 (ρ x)) (C7 (ρ x)) 58=true) :
  (execOp ρ ⟨dst,.store 51 x y,ty,pos,after,g⟩).run Tryz.prog w=.ok .skip (putsW w (C8 (ρ x)) (C7 (ρ x)) (ρ y).cells.toList):=Hh (by kernel_rfl) hx hy ht
end
section
variable {ρ:Operand->Value} {w:World} {dst:Option Tmp} {ty:TypeId} {pos:String} {after:Array Edge} {g:Option (Nat × Bool)} {x:Operand}
theorem Pt (h:(rowAt w 29 (ρ x)).isSome=true) :
  (execOp ρ ⟨dst,.load 91 x,ty,pos,after,g⟩).run Tryz.prog w=.ok (.value (.agg ((rowAt w 29 (ρ x)).getD #[]))) w:=D8 91 29 Tryz.underlying91 rfl (by kernel_rfl) h
theorem Abb (h:(rowAt w 4 (ρ x)).isSome=true) :
  (execOp ρ ⟨dst,.load 87 x,ty,pos,after,g⟩).run Tryz.prog w=.ok (.value (.agg ((rowAt w 4 (ρ x)).getD #[]))) w:=D8 87 4 Tryz.underlying87 rfl (by kernel_rfl) h
theorem D6 (h:(rowAt w 24 (ρ x)).isSome=true) :
  (execOp ρ ⟨dst,.load 36 x,ty,pos,after,g⟩).run Tryz.prog w=.ok (.value (.agg ((rowAt w 24 (ρ x)).getD #[]))) w:=D8 36 24 Tryz.underlying36 rfl (by kernel_rfl) h
theorem N9 (h:(rowAt w 4 (ρ x)).isSome=true) :
  (execOp ρ ⟨dst,.load 63 x,ty,pos,after,g⟩).run Tryz.prog w=.ok (.value (.agg ((rowAt w 4 (ρ x)).getD #[]))) w:=D8 63 4 Tryz.underlying63 rfl (by kernel_rfl) h
theorem Gq (h:(rowAt w 3 (ρ x)).isSome=true) :
  (execOp ρ ⟨dst,.load 40 x,ty,pos,after,g⟩).run Tryz.prog w=.ok (.value (.agg ((rowAt w 3 (ρ x)).getD #[]))) w:=D8 40 3 Tryz.underlying40 rfl (by kernel_rfl) h
theorem Mx (h:(rowAt w 10 (ρ x)).isSome=true) :
  (execOp ρ ⟨dst,.load 81 x,ty,pos,after,g⟩).run Tryz.prog w=.ok (.value (.agg ((rowAt w 10 (ρ x)).getD #[]))) w:=D8 81 10 Tryz.underlying81 rfl (by kernel_rfl) h
theorem Ji (h:(rowAt w 58 (ρ x)).isSome=true) :
  (execOp ρ ⟨dst,.load 51 x,ty,pos,after,g⟩).run Tryz.prog w=.ok (.value (.agg ((rowAt w 58 (ρ x)).getD #[]))) w:=D8 51 58 Tryz.underlying51 rfl (by kernel_rfl) h
theorem L6 (h:(rowAt w 30 (ρ x)).isSome=true) :
  (execOp ρ ⟨dst,.load 38 x,ty,pos,after,g⟩).run Tryz.prog w=.ok (.value (.agg ((rowAt w 30 (ρ x)).getD #[]))) w:=D8 38 30 Tryz.underlying38 rfl (by kernel_rfl) h
theorem Aeh (h:(rowAt w 94 (ρ x)).isSome=true) :
  (execOp ρ ⟨dst,.load 53 x,ty,pos,after,g⟩).run Tryz.prog w=.ok (.value (.agg ((rowAt w 94 (ρ x)).getD #[]))) w:=D8 53 94 Tryz.underlying53 rfl (by kernel_rfl) h
theorem Abc (h:(rowAt w 15 (ρ x)).isSome=true) :
  (execOp ρ ⟨dst,.load 126 x,ty,pos,after,g⟩).run Tryz.prog w=.ok (.value (.agg ((rowAt w 15 (ρ x)).getD #[]))) w:=D8 126 15 Tryz.underlying126 rfl (by kernel_rfl) h
end
section
variable {w:World} {g:Nat} {T:TypeId} {cs:List Value}
theorem Blk.D2 (h:Blk w g T cs)(o:Nat)(vs:List Value):Blk (putsW w g o vs) g T (setAt cs o vs):=by
 rw[B9];exact Blk.Ml vs cs o w h
theorem Blk.Jh {b o:Nat}{vs:List Value}(h:Blk w g T cs)(hg:g≠b):Blk (putsW w b o vs) g T cs:=by
 rw[B9];exact Blk.Fk hg vs o w h
theorem Touch.D2 {F:Nat->Prop}{a b:World}{k o:Nat}{vs:List Value}(h:Touch F a b)(hk:F k\/a.heap.size<=k):Touch F a (putsW b k o vs):=by
 rw[B9];exact Touch.setCells hk vs o b h
end
end
section
def cellsOf (v:Value):List Value:=v.cells.toList
theorem Cy (cs:Array Value):cellsOf (.agg cs)=cs.toList:=rfl
@[irreducible] def part3V (A d p:Value):Value:=.agg (A.cells++#[d,.int .i64 0,p,.int .i64 0,.int .i64 0])
@[irreducible] def part4V (A d t p:Value):Value:=.agg (A.cells++#[d,t,p,.int .i64 0,.int .i64 0])
@[irreducible] def part3Ok (A d p:Value):Prop:=∃(x:Call) (i k:Int),A=.agg x.vals.toArray/\d=.int .i64 i/\p=.int .i64 k
@[irreducible] def part4Ok (A d t p:Value):Prop:=∃(x:Call) (i j k:Int),A=.agg x.vals.toArray/\d=.int .i64 i/\t=.int .i64 j/\p=.int .i64 k
section
variable {ρ:Operand->Value} {w:World} {dst:Option Tmp} {ty:TypeId} {pos:String} {after:Array Edge} {g:Option (Nat × Bool)} {a b c d:Operand}
end
theorem Ahm {s:Nat}(hs:0<s)(base:Array Value)(vs:List Value)(hb:base.size=vs.length*s)(hl:∀v∈vs,v.cells.size=s):Instr.fill (fun i=>some (i*s,s)) base ((vs.zipIdx 0).map fun x=>(x.2,x.1))=some (vs.flatMap cellsOf).toArray:=by
 obtain⟨r,hr,hsz,hk⟩:=Great.fill_dense hs vs 0 base hl (by rw[Nat.zero_add,hb];exact Nat.le_refl _);rw[hr];congr 1
 have hlen:∀r∈vs.map cellsOf,r.length=s:=by
  intro r hr;obtain⟨v,hv,rfl⟩:=List.mem_map.1 hr;exact hl v hv
 have hf:=K6 (vs.map cellsOf) hlen;rw[List.length_map]at hf;apply Array.ext_getElem?
 intro k;have hk2:=hk k;rw[Nat.zero_mul,Nat.zero_add]at hk2;rw[hk2];have hfm:vs.flatMap cellsOf=(vs.map cellsOf).flatten:=List.flatMap_def ..;by_cases hlt:k<vs.length*s
 ·rw[if_pos ⟨Nat.zero_le _,hlt⟩]
  have hq:k / s<vs.length:=(Nat.div_lt_iff_lt_mul hs).2 hlt;have hdm:k / s*s+k % s=k:=Nat.div_add_mod' k s;have hm:k % s<s:=Nat.mod_lt _ hs;have hv:=hl _ (List.getElem_mem hq);have h1:=flat_get (vs.map cellsOf) hlen (k / s) (cellsOf vs[k / s]) (by rw[List.getElem?_map,List.getElem?_eq_getElem hq];rfl) (k % s) (vs[k / s].cells[k % s]'(by omega)) (by unfold cellsOf;rw[Array.getElem?_toList,Array.getElem?_eq_getElem (by omega)]);rw[hdm,<-hfm]at h1;rw[Nat.sub_zero,List.getElem?_eq_getElem hq];simp only[Option.bind_some,List.getElem?_toArray];rw[h1,Array.getElem?_eq_getElem (by omega)]
 ·rw[if_neg (fun h=>hlt h.2),Array.getElem?_eq_none (by omega),List.getElem?_toArray,hfm,List.getElem?_eq_none (by omega)]
theorem E4 {n:Nat}{v:Value}(h:Da n v=true):v.cells.size=n:=by
 have:=(Aat h).1
 simpa using this
theorem F2 {t e:TypeId}{z:Array Value}{s n by_:Nat}(hu:Tryz.prog.underlying t=some (.slice e))(hi:(Tryz.prog.info? e).map (fun i=>(i.zero,i.size,i.bytes))=some (some (.agg z),s,by_))(h0:0<s)(hs:s<=1000)(vs:List Value)(hn:vs.length=n)(hn0:0<n)(hn1:n<=1000)(hl:∀v∈vs,v.cells.size=s)(w:World) :
  (Instr.buildSlice t n ((vs.zipIdx 0).map fun x=>(x.2,x.1)).toArray).run Tryz.prog w=.ok (.slice (some ⟨w.heap.size,0,none⟩) n n) (w.alloc (.cells (vs.flatMap cellsOf).toArray e)):=by
 obtain⟨i0,hi0,hz,hsize,hby⟩:=info_parts hi;have hm:n*s<=1000*1000:=Nat.mul_le_mul hn1 hs;have hp:0<n*s:=Nat.mul_pos hn0 h0;refine run_buildSlice w t e n _ _ i0 _ hu hi0 hz (by rw[hsize];omega) (by rw[hsize];omega) ?_
 rw[hsize];exact Ahm h0 _ vs (by simp[hn]) hl
section
variable {ρ:Operand->Value} {w:World} {dst:Option Tmp} {ty:TypeId} {pos:String} {after:Array Edge} {g:Option (Nat × Bool)} {a b c d:Operand}
theorem Ala (h:Da 29 (ρ a)=true):(execOp ρ ⟨dst,.buildSlice 89 1 #[(0,a)],ty,pos,after,g⟩).run Tryz.prog w=.ok (.value (.slice (some ⟨w.heap.size,0,none⟩) 1 1)) (w.alloc (.cells (cellsOf (ρ a)).toArray 91)):=by
 have hr:=F2 (s:=29) (n:=1) Tryz.underlying89 Ln (by decide) (by decide) [ρ a] rfl (by decide) (by decide) (fun v hv=>by rw[List.mem_singleton]at hv;subst hv;exact E4 h) w;rw[show [ρ a].flatMap cellsOf=cellsOf (ρ a) by simp]at hr;unfold execOp;simp only[List.map_toArray,List.map_cons,List.map_nil];rw[Sem.run_bind];rw[show (#[(0,ρ a)]:Array (Nat × Value))=(([ρ a].zipIdx 0).map fun x=>(x.2,x.1)).toArray from rfl,hr];rfl
theorem Ak9 (h1:Da 29 (ρ a)=true)(h2:Da 29 (ρ b)=true)(h3:Da 29 (ρ c)=true):(execOp ρ ⟨dst,.buildSlice 89 3 #[(0,a),(1,b),(2,c)],ty,pos,after,g⟩).run Tryz.prog w=.ok (.value (.slice (some ⟨w.heap.size,0,none⟩) 3 3)) (w.alloc (.cells (cellsOf (ρ a)++(cellsOf (ρ b)++cellsOf (ρ c))).toArray 91)):=by
 have hr:=F2 (s:=29) (n:=3) Tryz.underlying89 Ln (by decide) (by decide) [ρ a,ρ b,ρ c] rfl (by decide) (by decide) (fun v hv=>by
  simp only[List.mem_cons,List.not_mem_nil,or_false]at hv;rcases hv with rfl|rfl|rfl
  ·exact E4 h1
  ·exact E4 h2
  ·exact E4 h3) w
 rw[show [ρ a,ρ b,ρ c].flatMap cellsOf=cellsOf (ρ a)++(cellsOf (ρ b)++cellsOf (ρ c)) by simp]at hr;unfold execOp;simp only[List.map_toArray,List.map_cons,List.map_nil];rw[Sem.run_bind];rw[show (#[(0,ρ a),(1,ρ b),(2,ρ c)]:Array (Nat × Value))=(([ρ a,ρ b,ρ c].zipIdx 0).map fun x=>(x.2,x.1)).toArray from rfl,hr];rfl
theorem Pw (h:Da 88 (ρ a)=true):(execOp ρ ⟨dst,.buildSlice 60 1 #[(0,a)],ty,pos,after,g⟩).run Tryz.prog w=.ok (.value (.slice (some ⟨w.heap.size,0,none⟩) 1 1)) (w.alloc (.cells (cellsOf (ρ a)).toArray 65)):=by
 have hr:=F2 (s:=88) (n:=1) Tryz.underlying60 Lm (by decide) (by decide) [ρ a] rfl (by decide) (by decide) (fun v hv=>by rw[List.mem_singleton]at hv;subst hv;exact E4 h) w;rw[show [ρ a].flatMap cellsOf=cellsOf (ρ a) by simp]at hr;unfold execOp;simp only[List.map_toArray,List.map_cons,List.map_nil];rw[Sem.run_bind];rw[show (#[(0,ρ a)]:Array (Nat × Value))=(([ρ a].zipIdx 0).map fun x=>(x.2,x.1)).toArray from rfl,hr];rfl
theorem O3 (h:Da 3 (ρ a)=true):(execOp ρ ⟨dst,.buildSlice 56 1 #[(0,a)],ty,pos,after,g⟩).run Tryz.prog w=.ok (.value (.slice (some ⟨w.heap.size,0,none⟩) 1 1)) (w.alloc (.cells (cellsOf (ρ a)).toArray 40)):=by
 have hr:=F2 (s:=3) (n:=1) Tryz.underlying56 Acn (by decide) (by decide) [ρ a] rfl (by decide) (by decide) (fun v hv=>by rw[List.mem_singleton]at hv;subst hv;exact E4 h) w;rw[show [ρ a].flatMap cellsOf=cellsOf (ρ a) by simp]at hr;unfold execOp;simp only[List.map_toArray,List.map_cons,List.map_nil];rw[Sem.run_bind];rw[show (#[(0,ρ a)]:Array (Nat × Value))=(([ρ a].zipIdx 0).map fun x=>(x.2,x.1)).toArray from rfl,hr];rfl
end
theorem As.P0 {w:World}{B:Nat}{e t ty:TypeId}{sz by_:Nat}{z:Array Value}{v:Value}{rows:List (List Value)}(hu:Tryz.prog.underlying t=some (.slice e))(hi:(Tryz.prog.info? e).map (fun i=>(i.zero,i.size,i.bytes))=some (some (.agg z),sz,by_))(hz:z.size=sz)(h0:0<sz)(hby:by_<=4096)(h:As w B e sz v rows)(hB:B<=w.heap.size)
  {b:Nat} {news:List (List Value)} (hb:Blk w b e news.flatten) (hl:∀r∈news,r.length=sz) (h1:∀r∈news,∀u∈r,u.oneCell'=true) (hn:rows.length+news.length<=1000000000) {k:Nat} (hk:k=news.length) (c:Nat) :
  ∃v' w',(Builtin.append_ #[t,t] ty #[v,.slice (some ⟨b,0,none⟩) k c]).run Tryz.prog w=.ok v' w'/\(As w' B e sz v' (rows++news)/\w.grownBy w' v.ownBlock/\(v'.ownBlock=v.ownBlock\/v'.ownBlock=some w.heap.size)):=by
 subst hk;obtain⟨i0,hi0,hz0,hsize,hby0⟩:=info_parts hi;have hfl:=K6 news hl;obtain⟨v',w',hrun,hown,hgrow,-,hat⟩:=run_append_own_at (P:=Tryz.prog) (w:=w) B t ty e i0 (.agg z) sz by_ hu hi0 hz0 hsize hby0 hz h0 v rows.length rows.flatten h.2 ⟨b,0,none⟩ news.length c news.flatten hfl
  (fun j u hj=>by rw[Addr.add_mid,Nat.zero_add,hb.cell];exact hj) (fun u hu=>by
   obtain⟨r,hr,hu⟩:=List.mem_flatten.1 hu;exact h1 r hr u hu) (by unfold maxLen;omega) (Nat.le_trans (Nat.mul_le_mul hn hby) (by omega)) hB
 refine⟨v',w',hrun,⟨fun q hq=>?_,?_⟩,hgrow,hat⟩
 ·rcases List.mem_append.1 hq with hq|hq
  ·exact h.1 q hq
  ·exact hl q hq
 ·rw[List.length_append,List.flatten_append]
  exact hown
end
attribute [local go_sem ↓] Go.wp_at_zero Go.wp_at_succ
attribute [local go_sem] Ai Ag Af Ab Aj
section
attribute [local go_sem ↓] Pp Up F1 Qy J1 Mk Le Pt Abb D6 N9 Gq Mx Ji L6
attribute [local go_sem] Bv Bj Cc Bu Cd Cj Cm C2 Bc Dt C8 C7 Da Dz D5
def F0 (z:Di)(n:Nat):Bm:=⟨{ Aw with proc:=7,offset:=(z.place n).at_,data:=(z.place n).bytes,how:=2 },n,0,-1,0,0⟩
theorem Kj (F:Nat->Prop)(w:World)(g:Nat)(c:ClD)(z:Di)(l:List Bz)(hC:D3 F w g c z l)(n:Nat)(hn:n<4) :
  Calls Tryz.prog 81 #[.pointer (some ⟨g,0,none⟩),.int .i64 n] w fun e w'=>∃v,e=.returned v/\As w' w.heap.size 91 29 v ((c.ahead n).2.map Bm.vals)/\(∃z',D3 F w' g (c.ahead n).1 z' l)/\Touch (fun k=>k=g) w w':=by
 obtain⟨i0,hi,hz,hsize,hby⟩:=info_parts Ln;have HI:=Zh (And.intro hi (And.intro hz hsize));clear hi hz hsize;obtain⟨q0,q1,q2,q3⟩:=Hm z hn;have hP:c.at_ n=z.place n:=hC.is.at_ hn;have c2:w.cell? ⟨g,3+n*4+2,none⟩=some (.int .i64 (z.place n).at_):=(hC.blk.cell _).trans q2;have c3:w.cell? ⟨g,3+n*4+3,none⟩=some (.string (bs (z.place n).bytes)):=(hC.blk.cell _).trans q3;have hn0:(0:Int)<=(n:Int):=by omega
 have hn1:(n:Int)<4:=by omega
 have hgl:=hC.blk.lt;clear q0 q1 q2 q3;by_cases he:(z.place n).bytes=[]
 ·rw[he]at c3
  have HQ:=Zh (show c.ahead n=(c,[]) from if_pos (by rw[hP];exact he));go_enter Tryz.func81,Tryz.ntmps81
  go_wp2;go_ret;refine⟨_,rfl,?_,?_,Touch.refl _ _⟩
  ·rw[HQ.out];exact As.none_
  ·rw[HQ.out];exact⟨z,hC⟩
 ·have hie:(z.place n).bytes.isEmpty=false:=by simpa using he
  have HQ:=Zh (show c.ahead n=(c.Kv n { z.place n with at_:=0,bytes:=[] },[F0 z n]) by
   have h1:c.ahead n=(c.Kv n { c.at_ n with at_:=0,bytes:=[] },[⟨{ Aw with proc:=7,offset:=(c.at_ n).at_,data:=(c.at_ n).bytes,how:=2 },n,0,-1,0,0⟩]):=if_neg (by rw[hP];exact he);rw[h1,hP]
   rfl)
  have HC:=Zh hC;have HP:=Zh hP;have bN:=(Blk.new w 91 (F0 z n).vals).drew;have hBe:Below w.heap.size w (w.alloc (.cells (F0 z n).vals.toArray 91)).drew:=((Below.refl _ _).alloc (Nat.le_refl _) _).drew;obtain⟨w1,hw1⟩:∃V,V=(w.alloc (.cells (F0 z n).vals.toArray 91)).drew:=⟨_,rfl⟩;rw[<-hw1]at bN hBe;have HW:=Zh hw1;clear hw1 hP;go_enter Tryz.func81,Tryz.ntmps81
  go_wp2;go_region;change Exit.then _ _ _ _ (w.alloc (.cells (F0 z n).vals.toArray 91)).drew;rw[<-HW.out];have bg:=hC.blk.stays hBe;replace c2:=(hBe.cell (p:=⟨g,3+n*4+2,none⟩) hgl).trans c2;replace c3:=(hBe.cell (p:=⟨g,3+n*4+3,none⟩) hgl).trans c3;have hfr:=bg.frozen;have hrow:=bN.row 0 29 (by rw[Bm.len];omega);rw[List.drop_zero,show (F0 z n).vals.take 29=(F0 z n).vals from rfl]at hrow;have HBE:=Zh hBe;have HBN:=Zh bN;have HBG:=Zh bg;have hne:w.heap.size≠g:=by omega
  clear hBe bN bg hC HW he
  go_wp2_with (first
   |(refine K8 (by rfl) 89 91 (.tmp 34) (by rfl) (F0 z n).vals (by rfl) Tryz.underlying89 i0 _ HI.out.1 HI.out.2.1 rfl HI.out.2.2 (by rw[Bm.len];omega) (by rw[Bm.len];omega) ?_)
   |fail)
  go_ret;have bw:=((HBG.out.Be (3+n*4+2) (.int .i64 0)).Be (3+n*4+3) (.string (bs []))).alloc (.cells (F0 z n).vals.toArray 91);rw[Rg z hn]at bw;have ht:=(((Touch.Aq HBE.out (fun k=>k=g)).setCell (p:=⟨g,3+n*4+2,none⟩) (.inl rfl) (.int .i64 0)).setCell (p:=⟨g,3+n*4+3,none⟩) (.inl rfl) (.string (bs []))).alloc (.cells (F0 z n).vals.toArray 91);obtain⟨k1,k2,k2c,k3,k4,k5⟩:=Kr z hn { z.place n with at_:=0,bytes:=[] };rw[HQ.out];refine⟨_,rfl,?_,⟨_,HC.out.own ht bw (HC.out.is.Cq hn _) k1 k2 k2c rfl k3 k4 k5 rfl⟩,ht⟩
  have:=As.made ((w1.setCell ⟨g,3+n*4+2,none⟩ (.int .i64 0)).setCell ⟨g,3+n*4+3,none⟩ (.string (bs []))) (b:=w1.heap.size) (B:=w.heap.size) (sz:=29) (k:=1) 91 [(F0 z n).vals] (fun r hr=>by rw[List.mem_singleton]at hr;subst hr;rfl) (by simp[World.setCell]) HBE.out.size (by simp) rfl;rw[show [(F0 z n).vals].flatten=(F0 z n).vals by simp]at this;exact this
end
section
attribute [local go_sem ↓] Pp Up F1 Pt Abb D6
attribute [local go_sem] Bv Bj Cc Bu Cd Cj Cm C2 Bc Dt C8 C7 Da Dz D5
theorem Aos {c:ClD}{z:Di}(h:ClZ c z){n:Nat}(hn:n<4):((c.ahead n).1.at_ n).handle=(c.at_ n).handle/\((c.ahead n).1.at_ n).gen=(c.at_ n).gen:=by
 unfold ClD.ahead;split
 ·exact⟨rfl,rfl⟩
 ·have h1:=(h.Cq hn { c.at_ n with at_:=0,bytes:=[] }).at_ hn
  have h2:(z.Cq n { c.at_ n with at_:=0,bytes:=[] }).place n={ c.at_ n with at_:=0,bytes:=[] }:=by
   rcases (show n=0\/n=1\/n=2\/n=3 by omega) with rfl|rfl|rfl|rfl<;>rfl
  show ((c.Kv n { c.at_ n with at_:=0,bytes:=[] }).at_ n).handle=_/\((c.Kv n { c.at_ n with at_:=0,bytes:=[] }).at_ n).gen=_
  rw[h1,h2];exact⟨rfl,rfl⟩
theorem Y2 {F:Nat->Prop}{w w1 w2:World}{g n:Nat}{c:ClD}{z z2:Di}{l:List Bz}{x:Call}{v:Value}{k:Nat}(hC:D3 F w2 g (c.ahead n).1 z2 l)(hB:Below w.heap.size w w1)(hT:Touch (fun k=>k=g) (w1.drewN k) w2)
  (hR:As w2 (w1.drewN k).heap.size 91 29 v ((c.ahead n).2.map Bm.vals)) (hQ:c.late n x=((c.ahead n).1.Kv n { z.place n with at_:=x.offset,bytes:=x.data },(c.ahead n).2)) (hP:c.at_ n=z.place n) (hn:n<4) (hz:ClZ c z) (hg:g<w.heap.size) :
  ∃u,Ending.returned v=.returned u/\As ((w2.drew.setCell ⟨g,3+n*4+2,none⟩ (.int .i64 x.offset)).setCell ⟨g,3+n*4+3,none⟩ (.string (bs x.data))) w.heap.size 91 29 u ((c.late n x).2.map Bm.vals) /\
   (∃z',D3 F ((w2.drew.setCell ⟨g,3+n*4+2,none⟩ (.int .i64 x.offset)).setCell ⟨g,3+n*4+3,none⟩ (.string (bs x.data))) g (c.late n x).1 z' l)/\Touch (fun k=>k=g) w ((w2.drew.setCell ⟨g,3+n*4+2,none⟩ (.int .i64 x.offset)).setCell ⟨g,3+n*4+3,none⟩ (.string (bs x.data))):=by
 have bw:=((hC.blk.drew).Be (3+n*4+2) (.int .i64 x.offset)).Be (3+n*4+3) (.string (bs x.data));rw[Rg z2 hn]at bw;have ht1:=(((Touch.refl (fun k=>k=g) w2).drew).setCell (p:=⟨g,3+n*4+2,none⟩) (.inl rfl) (.int .i64 x.offset)).setCell (p:=⟨g,3+n*4+3,none⟩) (.inl rfl) (.string (bs x.data));obtain⟨k1,k2,k2c,k3,k4,k5⟩:=Kr z2 hn { z2.place n with at_:=x.offset,bytes:=x.data };obtain⟨a1,a2⟩:=Aos hz hn;have e2:({ z.place n with at_:=x.offset,bytes:=x.data }:Hl)={ z2.place n with at_:=x.offset,bytes:=x.data }:=by
  rw[hC.is.at_ hn,hP]at a1 a2
  show (⟨(z.place n).handle,(z.place n).gen,x.offset,x.data⟩:Hl)=⟨(z2.place n).handle,(z2.place n).gen,x.offset,x.data⟩
  rw[a1,a2]
 have hs:w.heap.size<=w1.heap.size:=hB.size;rw[hQ,e2];refine⟨_,rfl,(hR.Ak ht1 fun j hk e=>?_).base hs,⟨_,hC.own ht1 bw (hC.is.Cq hn _) k1 k2 k2c rfl k3 k4 k5 rfl⟩,?_⟩
 ·have:=(hR.lt j hk).1
  have hs':(w1.drewN k).heap.size=w1.heap.size:=rfl;omega
 ·have h0:Touch (fun k=>k=g) w w2:=(Touch.Aq (bdN hB k) _).Ay hT
  exact h0.Ay ht1
theorem Ahd (F:Nat->Prop)(w:World)(g:Nat)(c:ClD)(z:Di)(l:List Bz)(hC:D3 F w g c z l)(n:Nat)(hn:n<4)(x:Call)(hG:U9 (z.place n))(hx:0<=x.offset/\x.offset<=9223372036854775807)(hd:x.data.length<=256) :
  Calls Tryz.prog 82 #[.pointer (some ⟨g,0,none⟩),.int .i64 n,.agg x.vals.toArray] w fun e w'=>∃v,e=.returned v/\As w' w.heap.size 91 29 v ((c.late n x).2.map Bm.vals)/\(∃z',D3 F w' g (c.late n x).1 z' l)/\Touch (fun k=>k=g) w w':=by
 have hgl:=hC.blk.lt;have hne:w.heap.size≠g:=by omega
 have bX:=Blk.new w 36 x.vals;have hB:Below w.heap.size w (w.alloc (.cells x.vals.toArray 36)):=(Below.refl _ _).alloc (Nat.le_refl _) _;have hC1:=hC.below hB;obtain⟨w1,hw1⟩:∃V,V=w.alloc (.cells x.vals.toArray 36):=⟨_,rfl⟩;rw[<-hw1]at bX hB hC1;have HW:=Zh hw1;clear hw1;obtain⟨q0,q1,q2,q3⟩:=Hm z hn;have hP:c.at_ n=z.place n:=hC.is.at_ hn;have c2:w1.cell? ⟨g,3+n*4+2,none⟩=some (.int .i64 (z.place n).at_):=(hC1.blk.cell _).trans q2;have c3:w1.cell? ⟨g,3+n*4+3,none⟩=some (.string (bs (z.place n).bytes)):=(hC1.blk.cell _).trans q3;have x5:w1.cell? ⟨w.heap.size,5,none⟩=some (.int .i64 x.offset):=bX.cell 5;have x8:w1.cell? ⟨w.heap.size,8,none⟩=some (.string (bs x.data)):=bX.cell 8;have hfr:=hC1.blk.frozen;have hn0:(0:Int)<=(n:Int):=by omega
 have hn1:(n:Int)<4:=by omega
 have hlt1:w.heap.size<w1.heap.size:=bX.lt;clear q0 q1 q2 q3;have HC:=Zh hC1;have HP:=Zh hP;have HX:=Zh bX;have HB:=Zh hB;have HZ:=Zh hC.is;clear hP;by_cases hxd:x.data=[]
 ·have HQ:=Zh (show c.late n x=(c,[]) from if_pos hxd)
  rw[hxd]at x8;clear hC hC1 bX hB;go_enter Tryz.func82,Tryz.ntmps82
  go_upto_region 1 with fail;change Code.wp _ _ _ _ (w.alloc (.cells x.vals.toArray 36));rw[<-HW.out];go_wp2;go_ret;rw[HQ.out];exact⟨_,rfl,As.none_,⟨z,HC.out⟩,Touch.Aq HB.out _⟩
 have hxe:x.data.isEmpty=false:=by simpa using hxd
 by_cases hj:(z.place n).bytes≠[]/\x.offset - (z.place n).at_=(z.place n).bytes.length/\(z.place n).bytes.length+x.data.length<=256
 ·have HQ:=Zh (show c.late n x=(c.Kv n { z.place n with bytes:=(z.place n).bytes++x.data },[]) by
   have h1:c.late n x=(c.Kv n { c.at_ n with bytes:=(c.at_ n).bytes++x.data },[]):=(if_neg hxd).trans (if_pos (by rw[HP.out];exact hj));rw[h1,HP.out])
  have hie:(z.place n).bytes.isEmpty=false:=by simpa using hj.1
  have hsub:IntKind.i64.wrap (x.offset - (z.place n).at_)=((z.place n).bytes.length:Int):=by rw[IntWalk.i64_in _ (by omega)];exact hj.2.1
  have hadd:IntKind.i64.wrap (((z.place n).bytes.length:Int)+(x.data.length:Int))=(((z.place n).bytes.length+x.data.length:Nat):Int):=by rw[IntWalk.i64_in _ (by omega)];omega
  have hle:((z.place n).bytes.length:Int)+(x.data.length:Int)<=256:=by omega
  have HJ:=Zh hj;clear hC hC1 bX hB hj;go_enter Tryz.func82,Tryz.ntmps82
  go_upto_region 1 with fail;change Code.wp _ _ _ _ (w.alloc (.cells x.vals.toArray 36));rw[<-HW.out];go_wp2;go_quiet (fail)
  go_wp2;go_region;go_wp2;go_ret;have bw:=(((HC.out.blk).drewN (nq+1)).Be (3+n*4+3) (.string (bs ((z.place n).bytes++x.data))));rw[Xi z hn]at bw;have ht:=((Touch.Aq (bdN HB.out (nq+1)) (fun k=>k=g))).setCell (p:=⟨g,3+n*4+3,none⟩) (.inl rfl) (.string (bs ((z.place n).bytes++x.data)));have ht1:=((Touch.refl (fun k=>k=g) w1).drewN (nq+1)).setCell (p:=⟨g,3+n*4+3,none⟩) (.inl rfl) (.string (bs ((z.place n).bytes++x.data)));obtain⟨k1,k2,k2c,k3,k4,k5⟩:=Kr z hn { z.place n with bytes:=(z.place n).bytes++x.data };rw[HQ.out,Bl];exact⟨_,rfl,As.none_,⟨_,HC.out.own ht1 bw (HC.out.is.Cq hn _) k1 k2 k2c rfl k3 k4 k5 rfl⟩,ht⟩
 have HQ:=Zh (show c.late n x=((c.ahead n).1.Kv n { z.place n with at_:=x.offset,bytes:=x.data },(c.ahead n).2) by
  have h1:c.late n x=((c.ahead n).1.Kv n { c.at_ n with at_:=x.offset,bytes:=x.data },(c.ahead n).2):=(if_neg hxd).trans (if_neg (by rw[HP.out];exact hj));rw[h1,HP.out])
 have HG:=Zh hG;have HXO:=Zh hx;have hgd:(z.place n).bytes.isEmpty=true\/(z.place n).bytes.isEmpty=false/\((IntKind.i64.wrap (x.offset - (z.place n).at_)==((z.place n).bytes.length:Int))=false\/(IntKind.i64.wrap (x.offset - (z.place n).at_)==((z.place n).bytes.length:Int))=true/\¬((z.place n).bytes.length:Int)+(x.data.length:Int)<=256):=by
  have hat:=hG.at_;have hw:IntKind.i64.wrap (x.offset - (z.place n).at_)=x.offset - (z.place n).at_:=IntWalk.i64_in _ (by omega);rw[hw];by_cases h1:(z.place n).bytes=[]
  ·exact .inl (by rw[h1];rfl)
  ·refine .inr ⟨by simpa using h1,?_⟩
   by_cases h2:x.offset - (z.place n).at_=((z.place n).bytes.length:Int)
   ·refine .inr ⟨by simpa using h2,fun h3=>hj ⟨h1,h2,by omega⟩⟩
   ·exact .inl (by simpa using h2)
 have hlb:=hG.bytes;have hadd:IntKind.i64.wrap (((z.place n).bytes.length:Int)+(x.data.length:Int))=((z.place n).bytes.length:Int)+(x.data.length:Int):=IntWalk.i64_in _ (by omega);have KA:=Zh (fun (W:World) (h:Below w1.heap.size w1 W)=>Kj F W g c z l (HC.out.below h) n hn);clear hC hC1 bX hB hj hx hG;rcases hgd with h1|⟨h1,h2|⟨h2,h3⟩⟩
 ·have hb0:=List.isEmpty_iff.1 h1
  rw[hb0]at c3;have c3:w1.cell? ⟨g,3+n*4+3,none⟩=some (.string { data:=#[] }):=c3;clear h1 hb0 hadd hlb hxe;go_enter Tryz.func82,Tryz.ntmps82
  go_upto_region 1 with fail;change Code.wp _ _ _ _ (w.alloc (.cells x.vals.toArray 36));rw[<-HW.out];have hxe:x.data.isEmpty=false:=by simpa using hxd
  clear hxd;go_wp2;go_quiet (fail)
  go_wp2_with fail;refine(KA.out _ (bdN (Below.refl _ _) _)).mono ?_
  rintro e w2 ⟨v,rfl,hrow,⟨z2,hC2⟩,ht⟩;have x5':w2.cell? ⟨w.heap.size,5,none⟩=some (.int .i64 x.offset):=(ht.cell (p:=⟨w.heap.size,5,none⟩) hlt1 hne).trans x5;have x8':w2.cell? ⟨w.heap.size,8,none⟩=some (.string (bs x.data)):=(ht.cell (p:=⟨w.heap.size,8,none⟩) hlt1 hne).trans x8;obtain⟨r0,r1,r2,r3⟩:=Hm z2 hn;have d2:w2.cell? ⟨g,3+n*4+2,none⟩=some (.int .i64 (z2.place n).at_):=(hC2.blk.cell _).trans r2;have d3:w2.cell? ⟨g,3+n*4+3,none⟩=some (.string (bs (z2.place n).bytes)):=(hC2.blk.cell _).trans r3;have hfr2:=hC2.blk.frozen;have HC2:=Zh hC2;have HR:=Zh hrow;have HT:=Zh ht;clear c2 c3 x5 x8 hfr r0 r1 r2 r3 hC2 hrow ht;go_wp2;go_region;go_wp2;go_ret;exact Y2 HC2.out HB.out HT.out HR.out HQ.out HP.out hn HZ.out hgl
 ·obtain⟨d,hdd⟩:∃d,d=IntKind.i64.wrap (x.offset - (z.place n).at_):=⟨_,rfl⟩
  rw[<-hdd]at h2;have hdw:=hdd.symm;have h2n:decide (d=((z.place n).bytes.length:Int))=false:=by simpa using h2
  have h2m:¬d=((z.place n).bytes.length:Int):=by simpa using h2n
  have h2k:(d==((z.place n).bytes.length:Int))=false:=h2;clear hdd h2 hadd hxd hlb;go_enter Tryz.func82,Tryz.ntmps82
  go_upto_region 1 with fail;change Code.wp _ _ _ _ (w.alloc (.cells x.vals.toArray 36));rw[<-HW.out];go_wp2;go_quiet (fail)
  clear hdw h2n h2m h2k;go_wp2_with fail;refine(KA.out _ (bdN (Below.refl _ _) _)).mono ?_
  rintro e w2 ⟨v,rfl,hrow,⟨z2,hC2⟩,ht⟩;have x5':w2.cell? ⟨w.heap.size,5,none⟩=some (.int .i64 x.offset):=(ht.cell (p:=⟨w.heap.size,5,none⟩) hlt1 hne).trans x5;have x8':w2.cell? ⟨w.heap.size,8,none⟩=some (.string (bs x.data)):=(ht.cell (p:=⟨w.heap.size,8,none⟩) hlt1 hne).trans x8;obtain⟨r0,r1,r2,r3⟩:=Hm z2 hn;have d2:w2.cell? ⟨g,3+n*4+2,none⟩=some (.int .i64 (z2.place n).at_):=(hC2.blk.cell _).trans r2;have d3:w2.cell? ⟨g,3+n*4+3,none⟩=some (.string (bs (z2.place n).bytes)):=(hC2.blk.cell _).trans r3;have hfr2:=hC2.blk.frozen;have HC2:=Zh hC2;have HR:=Zh hrow;have HT:=Zh ht;clear c2 c3 x5 x8 hfr r0 r1 r2 r3 hC2 hrow ht;go_wp2;go_region;go_wp2;go_ret;exact Y2 HC2.out HB.out HT.out HR.out HQ.out HP.out hn HZ.out hgl
 ·have h3d:decide (((z.place n).bytes.length:Int)+(x.data.length:Int)<=256)=false:=by simpa using h3
  go_enter Tryz.func82,Tryz.ntmps82
  go_upto_region 1 with fail;change Code.wp _ _ _ _ (w.alloc (.cells x.vals.toArray 36));rw[<-HW.out];go_wp2;go_quiet (fail)
  clear h3d h3 h2 h1 hadd;go_wp2_with fail;refine(KA.out _ (bdN (Below.refl _ _) _)).mono ?_
  rintro e w2 ⟨v,rfl,hrow,⟨z2,hC2⟩,ht⟩;have x5':w2.cell? ⟨w.heap.size,5,none⟩=some (.int .i64 x.offset):=(ht.cell (p:=⟨w.heap.size,5,none⟩) hlt1 hne).trans x5;have x8':w2.cell? ⟨w.heap.size,8,none⟩=some (.string (bs x.data)):=(ht.cell (p:=⟨w.heap.size,8,none⟩) hlt1 hne).trans x8;obtain⟨r0,r1,r2,r3⟩:=Hm z2 hn;have d2:w2.cell? ⟨g,3+n*4+2,none⟩=some (.int .i64 (z2.place n).at_):=(hC2.blk.cell _).trans r2;have d3:w2.cell? ⟨g,3+n*4+3,none⟩=some (.string (bs (z2.place n).bytes)):=(hC2.blk.cell _).trans r3;have hfr2:=hC2.blk.frozen;have HC2:=Zh hC2;have HR:=Zh hrow;have HT:=Zh ht;clear c2 c3 x5 x8 hfr r0 r1 r2 r3 hC2 hrow ht;go_wp2;go_region;go_wp2;go_ret;exact Y2 HC2.out HB.out HT.out HR.out HQ.out HP.out hn HZ.out hgl
end
section
abbrev Je (g:Nat)(w W:World):Prop:=(∀b o,b<w.heap.size->b≠g->W.cell? ⟨b,o,none⟩=w.cell? ⟨b,o,none⟩)/\(∀b o n,b<w.heap.size->b≠g->rowOf W b o n=rowOf w b o n)/\Touch (fun k=>k=g) w W
theorem Je.of {g:Nat}{w W:World}(h:Touch (fun k=>k=g) w W):Je g w W:=⟨fun b o hb hn=>h.cell (p:=⟨b,o,none⟩) hb hn,fun _ o n hb hn=>h.row hb hn o n,h⟩
theorem Je.start {g:Nat}{w:World}:Je g w w.drew:=Je.of (Touch.refl _ _).drew
theorem Je.alloc {g:Nat}{w W:World}(h:Je g w W)(o:Obj):Je g w (W.alloc o):=Je.of (h.2.2.alloc o)
theorem Je.call {g:Nat}{w W W':World}(h:Je g w W)(ht:Touch (fun k=>k=g) W W'):Je g w W':=Je.of (h.2.2.Ay ht)
def Oh (F:Nat->Prop)(g:Nat)(c':ClD)(l:List Bz)(ps:List Bm)(w:World)(e:Ending)(w':World):Prop:=
 ∃v,e=.returned v/\As w' w.heap.size 91 29 v (ps.map Bm.vals)/\(∃z',D3 F w' g c' z' l)/\Touch (fun k=>k=g) w w'
theorem Adz {F:Nat->Prop}{g:Nat}{c':ClD}{l:List Bz}{ps qs:List Bm}{w w2 w3 W:World}{v v':Value}(hA:∃z',D3 F w2 g c' z' l)(hF:∀k,F k->k<w.heap.size)(hR:As w2 w.heap.size 91 29 v (ps.map Bm.vals))(ht:Touch (fun k=>k=g) w w2)(hb:Below w2.heap.size w2 w3)
  (hR':As W w.heap.size 91 29 v' (ps.map Bm.vals++qs.map Bm.vals)) (hgr:w3.grownBy W v.ownBlock):Oh F g c' l (ps++qs) w (.returned v') W:=by
 obtain⟨z,hC⟩:=hA;have h3:Touch (fun k=>v.ownBlock=some k) w3 W:=Touch.Mq hgr fun k hk=>hk
 have hne:∀k,v.ownBlock=some k->w.heap.size<=k:=fun k hk=>(hR.lt k hk).1
 have h23:Touch (fun k=>v.ownBlock=some k) w2 W:=(Touch.Aq hb _).Ay h3;exact⟨v',rfl,by rw[List.map_append];exact hR',⟨z,hC.Ik h23 fun k hk hv=>by have:=hne k hv;have:=hF k hk;omega⟩,ht.trans h23 fun i hi hv=>absurd (hne i hv) (by omega)⟩
theorem Uw (qs:List Bm):∀r∈qs.map Bm.vals,r.length=29:=by
 intro r hr;obtain⟨q,_,rfl⟩:=List.mem_map.1 hr;rfl
theorem Aaz (qs:List Bm):∀r∈qs.map Bm.vals,∀u∈r,u.oneCell'=true:=by
 intro r hr u hu;obtain⟨q,_,rfl⟩:=List.mem_map.1 hr;exact Bm.one q u hu
theorem Abr {g:Nat}{w1 W0 w2 w3 w':World}{v:Value}(h0:Below w1.heap.size w1 W0)(ht:Touch (fun k=>k=g) W0 w2)(hb:Below w2.heap.size w2 w3)(hg:w3.grownBy w' v.ownBlock)(hv:∀k,v.ownBlock=some k->W0.heap.size<=k):Je g w1 w':=by
 have h1:Touch (fun k=>v.ownBlock=some k) w2 w':=(Touch.Aq hb _).Ay (Touch.Mq hg fun k hk=>hk);have h2:Touch (fun k=>k=g) w1 w2:=(Touch.Aq h0 _).Ay ht;have hs:=h0.size;exact Je.of (h2.trans h1 fun i hi hk=>absurd (hv i hk) (by omega))
set_option maxRecDepth 8000
theorem Acw {F:Nat->Prop}{g:Nat}{c':ClD}{l:List Bz}{ps qs:List Bm}{w w1 W0 w2:World}{v:Value}{k:Nat}(hA:∃z',D3 F w2 g c' z' l)(hF:∀k,F k->k<w.heap.size)(hR:As w2 W0.heap.size 91 29 v (ps.map Bm.vals))(ht:Touch (fun k=>k=g) W0 w2)(hw0:Below w.heap.size w w1)(hw1:Below w1.heap.size w1 W0)
  (hn:ps.length<=10) (hq:qs.length<=10) (hk:k=qs.length) :
  ∃v' w',(Builtin.append_ #[89,89] 89 #[v,.slice (some ⟨w2.heap.size,0,none⟩) k k]).run Tryz.prog (w2.alloc (.cells (qs.map Bm.vals).flatten.toArray 91))=.ok v' w'/\(Oh F g c' l (ps++qs) w (.returned v') w'/\Je g w1 w'):=by
 have hw:=Ad hw0 hw1;have hR0:=hR.base hw.size;have ht0:Touch (fun k=>k=g) w w2:=(Touch.Aq hw _).Ay ht;have hb:Below w2.heap.size w2 (w2.alloc (.cells (qs.map Bm.vals).flatten.toArray 91)):=(Below.refl _ _).alloc (Nat.le_refl _) _;have hblk:=Blk.new w2 91 (qs.map Bm.vals).flatten;have hRn:=hR0.stays hb;have hsz:w.heap.size<=(w2.alloc (.cells (qs.map Bm.vals).flatten.toArray 91)).heap.size:=Nat.le_trans ht0.size hb.size;generalize w2.alloc (.cells (qs.map Bm.vals).flatten.toArray 91)=w3 at *;obtain⟨v',w',h1,h2,h3,-⟩:=As.P0 (k:=k) (ty:=89) Tryz.underlying89 Ln rfl (by decide) (by decide) hRn hsz hblk (Uw qs) (Aaz qs) (by rw[List.length_map,List.length_map];omega) (by rw[List.length_map];exact hk) k;exact⟨v',w',h1,Adz hA hF hR0 ht0 hb h2 h3,Abr hw1 ht hb h3 fun k hk=>(hR.lt k hk).1⟩
theorem Acv {F:Nat->Prop}{g:Nat}{c':ClD}{l:List Bz}{ps qs:List Bm}{w w1 W0 w2:World}{v:Value}{k b:Nat}(hA:∃z',D3 F w2 g c' z' l)(hF:∀k,F k->k<w.heap.size)(hR:As w2 W0.heap.size 91 29 v (ps.map Bm.vals))(ht:Touch (fun k=>k=g) W0 w2)(hw0:Below w.heap.size w w1)(hw1:Below w1.heap.size w1 W0)
  (hb:Blk W0 b 91 (qs.map Bm.vals).flatten) (hg:b≠g) (hn:ps.length<=10) (hq:qs.length<=10) (hk:k=qs.length) :
  ∃v' w',(Builtin.append_ #[89,89] 89 #[v,.slice (some ⟨b,0,none⟩) k k]).run Tryz.prog w2=.ok v' w'/\(Oh F g c' l (ps++qs) w (.returned v') w'/\Je g w1 w'):=by
 have hw:=Ad hw0 hw1;have hR0:=hR.base hw.size;have ht0:Touch (fun k=>k=g) w w2:=(Touch.Aq hw _).Ay ht;obtain⟨v',w',h1,h2,h3,-⟩:=As.P0 (k:=k) (ty:=89) Tryz.underlying89 Ln rfl (by decide) (by decide) hR0 ht0.size (hb.Ak ht hg) (Uw qs) (Aaz qs) (by rw[List.length_map,List.length_map];omega) (by rw[List.length_map];exact hk) k;exact⟨v',w',h1,Adz hA hF hR0 ht0 (Below.refl _ _) h2 h3,Abr hw1 ht (Below.refl _ _) h3 fun k hk=>(hR.lt k hk).1⟩
theorem Nl (c:ClD)(i:Int):(c.ahead i).2.length<=10:=by
 unfold ClD.ahead;split
 ·exact Nat.zero_le _
 ·show 1<=10;decide
end
theorem Aju (P:List Value)(x y:Value)(R:List Value):(P++x::R).set P.length y=P++y::R:=by simp
theorem Ajt (z:Di)(p:Bm)(A:Option Addr)(n c:Nat):(setAt z.vals 20 p.vals).set 19 (.slice A n c)=({ z with ta:=A,tn:=n,tc:=c,now:=p }:Di).vals:=by
 have h:=J8 p.vals z.now.vals ([.int .i64 z.id,.int .i64 z.self,.int .i64 z.server]++(z.p0.vals++(z.p1.vals++(z.p2.vals++(z.p3.vals++[.slice z.ta z.tn z.tc]))))) ([.bool z.busy]++(z.sent.vals++[.int .i64 z.due,.int .i64 z.made,.slice z.ra z.rn z.rc])) (by rw[Bm.len,Bm.len]);have e:z.vals=([.int .i64 z.id,.int .i64 z.self,.int .i64 z.server]++(z.p0.vals++(z.p1.vals++(z.p2.vals++(z.p3.vals++[.slice z.ta z.tn z.tc])))))++(z.now.vals++([.bool z.busy]++(z.sent.vals++[.int .i64 z.due,.int .i64 z.made,.slice z.ra z.rn z.rc]))):=by
  unfold Di.vals;simp only[List.append_assoc]
 rw[e];have e2:setAt (([.int .i64 z.id,.int .i64 z.self,.int .i64 z.server]++(z.p0.vals++(z.p1.vals++(z.p2.vals++(z.p3.vals++[.slice z.ta z.tn z.tc])))))++(z.now.vals++([.bool z.busy]++(z.sent.vals++[.int .i64 z.due,.int .i64 z.made,.slice z.ra z.rn z.rc])))) 20 p.vals=_:=h;rw[e2];have e3:=Aju ([Value.int .i64 z.id,.int .i64 z.self,.int .i64 z.server]++(z.p0.vals++(z.p1.vals++(z.p2.vals++z.p3.vals)))) (.slice z.ta z.tn z.tc) (.slice A n c) (p.vals++([.bool z.busy]++(z.sent.vals++[.int .i64 z.due,.int .i64 z.made,.slice z.ra z.rn z.rc])));have e4:(([Value.int .i64 z.id,.int .i64 z.self,.int .i64 z.server]++(z.p0.vals++(z.p1.vals++(z.p2.vals++z.p3.vals))))++Value.slice z.ta z.tn z.tc::(p.vals++([Value.bool z.busy]++(z.sent.vals++[Value.int .i64 z.due,Value.int .i64 z.made,Value.slice z.ra z.rn z.rc])))).set 19 (.slice A n c)=_:=e3;have e5:∀(a b c d e q:List Value) (s:Value),(a++(b++(c++(d++(e++[s])))))++q=(a++(b++(c++(d++e))))++s::q:=fun a b c d e q s=>by simp
 have e6:∀(a b c d e q:List Value) (s:Value),a++(b++(c++(d++(e++([s]++q)))))=(a++(b++(c++(d++e))))++s::q:=fun a b c d e q s=>by simp
 unfold Di.vals;rw[e5,e4,e6]
theorem D3.taken {F:Nat->Prop}{w W:World}{g:Nat}{c:ClD}{z:Di}{l:List Bz}(hC:D3 F w g c z l){p:Bm}{ps:List Bm}(hp:c.parts=p::ps){b off:Nat}(hA:z.ta=some ⟨b,off,none⟩){A':Option Addr}(hA':A'=if z.tc=1 then some ⟨b,off,none⟩ else some ⟨b,off+29,none⟩)(hW:W=((putsW w g 20 p.vals).setCell ⟨g,19,none⟩ (.slice A' ps.length (z.tc - 1))).drew) :
  D3 F W g { c with parts:=ps,now:=p } { z with ta:=A',tn:=ps.length,tc:=z.tc - 1,now:=p } l/\Touch (fun k=>k=g) w W:=by
 have hb:=((hC.blk.D2 20 p.vals).Be 19 (.slice A' ps.length (z.tc - 1))).drew;have ht:Touch (fun k=>k=g) w W:=by
  rw[hW];exact(((Touch.refl (fun k=>k=g) w).D2 (k:=g) (.inl rfl)).setCell (p:=⟨g,19,none⟩) (.inl rfl) _).drew
 rw[<-hW,Ajt]at hb;have hlen:=hC.pts.len;rw[hp,List.length_cons]at hlen;have hfit:=hC.pts.fit;have hty:Touch (Gb w [93]) w W:=ht.mono fun k _ hk=>by subst hk;exact Jw hC.blk (by decide)
 have hpt:=hC.pts.tou (hty.less (by decide));refine⟨⟨?_,⟨hC.is.id,hC.is.self,hC.is.server,hC.is.ps,rfl,hC.is.busy,hC.is.sent,hC.is.due,hC.is.made⟩,⟨rfl,by show ps.length<=z.tc - 1;omega,?_,?_⟩,hC.rcs.tou (hty.less (by decide)),hC.fg,fun k hk=>Nat.lt_of_lt_of_le (hC.lt k hk) ht.size⟩,ht⟩
 ·exact hb
 ·simp only[hA']
  by_cases h1:z.tc=1
  ·have:ps=[]:=List.eq_nil_of_length_eq_zero (by omega)
   subst this;exact At.nil
  ·simp only[h1,if_false]
   have hrow:=hpt.row;rw[hp]at hrow;intro i r hi;obtain⟨b2,off2,h2,h3,h4⟩:=hrow (i+1) r (by rw[List.map_cons,List.getElem?_cons_succ];exact hi);rw[hA]at h2;injection h2 with h2;injection h2 with h5 h6 _;subst h5 h6;refine⟨b,off+29,rfl,h3,fun j u hu=>?_⟩
   have:=h4 j u hu;rw[show off+(i+1)*29+j=off+29+i*29+j by omega]at this;exact this
 ·simp only[hA']
  intro q hq;have ho:=hpt.own _ hA;by_cases h1:z.tc=1
  ·simp only[h1,if_true]at hq
   injection hq with hq;subst hq;exact ho
  ·simp only[h1,if_false]at hq
   injection hq with hq;subst hq;exact ho
abbrev Xc (g o n:Nat)(cs:Array Value)(W:World):Prop:=rowOf W g o n=some cs/\g<W.heap.size
theorem Xc.alloc {g o n:Nat}{cs:Array Value}{W:World}(h:Xc g o n cs W)(ob:Obj):Xc g o n cs (W.alloc ob):=⟨(Ab W ob g o n h.2).trans h.1,by have:=h.2;simp;omega⟩
theorem Xc.drew {g o n:Nat}{cs:Array Value}{W:World}(h:Xc g o n cs W):Xc g o n cs W.drew:=h
theorem Ah7 (z:Di)(n:Int):z.vals.set 54 (.int .i64 n)=({ z with made:=n }:Di).vals:=by kernel_rfl
theorem Zc (z:Di)(b:Bool):z.vals.set 49 (.bool b)=({ z with busy:=b }:Di).vals:=by kernel_rfl
theorem Ah8 (z:Di)(n:Int):z.vals.set 53 (.int .i64 n)=({ z with due:=n }:Di).vals:=by kernel_rfl
theorem Ah6 (z:Di)(A:Option Addr)(n c:Nat):z.vals.set 55 (.slice A n c)=({ z with ra:=A,rn:=n,rc:=c }:Di).vals:=by kernel_rfl
theorem Ts (z:Di)(A:Option Addr)(n c:Nat):z.vals.set 19 (.slice A n c)=({ z with ta:=A,tn:=n,tc:=c }:Di).vals:=by kernel_rfl
theorem Ah9 (z:Di)(p:B3):setAt z.vals 50 p.vals=({ z with sent:=p }:Di).vals:=by kernel_rfl
theorem Apa {c:ClD}{p:Bm}(h:Hk p.c):Hk (c.Sk p):=by
 obtain⟨h1,h2,h3,h4,h5⟩:=h;unfold ClD.Sk;cases Tj p.c.proc 102<;>cases Tj p.c.proc 70<;>exact⟨h1,h2,h3,h4,h5⟩
theorem Agm (c:ClD)(p:Bm):(c.Sk p).proc=p.c.proc:=by
 unfold ClD.Sk;cases Tj p.c.proc 102<;>cases Tj p.c.proc 70<;>rfl
structure Ph (F:Nat->Prop) (g bx bt:Nat) (c:ClD) (z:Di) (l:List Bz) (w:World) (x t:Call) (W:World):Prop where
 xb:Blk W bx 36 x.vals
 tb:Blk W bt 36 t.vals
 cl:D3 F W g c z l
 ne:bx≠bt
 lx:w.heap.size<=bx
 lt:w.heap.size<=bt
 to:Touch (fun k=>k=g) w W
theorem Ph.make {F:Nat->Prop}{g:Nat}{c:ClD}{z:Di}{l:List Bz}{w W:World}(hC:D3 F W g c z l)(ht:Touch (fun k=>k=g) w W)(x:Call) :
  Ph F g W.heap.size (W.heap.size+1) c z l w x x ((W.alloc (.cells x.vals.toArray 36)).alloc (.cells x.vals.toArray 36)).drew/\Ph F g (W.heap.size+1) W.heap.size c z l w x x ((W.alloc (.cells x.vals.toArray 36)).alloc (.cells x.vals.toArray 36)).drew:=by
 obtain⟨h1,h2,h3,-⟩:=A7 W x.vals x.vals 36 36;have hs:=ht.size;have hc:=hC.below h3.drew;have hT:=ht.Ay (Touch.Aq h3.drew _);exact⟨⟨h1.drew,h2.drew,hc,by omega,by omega,by omega,hT⟩,⟨h2.drew,h1.drew,hc,by omega,by omega,by omega,hT⟩⟩
def Ry (F:Nat->Prop)(w:World):Prop:=∃w0,G1 w0/\Below w0.heap.size w0 w/\∀k,F k->w0.heap.size<=k
theorem Ry.look {F:Nat->Prop}{w W:World}(h:Ry F w)(ht:Touch F w W):G1 W:=by
 obtain⟨w0,h1,h2,h3⟩:=h;exact h1.below (h2.trans (ht.below (fun k _ hk=>h3 k hk) h2.size))
abbrev Nc (g bx bt:Nat)(w W:World):Prop:=(∀o,W.cell? ⟨g,o,none⟩=w.cell? ⟨g,o,none⟩)/\Ar W bx 1 1=true/\Ar W bt 1 1=true/\Ar W bx 3 1=true/\Ar W bt 3 1=true
theorem Nc.start {g bx bt:Nat}{w:World}(h1:Ar w bx 1 1=true)(h2:Ar w bt 1 1=true)(h3:Ar w bx 3 1=true)(h4:Ar w bt 3 1=true):Nc g bx bt w w.drew:=⟨fun _=>rfl,h1,h2,h3,h4⟩
theorem Ej {w W:World}{b o n:Nat}(h:Ar w b o n=true)(hb:Below w.heap.size w W):Ar W b o n=true:=by
 unfold Ar at h ⊢;rcases Nat.lt_or_ge b w.heap.size with hlt|hge
 ·rw[hb.block b hlt];exact h
 ·rw[Array.getElem?_eq_none hge]at h;cases h
theorem Nc.call {g bx bt:Nat}{w W W':World}(h:Nc g bx bt w W)(hg:g<W.heap.size)(hb:Below W.heap.size W W'):Nc g bx bt w W':=
 ⟨fun o=>(hb.cell (p:=⟨g,o,none⟩) hg).trans (h.1 o),Ej h.2.1 hb,Ej h.2.2.1 hb,Ej h.2.2.2.1 hb,Ej h.2.2.2.2 hb⟩
theorem Nc.D2 {g bx bt:Nat}{w W:World}(h:Nc g bx bt w W){k i:Nat}{cs:List Value}(hk:g≠k)(hg:g<W.heap.size):Nc g bx bt w (putsW W k i cs):=
 ⟨fun o=>(Az W g o k i cs hk hg).trans (h.1 o),by rw[Bi];exact h.2.1,by rw[Bi];exact h.2.2.1,by rw[Bi];exact h.2.2.2.1,by rw[Bi];exact h.2.2.2.2⟩
theorem Ph.below {F:Nat->Prop}{g bx bt:Nat}{c:ClD}{z:Di}{l:List Bz}{w W W':World}{x t:Call}(h:Ph F g bx bt c z l w x t W)(hb:Below W.heap.size W W'):Ph F g bx bt c z l w x t W':=
 ⟨h.xb.stays hb,h.tb.stays hb,h.cl.below hb,h.ne,h.lx,h.lt,h.to.Ay (Touch.Aq hb _)⟩
theorem Ph.put1 {F:Nat->Prop}{g bx bt:Nat}{c:ClD}{z:Di}{l:List Bz}{w W:World}{x t:Call}(h:Ph F g bx bt c z l w x t W)(hF:∀k,F k->k<w.heap.size)(s u:List UInt8):Ph F g bx bt c z l w { x with fh:=s } { t with fh:=u } (putsW (putsW W bx 1 [.string (bs s)]) bt 1 [.string (bs u)]):=by
 have t1:Touch (fun k=>k=bx\/k=bt) W (putsW (putsW W bx 1 [.string (bs s)]) bt 1 [.string (bs u)]):=((Touch.refl _ _).D2 (.inl (.inl rfl))).D2 (.inl (.inr rfl));have h1:=(h.xb.D2 1 [.string (bs s)]).Jh (b:=bt) (o:=1) (vs:=[.string (bs u)]) h.ne;have h2:=((h.tb.Jh (b:=bx) (o:=1) (vs:=[.string (bs s)]) (Ne.symm h.ne)).D2 1 [.string (bs u)]);have:=h.lx;have:=h.lt;exact⟨h1,h2,h.cl.Ik t1 (fun k hk e=>by have:=hF k hk;omega),h.ne,h.lx,h.lt,h.to.trans t1 fun i hi e=>by omega⟩
theorem Ph.put3 {F:Nat->Prop}{g bx bt:Nat}{c:ClD}{z:Di}{l:List Bz}{w W:World}{x t:Call}(h:Ph F g bx bt c z l w x t W)(hF:∀k,F k->k<w.heap.size)(s u:List UInt8):Ph F g bx bt c z l w { x with fh2:=s } { t with fh2:=u } (putsW (putsW W bx 3 [.string (bs s)]) bt 3 [.string (bs u)]):=by
 have t1:Touch (fun k=>k=bx\/k=bt) W (putsW (putsW W bx 3 [.string (bs s)]) bt 3 [.string (bs u)]):=((Touch.refl _ _).D2 (.inl (.inl rfl))).D2 (.inl (.inr rfl));have h1:=(h.xb.D2 3 [.string (bs s)]).Jh (b:=bt) (o:=3) (vs:=[.string (bs u)]) h.ne;have h2:=((h.tb.Jh (b:=bx) (o:=3) (vs:=[.string (bs s)]) (Ne.symm h.ne)).D2 3 [.string (bs u)]);have:=h.lx;have:=h.lt;exact⟨h1,h2,h.cl.Ik t1 (fun k hk e=>by have:=hF k hk;omega),h.ne,h.lx,h.lt,h.to.trans t1 fun i hi e=>by omega⟩
def Uk (F:Nat->Prop)(g:Nat)(c':ClD)(out:List B3)(w:World)(e:Ending)(w':World):Prop:=
 ∃v,e=.returned v/\As w' w.heap.size 40 3 v (out.map B3.vals)/\(∃G z l,D3 G w' g c' z l/\∀k,G k->F k\/w.heap.size<=k)/\Touch F w w'
theorem Apc (w:World)(F:Nat->Prop):Ib w F Bt Vd:=
 ⟨rfl,As.none_,As.none_,fun k hk=>(by cases hk),fun k hk=>(by cases hk),Nat.zero_le _,Nat.zero_le _⟩
theorem Pr (l:List Bz):∀r∈l.map Bz.vals,r.length=88:=by
 intro r hr;obtain⟨q,_,rfl⟩:=List.mem_map.1 hr;rfl
theorem D3.more {F:Nat->Prop}{w:World}{g:Nat}{c:ClD}{z:Di}{l:List Bz}(hC:D3 F w g c z l)(r:Bz)(rd:Hn)(h1:r.C3=rd.C3)(h2:r.begin_=rd.beg)(h3:r.end_=rd.fin)(h4:r.call=rd.call)(h5:r.Il=Bt)(h6:rd.rep=Vd)(hn:c.recs.length<=1000000) :
  ∃v' w',(Builtin.append_ #[60,60] 60 #[.slice z.ra z.rn z.rc,.slice (some ⟨w.heap.size,0,none⟩) 1 1]).run Tryz.prog (w.alloc (.cells r.vals.toArray 65))=.ok v' w' /\
   ∃A n cc,v'=.slice A n cc/\w'.cell? ⟨g,55,none⟩=some (.slice z.ra z.rn z.rc)/\w'.frozen? ⟨g,55,none⟩=false /\
    D3 (fun k=>F k\/(w.heap.size<=k/\k<w'.heap.size)) (w'.setCell ⟨g,55,none⟩ (.slice A n cc)) g { c with recs:=c.recs++[rd] } { z with ra:=A,rn:=n,rc:=cc } (l++[r])/\Touch F w (w'.setCell ⟨g,55,none⟩ (.slice A n cc)) /\
    (∀b T cs,Blk w b T cs->T≠65->T≠93->Blk w' b T cs/\Blk (w'.setCell ⟨g,55,none⟩ (.slice A n cc)) b T cs):=by
 have hb:Below w.heap.size w (w.alloc (.cells r.vals.toArray 65)):=(Below.refl _ _).alloc (Nat.le_refl _) _;have hblk:=Blk.new w 65 r.vals;have hsz:(w.alloc (.cells r.vals.toArray 65)).heap.size=w.heap.size+1:=by simp
 generalize w.alloc (.cells r.vals.toArray 65)=w3 at *;have hC3:=hC.below hb;have hll:l.length<=1000000:=by rw[hC.rcs.len];exact hn
 have hfl:([r].map Bz.vals).flatten=r.vals:=by simp
 obtain⟨v',w',hrun,hR,hgr,hat⟩:=As.P0 (k:=1) (ty:=60) (news:=[r].map Bz.vals) Tryz.underlying60 Lm rfl (by decide) (by decide) hC3.rcs.row (Nat.zero_le _) (by rw[hfl];exact hblk) (Pr _) (fun q hq u hu=>by obtain⟨y,_,rfl⟩:=List.mem_map.1 hq;exact Bz.one y u hu) (by rw[List.length_map,List.length_map];show l.length+1<=_;omega) rfl 1;refine⟨v',w',hrun,?_⟩
 obtain⟨A,cc,hv,-⟩:=hR.at_;refine⟨A,_,cc,hv,?_⟩
 rw[hv]at hR hat;generalize (List.map Bz.vals l++List.map Bz.vals [r]).length=n at *;have htr:Touch (fun k=>(Value.slice z.ra z.rn z.rc).ownBlock=some k) w3 w':=Touch.Mq hgr fun k hk=>hk
 have hty:=Ri hC3.rcs.row.2;have hT:Touch (Gb w3 [65]) w3 w':=htr.mono fun k _ hv=>by
  obtain⟨C,hC⟩:=hty k hv;exact⟨C,_,_,hC,by decide⟩
 have hng:(Value.slice z.ra z.rn z.rc).ownBlock≠some g:=Blk.M1 hC3.rcs.row.2 hC3.blk (by decide);have hbg:Blk w' g 93 z.vals:=hC3.blk.Ak htr hng;have hpt:=hC3.pts.tou (hT.less (by decide));have hgs:∀k,F k->k<w.heap.size:=hC.lt;have hkeep33:∀b T cs,Blk w b T cs->T≠65->T≠93->Blk w' b T cs/\Blk (w'.setCell ⟨g,55,none⟩ (.slice A n cc)) b T cs:=by
  intro b T cs h0 h1 h2;have h3:=(h0.stays hb).Ak htr fun e=>by
   obtain⟨C,hC⟩:=hty b e;have h4:w3.heap[b]?=some (.cells cs.toArray T (0,0)):=h0.stays hb;rw[h4]at hC;injection hC with hC;injection hC with _ hC;exact h1 hC
  exact⟨h3,h3.far (p:=⟨g,55,none⟩) (h3.ne_ hbg h2) _⟩
 refine⟨hbg.cell 55,hbg.frozen 55,?_,?_,hkeep33⟩
 ·have ht2:Touch (fun k=>k=g) w' (w'.setCell ⟨g,55,none⟩ (.slice A n cc)):=(Touch.refl (fun k=>k=g) w').setCell (p:=⟨g,55,none⟩) (.inl rfl) _
  have hbs:=hbg.Be 55 (.slice A n cc);rw[Ah6]at hbs;have hs2:(w'.setCell ⟨g,55,none⟩ (.slice A n cc)).heap.size=w'.heap.size:=by simp[World.setCell]
  have hty2:Touch (Gb w' [93]) w' (w'.setCell ⟨g,55,none⟩ (.slice A n cc)):=ht2.mono fun k _ hk=>by subst hk;exact Jw hbg (by decide)
  have hrep:∀x d,Ib w3 F x d->Ib (w'.setCell ⟨g,55,none⟩ (.slice A n cc)) F x d:=fun x d h=>(h.tou (hT.less (by decide))).tou (hty2.less (by decide))
  have hi:=hC.is;have hwl:w3.heap.size<=w'.heap.size:=htr.size;refine⟨hbs,⟨hi.id,hi.self,hi.server,hi.ps,hi.now,hi.busy,hi.sent,hi.due,hi.made⟩,(hpt.tou (hty2.less (by decide))).mono fun k hk=>.inl hk,⟨?_,?_,?_,?_⟩,.inl hC.fg,?_⟩
  ·rw[List.map_append]
   exact hR.tou hty2 (by decide)
  ·intro k hk
   rcases hat with h|h
   ·exact .inl (hC.rcs.own k (by rw[<-h];exact hk))
   ·rw[h]at hk
    have:w3.heap.size=k:=by injection hk
    have hlk:=(hR.lt k (by rw[h];exact hk)).2;exact .inr ⟨by omega,hlk⟩
  ·rw[List.length_append,List.length_append,hC.rcs.len]
   rfl
  ·intro i h1' h2'
   rw[List.length_append]at h1' h2';rcases Nat.lt_or_ge i l.length with hlt|hge
   ·have hlt2:i<c.recs.length:=by rw[<-hC.rcs.len];exact hlt
    have e:=hC3.rcs.each i hlt hlt2;simp only[List.getElem_append_left hlt,List.getElem_append_left hlt2];exact(⟨e.C3,e.beg,e.fin,e.call,hrep _ _ e.rep⟩:P1 _ F _ _).mono fun k hk=>.inl hk
   ·have hge2:c.recs.length<=i:=by rw[<-hC.rcs.len];exact hge
    simp only[List.length_singleton]at h1' h2';simp only[List.getElem_append_right hge,List.getElem_append_right hge2,List.getElem_singleton];exact⟨h1,h2,h3,h4,by rw[h5,h6];exact Apc _ _⟩
  ·intro k hk
   rw[hs2];rcases hk with hk|hk
   ·have:=hgs k hk;omega
   ·exact hk.2
 ·have h0:Touch F w w':=(Touch.Aq hb F).Ay (htr.mono fun k _ hk=>hC.rcs.own k hk)
  exact h0.setCell (p:=⟨g,55,none⟩) (.inl hC.fg) _
theorem Aig (x:Call):(Aaa x).1.length<=maxLen:=by
 unfold Aaa;split
 ·next h=>
  have h1:=Sd x (Al x.proc) (Xa h) (fun k hk=>Hj x.proc hk) _ (Nat.le_refl _);have h2:(Al x.proc).length<=100:=by
   rcases Fv x.proc with hlo|hhi|e|e|e|e|e|e|e|e|e|e|e|e|e|e|e|e|e|e|e|e|e|e
   ·rw[Jc hlo];decide
   ·rw[Hu hhi];decide
   all_goals (rw[e];decide)
  show (M0 x (Al x.proc) (Al x.proc).length).length<=maxLen
  unfold maxLen;omega
 ·exact Nat.zero_le _
end Go.Proofs.YtfjflkmhhbhceaaGreatDoor
