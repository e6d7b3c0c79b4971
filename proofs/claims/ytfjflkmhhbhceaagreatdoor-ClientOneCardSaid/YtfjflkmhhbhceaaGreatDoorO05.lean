/-
  Two structs of numbers, truths and texts held against each other by '==', whole. No condition.
-/
import Derived.Test.YtfjflkmhhbhceaaGreatDoorO02
import Derived.DeepKeys
import Derived.Test.YtfjflkmhhbhceaaGreatDoorO03
import Derived.Lib.SliceRun
import Derived.ArgAppend
import Derived.Laws.IdiomStrings
import Derived.Test.YtfjflkmhhbhceaaGreatDoorProg
namespace Go.Proofs.YtfjflkmhhbhceaaGreatDoor
open Go.RowKit
inductive Oi where
  | i (k:IntKind)
  | b
  | s
def Oi.fits:Oi->Value->Bool
  | .i k,.int k' _=>decide (k'=k)
  | .b,.bool _=>true
  | .s,.string _=>true
  | _,_=>false
def fits:List Oi->List Value->Bool
  | [],[]=>true
  | l::ls,v::vs=>l.fits v && fits ls vs
  | _,_=>false
def Yz (f:TypeId->Option (List Oi)):List Field->Nat->Option (List Oi)
  | [],_=>some []
  | x::xs,off=>
    if x.name = "_"\/x.offset≠off then none
    else match f x.type with
      | none=>none
      | some l=>match Yz f xs (off+l.length) with
        | none=>none
        | some r=>some (l++r)
def Im (P:Program):Nat->TypeId->Option (List Oi)
  | 0,_=>none
  | d+1,t=>
    match P.underlying t with
    | some .bool=>some [.b]
    | some (.int k)=>some [.i k]
    | some .string=>some [.s]
    | some (.struct fs)=>
      if P.stoodInHeld t=true then none
      else match Yz (Im P d) fs.toList 0 with
        | none=>none
        | some l=>if P.cellsOf t=l.length then some l else none
    | _=>none
def F6 (P:Program)(t:TypeId):Bool:=match P.underlying t with|some (.struct _)=>true|_=>false
def valOf (P:Program)(t:TypeId)(xs:List Value):Value:=if F6 P t then .agg xs.toArray else xs.headD undef
theorem Pv:∀{ls:List Oi} {xs:List Value},fits ls xs=true->xs.length=ls.length
  | [],[],_=>rfl
  | [],_::_,h=>by simp[fits]at h
  | _::_,[],h=>by simp[fits]at h
  | _::_,_::_,h=>by
    simp only[fits,Bool.and_eq_true]at h;simp[Pv h.2]
theorem Tn:∀{a b:List Oi} {xs:List Value},fits (a++b) xs=true->fits a (xs.take a.length)=true/\fits b (xs.drop a.length)=true
  | [],_,_,h=>⟨rfl,by simpa using h⟩
  | _::_,_,[],h=>by simp[fits]at h
  | _::a,b,_::xs,h=>by
    simp only[List.cons_append,fits,Bool.and_eq_true]at h;have:=Tn h.2;simp only[List.length_cons,List.take_succ_cons,List.drop_succ_cons,fits,Bool.and_eq_true];exact⟨⟨h.1,this.1⟩,this.2⟩
def Ate (P:Program)(d:Nat)(t:TypeId)(ls:List Oi):Prop:=
  ∀(w:World) (xs ys:List Value),fits ls xs=true->fits ls ys=true->∃r:Bool,(Op.equalIn d t (valOf P t xs) (valOf P t ys)).run P w=.ok r w/\(r=true ↔ xs=ys)
theorem Aku {P:Program}{d:Nat}{t:TypeId}{ls:List Oi}(h:Im P d t=some ls):(F6 P t=true->P.cellsOf t=ls.length)/\(F6 P t=false->ls.length=1):=by
  cases d with
  | zero=>simp[Im]at h
  | succ d=>
    unfold Im at h;unfold F6;cases hu:P.underlying t with
    | none=>simp[hu]at h
    | some k=>
      cases k<;>simp only[hu]at h<;>try (cases h;done)
      all_goals first
        | (split at h
           · cases h
           · split at h
             · cases h
             · split at h
               · rename_i hc
                 cases h
                 exact⟨fun _=>hc,(fun h=>by cases h)⟩
               · cases h)
        | (cases h;exact⟨(fun h=>by cases h),fun _=>rfl⟩)
theorem Aas {P:Program}(w:World){d:Nat}{t:TypeId}{ls:List Oi}(h:Im P d t=some ls)(xs:List Value)(off:Nat)(hf:fits ls ((xs.drop off).take ls.length)=true) :
    (part t xs.toArray off).run P w=.ok (valOf P t ((xs.drop off).take ls.length)) w:=by
  obtain⟨h1,h2⟩:=Aku h;have hl:=Pv hf;unfold valOf;cases hs:F6 P t with
  | true=>
    have hc:=h1 hs;unfold F6 at hs;split at hs
    · rename_i fs hu
      obtain⟨i,hi⟩:=info_of_underlying hu;simp[part,isAgg,run_underlying hu,run_sizeOf w hi,hc,List.extract]
    · cases hs
  | false=>
    have hc:=h2 hs;rw[hc]at hl ⊢;obtain⟨v,hv⟩:∃v,(xs.drop off).take 1=[v]:=by
      cases hx:(xs.drop off).take 1 with
      | nil=>rw[hx]at hl;cases hl
      | cons v r=>
        rw[hx]at hl;cases r with
        | nil=>exact⟨v,rfl⟩
        | cons _ _=>simp at hl
    have hget:xs.toArray[off]?=some v:=by
      have:((xs.drop off).take 1)[0]?=some v:=by rw[hv];rfl
      simpa using this
    have hp:P.plainKey t=true:=by
      cases d with
      | zero=>simp[Im]at h
      | succ d=>
        unfold Im at h;unfold Program.plainKey;unfold F6 at hs;cases hu:P.underlying t with
        | none=>simp[hu]at h
        | some k=>cases k<;>simp_all
    rw[hv];exact run_part_plain w hp hget
theorem Abl {P:Program}(d e:Nat)(IH:∀t ls,Im P d t=some ls->Ate P (e+d) t ls)(xs ys:List Value):∀(fs:List Field) (off:Nat) (ls:List Oi),Yz (Im P d) fs off=some ls ->
    fits ls (xs.drop off)=true->fits ls (ys.drop off)=true->∀w:World,∃r:Bool,(Op.eqFields (e+d) xs.toArray ys.toArray fs).run P w=.ok r w/\(r=true ↔ xs.drop off=ys.drop off)
  | [],off,ls,h,hx,hy,w=>by
    simp only[Yz,Option.some.injEq]at h;subst h;have hx:=Pv hx;have hy:=Pv hy;refine⟨true,by simp[Op.eqFields],?_⟩
    rw[List.eq_nil_of_length_eq_zero hx,List.eq_nil_of_length_eq_zero hy];simp
  | f::fs,off,ls,h,hx,hy,w=>by
    unfold Yz at h;split at h
    · cases h
    · rename_i hn
      have hn1:f.name ≠ "_":=fun hh=>hn (.inl hh)
      have hn2:f.offset=off:=Classical.not_not.1 fun hh=>hn (.inr hh)
      split at h
      · cases h
      · rename_i l hl
        split at h
        · cases h
        · rename_i r hr
          cases h
          have sx:=Tn hx;have sy:=Tn hy;rw[List.drop_drop]at sx sy;obtain⟨b,hb,hbe⟩:=IH _ _ hl w _ _ sx.1 sy.1;obtain⟨c,hc,hce⟩:=Abl d e IH xs ys fs _ r hr sx.2 sy.2 w;have p1:=Aas w hl xs off sx.1;have p2:=Aas w hl ys off sy.1;have cut:xs.drop off=ys.drop off ↔ (xs.drop off).take l.length=(ys.drop off).take l.length/\xs.drop (off+l.length)=ys.drop (off+l.length):=by
            rw[<-List.drop_drop,<-List.drop_drop];constructor
            · intro h;rw[h];exact⟨rfl,rfl⟩
            · rintro ⟨h1,h2⟩
              rw[<-List.take_append_drop l.length (xs.drop off),h1,h2,List.take_append_drop]
          cases b with
          | false=>
            refine⟨false,by simp[Op.eqFields,hn1,hn2,p1,p2,hb],?_⟩
            rw[cut,<-hbe];simp
          | true=>
            refine⟨c,by simp[Op.eqFields,hn1,hn2,p1,p2,hb,hc],?_⟩
            rw[cut,<-hbe,<-hce];simp
theorem Rt {P:Program}(e:Nat):∀(d:Nat) (t:TypeId) (ls:List Oi),Im P d t=some ls->Ate P (e+d) t ls
  | 0,_,_,h=>by simp[Im]at h
  | d+1,t,ls,h=>by
    intro w xs ys hx hy;have IH:=Rt (P:=P) e d;have lx:=Pv hx;have ly:=Pv hy;unfold Im at h;cases hu:P.underlying t with
    | none=>simp[hu]at h
    | some k=>
      cases k<;>simp only[hu]at h<;>try (cases h;done)
      case struct fs=>
        split at h
        · cases h
        · rename_i hst
          split at h
          · cases h
          · rename_i l hl
            split at h
            · cases h
              have hs:F6 P t=true:=by simp[F6,hu]
              obtain⟨r,hr,hre⟩:=Abl d e IH xs ys fs.toList 0 ls hl (by simpa using hx) (by simpa using hy) w;refine⟨r,?_,by simpa using hre⟩
              unfold valOf;rw[hs,if_pos rfl,if_pos rfl];have hf:P.fieldsOf t=fs:=by simp[Program.fieldsOf,hu]
              rw[show e+(d+1)=(e+d)+1 by omega,run_equalIn_struct w (e+d) t xs.toArray ys.toArray (by rw[hf];exact hu) (by simpa using hst),hf];exact hr
            · cases h
      all_goals
        cases h
        have hs:F6 P t=false:=by simp[F6,hu]
        obtain⟨x,rfl⟩:∃x,xs=[x]:=by
          match xs,lx with
          | [x],_=>exact⟨x,rfl⟩
        obtain⟨y,rfl⟩:∃y,ys=[y]:=by
          match ys,ly with
          | [y],_=>exact⟨y,rfl⟩
        simp only[fits,Bool.and_true]at hx hy;unfold valOf;rw[hs];rw[show e+(d+1)=(e+d)+1 by omega];cases x<;>simp only[Oi.fits,Bool.false_eq_true,decide_eq_true_eq]at hx
        cases y<;>simp only[Oi.fits,Bool.false_eq_true,decide_eq_true_eq]at hy
      case bool=>exact⟨_,run_equalIn_bool' w (e+d) t _ _ hu,by simp⟩
      case int=>
        subst hx;subst hy;exact⟨_,run_equalIn_int w (e+d) t _ _ _ _ hu,by simp⟩
      case string=>
        refine⟨_,run_equalIn_string w (e+d) t _ _ hu,?_⟩
        rw[beq_iff_eq,ByteArray.toList_eq,ByteArray.toList_eq];constructor
        · intro h
          congr 2
          exact ByteArray.ext (Array.toList_inj.1 h)
        · intro h
          simp only[List.cons.injEq,Value.string.injEq,and_true]at h;rw[h]
theorem Px {P:Program}{t:TypeId}{ls:List Oi}(h:Im P 8 t=some ls)(hs:F6 P t=true)(w:World)(xs ys:List Value)(hx:fits ls xs=true)(he:xs=ys) :
    (binOp .eql t (.agg xs.toArray) (.agg ys.toArray)).run P w=.ok (.bool true) w:=by
  subst he;obtain⟨r,hr,hre⟩:=Rt (P:=P) 9992 8 t ls h w xs xs hx hx;unfold valOf at hr;rw[hs,if_pos rfl]at hr;rw[run_eql_struct,hr,hre.2 rfl];rfl
theorem Sc {P:Program}{t:TypeId}{ls:List Oi}(h:Im P 8 t=some ls)(hs:F6 P t=true)(w:World)(xs ys:List Value)(hx:fits ls xs=true)(hy:fits ls ys=true)(he:xs≠ys) :
    (binOp .eql t (.agg xs.toArray) (.agg ys.toArray)).run P w=.ok (.bool false) w:=by
  obtain⟨r,hr,hre⟩:=Rt (P:=P) 9992 8 t ls h w xs ys hx hy;unfold valOf at hr;rw[hs,if_pos rfl,if_pos rfl]at hr;cases r with
  | true=>exact absurd (hre.1 rfl) he
  | false=>rw[run_eql_struct,hr];rfl
theorem Yu {P:Program}{t:TypeId}{ls:List Oi}(h:Im P 8 t=some ls)(hs:F6 P t=true)(w:World)(xs ys:List Value)(hx:fits ls xs=true)(he:xs=ys) :
    (binOp .neq t (.agg xs.toArray) (.agg ys.toArray)).run P w=.ok (.bool false) w:=by
  subst he;obtain⟨r,hr,hre⟩:=Rt (P:=P) 9992 8 t ls h w xs xs hx hx;unfold valOf at hr;rw[hs,if_pos rfl]at hr;rw[run_neq_struct,hr,hre.2 rfl];rfl
theorem U1 {P:Program}{t:TypeId}{ls:List Oi}(h:Im P 8 t=some ls)(hs:F6 P t=true)(w:World)(xs ys:List Value)(hx:fits ls xs=true)(hy:fits ls ys=true)(he:xs≠ys) :
    (binOp .neq t (.agg xs.toArray) (.agg ys.toArray)).run P w=.ok (.bool true) w:=by
  obtain⟨r,hr,hre⟩:=Rt (P:=P) 9992 8 t ls h w xs ys hx hy;unfold valOf at hr;rw[hs,if_pos rfl,if_pos rfl]at hr;cases r with
  | true=>exact absurd (hre.1 rfl) he
  | false=>rw[run_neq_struct,hr];rfl
section
theorem Qz (b:Nat):∀(vs:List Value) (o:Nat) (w:World),(w.setCells b o vs).heap.size=w.heap.size
 |[],_,_=>rfl
 |v::vs,o,w=>by rw[World.setCells,Qz b vs];simp[World.setCell]
theorem J8:∀(r m a b:List Value),m.length=r.length->setAt (a++(m++b)) a.length r=a++(r++b)
 |[],m,a,b,h=>by
  obtain rfl:m=[]:=List.eq_nil_of_length_eq_zero h;rfl
 |c::r,[],a,b,h=>by simp at h
 |c::r,x::m,a,b,h=>by
  rw[setAt];have e:(a++(x::m++b)).set a.length c=(a++[c])++(m++b):=by simp
  rw[e];have:=J8 r m (a++[c]) b (by simpa using h);rw[List.length_append,List.length_singleton]at this;rw[this];simp
theorem Touch.setRow {F:Nat->Prop}{g:Nat}(hg:F g):∀(cs:List Value) (o:Nat) {a b:World},Touch F a b->Touch F a (b.setCells g o cs)
 |[],_,_,_,h=>h
 |c::cs,o,_,_,h=>by
  rw[World.setCells];exact Touch.setRow hg cs (o+1) (h.setCell (.inl hg) c)
section
variable {w w':World} {B:Nat} {e:TypeId} {sz:Nat}
theorem T5 {base size n g cap:Nat}:∀(cs xs:List Value) (o:Nat) {w:World},w.ownsRow base e size (.slice (some ⟨g,0,none⟩) n cap) n xs->(w.setCells g o cs).ownsRow base e size (.slice (some ⟨g,0,none⟩) n cap) n (setAt xs o cs)
 |[],_,_,_,h=>h
 |c::cs,xs,o,_,h=>by
  rw[World.setCells,setAt];exact T5 cs _ (o+1) (h.stored o c).1
theorem As.rows {A:Option Addr}{n c:Nat}{rows:List (List Value)}(h:As w B e sz (.slice A n c) rows):At w sz A rows:=by
 obtain⟨A',c',hv,hA⟩:=h.at_;injection hv with h1 h2 h3;subst h1;exact hA
variable {P:Program}
theorem X4 (w:World)(t e ty:TypeId)(z:Value)(ht:P.underlying t=some (.slice e))(hv:∀w,(zeroValue e).run P w=.ok z w)(hz:z.cells.size=sz)(h0:0<sz)(h1:∀u∈z.cells.toList,u.oneCell'=true)(b o n c:Nat)(hn:0<n)
  (hc:∀j,j<n*sz->(w.cell? ⟨b,o+j,none⟩).isSome=true) (hf:∀j,j<n*sz->w.frozen? ⟨b,o+j,none⟩=false) :
  (Builtin.clear_ #[t] ty #[.slice (some ⟨b,o,none⟩) n c]).run P w=.ok (.tuple #[]) (w.setCells b o (Builtin.zeroCells z.cells n).toList):=by
 have hl:(Builtin.zeroCells z.cells n).toList.length=n*sz:=by rw[Array.length_toList,size_zeroCells,hz]
 have hst:=run_storeCells_cells (P:=P) b o (Builtin.zeroCells z.cells n).toList 0 w (by rw[hl];simpa using hc) (by rw[hl];simpa using hf) (by
  intro v hv';simp only[Builtin.zeroCells,Array.toList_map,List.mem_map]at hv';obtain⟨i,hi,rfl⟩:=hv';have hlt:i % z.cells.size<z.cells.size:=Nat.mod_lt _ (by omega);rw[getElem!_pos z.cells _ hlt];exact h1 _ (by simp))
 simp only[Nat.add_zero]at hst;obtain⟨m,rfl⟩:∃m,n=m+1:=⟨n - 1,by omega⟩;simp[Builtin.clear_,run_underlying ht,hv,hst]
end
end
def Kz (T:TypeId)(x:Operand):Op:=Op.load T x
theorem Hs (T:TypeId)(x:Operand):Op.load T x=Kz T x:=rfl
def Acl (S T:TypeId)(x:Operand):Op:=Op.convert S T x
theorem Ahc (S T:TypeId)(x:Operand):Op.convert S T x=Acl S T x:=rfl
section
def Aox (w:World)(g:Nat)(t:TypeId)(cs:List Value):Prop:=∃m:Nat × Nat,(m=(0,0)\/cs.length<=m.1)/\w.heap[g]?=some (.cells cs.toArray t m)
section
variable {w w':World} {g:Nat} {t:TypeId} {cs:List Value}
def Ari (w:World)(B:Nat)(e:TypeId)(v:Value)(l:List UInt8):Prop:=
 (v=.slice none 0 0/\l=[])\/∃g cs,v=.slice (some ⟨g,0,none⟩) l.length cs.length/\B<=g/\l.length<=cs.length/\Aox w g e cs/\cs.take l.length=l.map u8
variable {B:Nat} {e:TypeId} {v:Value} {l:List UInt8}
variable {P:Program}
theorem Ari.of_string (w:World)(src dst:TypeId)(l:List UInt8)(hs:P.underlying src=some .string)(hd:P.underlying dst=some (.slice e))(he:P.underlying e=some (.int .u8)) :
  ∃v W',(convert src dst (.string (bs l))).run P w=.ok v W'/\Ari W' w.heap.size e v l/\Below w.heap.size w W':=by
 refine⟨_,_,run_bytes_of_string w src dst e (bs l) hs hd he,.inr ⟨w.heap.size,l.map u8++G2 (grownCap w l.length 0 e - l.length),?_,Nat.le_refl _,by simp,?_,by simp⟩,((Below.refl _ _).drew).alloc (Nat.le_refl _) _⟩
 ·have:=grownCap_ge w l.length 0 e
  rw[Au];simp[Jz]
  omega
 ·refine⟨((bytesRow (bs l) (grownCap w (bs l).size 0 e)).size,(bytesRow (bs l) (grownCap w (bs l).size 0 e)).size+1),.inr ?_,?_⟩
  ·simp[bytesRow,Jz,Au]
  ·rw[show (l.map u8++G2 (grownCap w l.length 0 e - l.length)).toArray=bytesRow (bs l) (grownCap w (bs l).size 0 e) by
    apply Array.ext'
    simp[bytesRow,G2,u8,Au]]
   exact heap_alloc_new w.drew _
end
end
attribute [local go_sem ↓] Go.wp_at_zero Go.wp_at_succ
attribute [local go_sem] Ai Ag Af Ab Aj
theorem Arb (s:List UInt8)(a b:Nat):(bs s).extract a b=bs ((s.drop a).take (b - a)):=by
 apply ByteArray.ext
 simp[List.extract]
def Ar8 (P:Program)(w:World)(r:Option (Array Value))(ρ:Operand->Value)(o:Oper):Result Next:=
 match r with
 |some cs=>.ok (.value (.agg cs)) w
 |none=>(execOp ρ o).run P w
theorem Akv (P:Program)(w:World)(cs:Array Value)(ρ:Operand->Value)(o:Oper):Ar8 P w (some cs) ρ o=.ok (.value (.agg cs)) w:=rfl
theorem As3 {P:Program}{ρ:Operand->Value}{w:World}{dst:Option Tmp}{ty:TypeId}{pos:String}{after:Array Edge}{g:Option (Nat × Bool)}{x:Operand}(T n:Nat){d:TypeDesc}
  (hu:P.underlying T=some d) (hd:d.isRow=true) (hi:(P.info? T).map (·.size)=some n) :
  (execOp ρ ⟨dst,.load T x,ty,pos,after,g⟩).run P w=Ar8 P w (rowAt w n (ρ x)) ρ ⟨dst,.load T x,ty,pos,after,g⟩:=by
 cases hr:rowAt w n (ρ x) with
 |none=>rfl
 |some cs=>
  rw[D8 T n hu hd hi (by rw[hr];rfl),hr];rfl
end Go.Proofs.YtfjflkmhhbhceaaGreatDoor
