/-
  Layer 22, walks: handles of nodes, by both. Conditions: machine texts; the library's tables and errors are laid.
-/
import Derived.Test.YtfjflkmhhbhceaaGreatDoorO24
import Derived.Test.YtfjflkmhhbhceaaGreatDoorO25
import Derived.Test.YtfjflkmhhbhceaaGreatDoorO05
import Derived.Test.YtfjflkmhhbhceaaGreatDoorO19
import Derived.Lib.AppendIntMem
import Derived.Test.YtfjflkmhhbhceaaGreatDoorO03
import Derived.Test.YtfjflkmhhbhceaaGreatDoorRows
import Derived.Shelf.Vars
import Derived.MakeChecks
import Derived.Lib.LaidTab
import Derived.Stop.LaidErr
namespace Go.Proofs.YtfjflkmhhbhceaaGreatDoor
open Go.RowKit
attribute [local go_sem ↓] Go.wp_at_zero Go.wp_at_succ
attribute [local go_sem] Ai Ag Af Ab Aj
def G1 (w:World):Prop:=∀W,Below w.heap.size w W->Lib.TabIs Tryz.prog W "internal/strconv.uint64pow10" .u64 Lib.pow10Tab
theorem G1.below {w w':World}(h:G1 w)(hb:Below w.heap.size w w'):G1 w':=fun w2 h2=>h w2 (Ad hb h2)
theorem G1.here {w:World}(h:G1 w):Lib.TabIs Tryz.prog w "internal/strconv.uint64pow10" .u64 Lib.pow10Tab:=h w (Below.refl _ _)
theorem Aky (n:Nat)(w:World)(hn:(n:Int)<=9223372036854775807)(ht:G1 w):Calls Tryz.prog 124 #[.int .i64 (n:Int)] w fun e w'=>e=.returned (.string (bs (Lib.decDigits n)))/\Below w.heap.size w w':=by
 refine(Tryz.strconv_Itoa (n:Int) (by omega) hn w ht.here).mono ?_
 rintro e w' ⟨rfl,k,os,rfl⟩;rw[Lib.itoa_nonneg];exact⟨rfl,Lib.below_grow _ _ (Nat.le_refl _) _ _⟩
def Ef (gen:Int):List UInt8:=if gen<1 then [] else Lib.decDigits gen.toNat
theorem R3 (gen:Int)(w:World)(hg:gen<=9223372036854775807)(ht:G1 w):Calls Tryz.prog 85 #[.int .i64 gen] w fun e w'=>e=.returned (.string (bs (Ef gen)))/\Below w.heap.size w w':=by
 by_cases h:gen<1
 ·have HT:=Zh (show Ef gen=[] from if_pos h)
  go_enter Tryz.func85,Tryz.ntmps85
  go_wp2;go_ret;exact⟨D9 (by rw[HT.out]),Below.refl _ _⟩
 ·obtain⟨n,rfl⟩:∃n:Nat,gen=n:=⟨gen.toNat,by omega⟩
  have HT:=Zh (show Ef (n:Int)=Lib.decDigits n by unfold Ef;rw[if_neg h,Int.toNat_natCast]);go_enter Tryz.func85,Tryz.ntmps85
  go_wp2_with fail;refine(Aky n _ hg ht).mono ?_
  rintro e w1 ⟨rfl,hb⟩;go_wp2;go_ret;exact⟨D9 (by rw[HT.out]),hb⟩
section
open Go.ChangeShapes Go.WideShapes Go.ChangeAt Go.RowKit Go.Deep
structure Fw where
 s:Step
 es:List Entry
 us:List Int
def Fw.rep (x:Fw):Qv:=⟨x.s.r,x.es,x.us⟩
def Fw.vals (x:Fw):List Value:=x.s.vals
theorem Fw.len (x:Fw):x.vals.length=94:=Step.len x.s
instance:Inhabited Fw:=⟨⟨⟨0,⟨0,0,0,0,0,0,⟨0,[],[],[],[],0,0,0,[],⟨⟨false,0⟩,⟨false,0⟩,⟨false,0⟩,⟨false,0⟩,⟨false,0⟩⟩,⟨false,0⟩,0,0,[]⟩⟩,⟨0,0,[]⟩,⟨0,[],Db,Db,⟨⟨false,0⟩,Db⟩,⟨⟨false,0⟩,Db⟩,0,0,false,[],0,0,none,0,0,none,0,0⟩,0,0⟩,[],[]⟩⟩
structure Aja (x:Fw):Prop where
 kind:(Lit.int .i64 x.s.kind).wf=true
 ask:x.s.a.C9
 Ux:x.s.p.C9
 from_:(Lit.int .i64 x.s.from_).wf=true
 now:(Lit.int .i64 x.s.now).wf=true
section
variable {H:Type} {enc:TypeId × Value->H} {w:World} {base:Nat} {spare:Nat->Bool} {held:Bool} {fuel:Nat} {cs:List Value} {x:DataW H × List MemPlace}
theorem Uo {P:Program}{t e:TypeId}{fs:Array Field}{fuel:Nat}{cs:List Value}{x:DataW H × List MemPlace}(ht:P.underlying t=some (.struct fs))(h:DataW.trod enc P w base spare held fuel t cs=some x)
  (i o k:Nat) (f:Field) (hi:fs[i]?=some f) (hT:f.type=e) (ho:f.offset=o) (hc:P.cellsOf e=k):∃ps m y,cs.drop o=ps++cs.drop (o+k)/\DataW.trod enc P w base spare held m e ps=some y/\∀p∈y.2,p∈x.2:=by
 obtain⟨xs,m,_,hx,_,hlen,hf⟩:=DataW.trod_struct ht h;have hi':i<xs.length:=by rw[hlen];exact(Array.getElem?_eq_some_iff.1 hi).1
 have hy:=(hf i f hi).trans (List.getElem?_eq_getElem hi');have hpl:∀p∈xs[i].2,p∈x.2:=fun p hp=>by rw[hx];exact List.mem_flatMap.2 ⟨_,List.getElem_mem hi',hp⟩
 subst hT ho;rw[hc]at hy;exact⟨_,m,_,drop_take rfl,hy,hpl⟩
theorem Ad9 (h:DataW.trod enc Tryz.prog w base spare held fuel 40 cs=some x):∃a:B3,cs=a.vals/\a.C9:=by
 have hl:cs.length=3:=(N7 Tryz.underlying40 h).trans (by kernel_rfl);obtain⟨z0,h0,g0⟩:=Cb Tryz.underlying40 h 0 0 _ rfl (e:=3) rfl rfl (by kernel_rfl) Tryz.underlying3;obtain⟨z1,h1,g1⟩:=Cb Tryz.underlying40 h 1 1 _ rfl (e:=3) rfl rfl (by kernel_rfl) Tryz.underlying3;obtain⟨z2,h2,g2⟩:=Ek Tryz.underlying40 h 2 2 _ rfl (e:=9) rfl rfl (by kernel_rfl) Tryz.underlying9;have hend:cs.drop 3=[]:=List.drop_of_length_le (by omega);have e:cs=cs.drop 0:=rfl;simp only[Nat.reduceAdd]at h0 h1 h2;refine⟨⟨z0,z1,z2.data.toList⟩,e.trans ?_,⟨g0,g1,by simpa using g2⟩⟩
 rw[h0,h1,h2,hend];simp only[B3.vals,Xs]
theorem Amx (h:DataW.trod enc Tryz.prog w base spare held fuel 38 cs=some x):∃a:Ask,cs=a.vals/\a.C9:=by
 have hl:cs.length=30:=(N7 Tryz.underlying38 h).trans (by kernel_rfl);obtain⟨z0,h0,g0⟩:=Cb Tryz.underlying38 h 0 0 _ rfl (e:=3) rfl rfl (by kernel_rfl) Tryz.underlying3;obtain⟨z1,h1,g1⟩:=Cb Tryz.underlying38 h 1 1 _ rfl (e:=3) rfl rfl (by kernel_rfl) Tryz.underlying3;obtain⟨z2,h2,g2⟩:=Cb Tryz.underlying38 h 2 2 _ rfl (e:=3) rfl rfl (by kernel_rfl) Tryz.underlying3;obtain⟨z3,h3,g3⟩:=Cb Tryz.underlying38 h 3 3 _ rfl (e:=3) rfl rfl (by kernel_rfl) Tryz.underlying3;obtain⟨z4,h4,g4⟩:=Cb Tryz.underlying38 h 4 4 _ rfl (e:=3) rfl rfl (by kernel_rfl) Tryz.underlying3;obtain⟨z5,h5,g5⟩:=Cb Tryz.underlying38 h 5 5 _ rfl (e:=3) rfl rfl (by kernel_rfl) Tryz.underlying3;obtain⟨ps6,m6,y6,h6,hs6⟩:=D4 Tryz.underlying38 h 6 6 24 _ rfl (e:=36) rfl rfl (by kernel_rfl);obtain⟨z6,rfl,g6⟩:=Akl hs6;have hend:cs.drop 30=[]:=List.drop_of_length_le (by omega);have e:cs=cs.drop 0:=rfl;simp only[Nat.reduceAdd]at h0 h1 h2 h3 h4 h5 h6;refine⟨⟨z0,z1,z2,z3,z4,z5,z6⟩,e.trans ?_,⟨g0,g1,g2,g3,g4,g5,g6⟩⟩
 rw[h0,h1,h2,h3,h4,h5,h6,hend];rfl
end
theorem Al7 {W:World}{rest:List (String × DataW Unit)}(h:laidMet Tryz.prog (("internal/strconv.uint64pow10",Rows.laid_internal_strconv_uint64pow10)::rest) W):Lib.TabIs Tryz.prog W "internal/strconv.uint64pow10" .u64 Lib.pow10Tab:=by
 have e:(Rows.laid_internal_strconv_uint64pow10:DataW Unit)=Lib.tabData .u64 Lib.pow10Tab:=by
  have e2:Lib.pow10Tab=[1,10,100,1000,10000,100000,1000000,10000000,100000000,1000000000,10000000000,100000000000,1000000000000,10000000000000,100000000000000,1000000000000000,10000000000000000,100000000000000000,1000000000000000000,10000000000000000000]:=by decide +kernel
  rw[e2];rfl
 rw[e]at h;exact Lib.tabIs_of_head (g:=0) (by kernel_rfl) (by kernel_rfl) (Tryz.underlying269) Tryz.underlying202 (by kernel_rfl) (by kernel_rfl) h
theorem Agk {W:World}{a b:String × DataW Unit}{rest:List (String × DataW Unit)}(h:laidMetH Tryz.prog (a::b::("internal/strconv.uint64pow10",Rows.laid_internal_strconv_uint64pow10)::rest) W)
  (hp:((a::b::("internal/strconv.uint64pow10",(Rows.laid_internal_strconv_uint64pow10:DataW Unit))::rest).all fun x=>x.2.handleName?.isNone)=true):G1 W:=by
 rw[MakeChecks.laidMetH_plain _ _ _ hp]at h;have ht:=Al7 (laidMet.tail (laidMet.tail h));exact fun V hb=>Lib.tabBelow_of_tabIs ht V hb
end
end Go.Proofs.YtfjflkmhhbhceaaGreatDoor
