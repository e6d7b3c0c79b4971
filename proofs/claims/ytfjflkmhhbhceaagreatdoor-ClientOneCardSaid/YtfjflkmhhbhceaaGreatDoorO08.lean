/-
  Layer 5, walks: whether options may be, by the program and by the reference. No condition.
-/
import Derived.Test.YtfjflkmhhbhceaaGreatDoorProg
import Derived.Test.YtfjflkmhhbhceaaGreatDoorO02
import Derived.Test.YtfjflkmhhbhceaaGreatDoorO03
import Derived.OpenShut
import Derived.ProofKit
import Derived.Deep.Slices
import Derived.ChangeOld
set_option maxHeartbeats 40000000
namespace Go.Proofs.YtfjflkmhhbhceaaGreatDoor
open Go.RowKit
attribute [local go_sem ↓] Go.wp_at_zero Go.wp_at_succ
def Ti (p:Int × Int):List Value:=[.int .i64 p.1,.int .i64 p.2]
theorem Yw (p:Int × Int):∀v∈Ti p,v.oneCell'=true:=by
 intro v hv;unfold Ti at hv;simp only[List.mem_cons,List.not_mem_nil,or_false]at hv;rcases hv with rfl|rfl<;>rfl
theorem U4:(Tryz.prog.info? 252).map (fun i=>(i.zero,i.size))=some (some (.agg #[.int .i64 0,.int .i64 0]),2):=by kernel_rfl
def Wq (p:Int × Int):Bool:=okN p.1 p.2
theorem Aoq {α:Type}{p:α->Bool}{l:List α}{k:Nat}(hk:k<l.length)(hn:(l.take k).all p=true)(h:p l[k]=true):(l.take (k+1)).all p=true:=by
 rw[Pn _ _ hk,List.all_append,hn];simp[h]
theorem Are {α:Type}{p:α->Bool}{l:List α}{k:Nat}(hk:k<l.length)(h:p l[k]=false):l.all p=false:=
 List.all_eq_false.2 ⟨_,List.getElem_mem hk,by simp[h]⟩
theorem Arf {α:Type}{p:α->Bool}{l:List α}{k:Nat}(hk:l.length<=k)(hn:(l.take k).all p=true):l.all p=true:=by
 rwa [List.take_of_length_le hk]at hn
theorem Xw (A:Option Addr)(c:Nat)(ls:List (Int × Int))(w:World)(hl:ls.length<=1000000)(hA:At w 2 A (ls.map Ti)) :
  Calls Tryz.prog 195 #[.slice A ls.length c] w fun e w'=>e=.returned (.bool (ls.all Wq))/\Below w.heap.size w w':=by
 go_enter Tryz.func195,Tryz.ntmps195
 go_wp2
 go_loopw [7] (fun i wr=>∃k:Nat,k<=ls.length/\i=.int .i64 k/\(ls.take k).all Wq=true/\Below w.heap.size w wr) (fun i _=>ls.length - (intOf i).toNat)
 case atStart=>exact⟨0,Nat.zero_le _,rfl,rfl,Below.refl _ _⟩
 case round=>
  obtain⟨k,hk,rfl,hn,hB⟩:=hrel;by_cases hlt:k<ls.length
  ·obtain⟨b,off,rfl,hb,hc⟩:=(hA.below hB).getD (k:=k) (by simpa using hlt)
   have hc':∀j u,(Ti ls[k])[j]?=some u->wr.cell? ⟨b,off+k*2+j,none⟩=some u:=fun j u hu=>hc j u (by simpa using hu)
   have hr0:=Gd wr (Ti ls[k]) 252 0 _ rfl;have hr1:=Gd wr (Ti ls[k]) 252 1 _ rfl;have hB1:=hB.alloc hB.size (.cells (Ti ls[k]).toArray 252);by_cases h:Wq ls[k]=true
   ·have HS:=Zh (Aoq hlt hn h)
    simp only[Wq,okN,Bool.and_eq_true,decide_eq_true_eq]at h;obtain⟨h1,h2⟩:=h;clear hc hn
    go_wp2_with (first
     |(refine wpList_load_mid (by rfl) 252 _ (by rfl) _ _ (by rfl) _ _ (by exact hc') Tryz.underlying252 (by rfl) (by kernel_rfl) ?_)
     |(refine Dh (by rfl) (by rfl) 252 (by rfl) _ _ (by rfl) (Ti ls[k]) U4 (by rfl) (by rfl) (Yw _) (by rfl) (by rfl) ?_)
     |fail)
    go_roundw
    case rel=>exact⟨k+1,by omega,by go_num,HS.out,hB1⟩
    case measure=>simp[intOf];omega
   ·rw[Bool.not_eq_true]at h
    have HS:=Zh (Are hlt h);simp only[Wq,okN,Bool.and_eq_false_iff,decide_eq_false_iff_not]at h;clear hc hn;by_cases h0:ls[k].1<0
    ·go_wp2_with (first
      |(refine wpList_load_mid (by rfl) 252 _ (by rfl) _ _ (by rfl) _ _ (by exact hc') Tryz.underlying252 (by rfl) (by kernel_rfl) ?_)
      |(refine Dh (by rfl) (by rfl) 252 (by rfl) _ _ (by rfl) (Ti ls[k]) U4 (by rfl) (by rfl) (Yw _) (by rfl) (by rfl) ?_)
      |fail)
     go_ret;exact⟨A5 HS.out.symm,hB1⟩
    ·have h2:ls[k].2<ls[k].1:=by rcases h with h|h<;>omega
     go_wp2_with (first
      |(refine wpList_load_mid (by rfl) 252 _ (by rfl) _ _ (by rfl) _ _ (by exact hc') Tryz.underlying252 (by rfl) (by kernel_rfl) ?_)
      |(refine Dh (by rfl) (by rfl) 252 (by rfl) _ _ (by rfl) (Ti ls[k]) U4 (by rfl) (by rfl) (Yw _) (by rfl) (by rfl) ?_)
      |fail)
     go_ret;exact⟨A5 HS.out.symm,hB1⟩
  ·have HE:=Zh (Arf (by omega) hn)
   clear hn hA;go_wp2;go_ret;exact⟨A5 HE.out.symm,hB⟩
theorem Lk (o:Opt)(most:Int)(w:World) :
  Calls Tryz.prog 179 #[.agg o.vals.toArray,.int .i64 most] w fun e w'=>e=.returned (.bool (o.ok most))/\Below w.heap.size w w':=by
 have hr:=Gd w o.vals 32;have hc0:=hr 0 _ rfl;have hc1:=hr 1 _ rfl;have hB0:Below w.heap.size w (w.alloc (.cells o.vals.toArray 32)):=(Below.refl _ _).alloc (Nat.le_refl _) _;clear hr;obtain⟨is,n⟩:=o;unfold Opt.vals at *;cases is
 ·go_enter Tryz.func179,Tryz.ntmps179
  go_wp2;go_ret;exact⟨rfl,hB0⟩
 ·have hA:At ((w.alloc (.cells #[.bool true,.int .i64 n] 32)).alloc (.cells #[.int .i64 n,.int .i64 most] 252)) 2 (some ⟨w.heap.size+1,0,none⟩) [Ti (n,most)]:=At.fresh _ _ _ _ _ (by simp[Ti]) (by simp)
  have HA:=Zh hA;clear hA;have hB1:=hB0.alloc hB0.size (.cells #[.int .i64 n,.int .i64 most] 252);go_enter Tryz.func179,Tryz.ntmps179
  go_wp2_with fail;refine(Xw (some ⟨w.heap.size+1,0,none⟩) 1 [(n,most)] _ (by simp) HA.out).mono ?_
  rintro e w2 ⟨rfl,hb⟩;have HB:=Zh (Ad hB1 hb);clear hb;go_wp2;go_ret;exact⟨A5 (by simp[Opt.ok,Wq]),HB.out⟩
theorem Aau (n most:Int)(w:World) :
  Calls Tryz.prog 156 #[.int .i64 n,.int .i64 most] w fun e w'=>e=.returned (.bool (okN n most))/\w=w':=by
 by_cases h:0<=n
 ·have HS:=Zh (show okN n most=decide (n<=most) by simp[okN,h])
  go_enter Tryz.func156,Tryz.ntmps156
  go_wp2;go_ret;exact⟨A5 HS.out.symm,rfl⟩
 ·have HS:=Zh (show okN n most=false by simp[okN];omega)
  go_enter Tryz.func156,Tryz.ntmps156
  go_wp2;go_ret;exact⟨A5 HS.out.symm,rfl⟩
theorem Gp (o:Opt)(most:Int)(w:World) :
  Calls Tryz.prog 114 #[.agg o.vals.toArray,.int .i64 most] w fun e w'=>e=.returned (.bool (o.ok most))/\Below w.heap.size w w':=by
 have hr:=Gd w o.vals 32;have hc0:=hr 0 _ rfl;have hc1:=hr 1 _ rfl;have hB0:Below w.heap.size w (w.alloc (.cells o.vals.toArray 32)):=(Below.refl _ _).alloc (Nat.le_refl _) _;clear hr;obtain⟨is,n⟩:=o;unfold Opt.vals at *;cases is
 ·go_enter Tryz.func114,Tryz.ntmps114
  go_wp2;go_ret;exact⟨rfl,hB0⟩
 ·go_enter Tryz.func114,Tryz.ntmps114
  go_wp2_with fail;refine(Aau n most _).mono ?_
  rintro e w2 ⟨rfl,rfl⟩;go_wp2;go_ret;exact⟨rfl,hB0⟩
section
theorem Hz {ρ:Operand->Value}{w:World}{dst:Option Tmp}{ty:TypeId}{pos:String}{after:Array Edge}{g:Option (Nat × Bool)}{x:Operand}(h:(rowAt w 2 (ρ x)).isSome=true) :
  (execOp ρ ⟨dst,.load 32 x,ty,pos,after,g⟩).run Tryz.prog w=.ok (.value (.agg ((rowAt w 2 (ρ x)).getD #[]))) w:=D8 32 2 Tryz.underlying32 rfl (by kernel_rfl) h
theorem Io {ρ:Operand->Value}{w:World}{dst:Option Tmp}{ty:TypeId}{pos:String}{after:Array Edge}{g:Option (Nat × Bool)}{x:Operand}(h:(rowAt w 10 (ρ x)).isSome=true) :
  (execOp ρ ⟨dst,.load 34 x,ty,pos,after,g⟩).run Tryz.prog w=.ok (.value (.agg ((rowAt w 10 (ρ x)).getD #[]))) w:=D8 34 10 Tryz.underlying34 rfl (by kernel_rfl) h
attribute [local go_sem ↓] Hz Io
attribute [local go_sem] Ai Ag Af
theorem Gg {w:World}{g:Nat}{s:Ac}(h:Blk w g 34 s.vals) :
  rowOf w g 0 10=some s.vals.toArray/\rowOf w g 0 2=some s.mode.vals.toArray/\rowOf w g 2 2=some s.uid.vals.toArray/\rowOf w g 4 2=some s.gid.vals.toArray/\rowOf w g 6 2=some s.size.vals.toArray/\rowOf w g 8 2=some s.time.vals.toArray:=
 ⟨h.row 0 10 (by simp[Ac.len]),h.row 0 2 (by simp[Ac.len]),h.row 2 2 (by simp[Ac.len]),h.row 4 2 (by simp[Ac.len]),h.row 6 2 (by simp[Ac.len]),h.row 8 2 (by simp[Ac.len])⟩
theorem Ais (s:Ac)(w:World) :
  Calls Tryz.prog 157 #[.agg s.vals.toArray] w fun e w'=>e=.returned (.bool s.ok)/\Below w.heap.size w w':=by
 have hb0:=Blk.new w 34 s.vals;have hB0:Below w.heap.size w (w.alloc (.cells s.vals.toArray 34)):=(Below.refl _ _).alloc (Nat.le_refl _) _;obtain⟨-,r0,-⟩:=Gg hb0;go_enter Tryz.func157,Tryz.ntmps157
 go_wp2_with fail;generalize w.alloc (.cells s.vals.toArray 34)=w0 at *;refine(Lk s.mode 4095 _).mono ?_
 rintro e w1 ⟨rfl,hb⟩;have hb1:=hb0.stays hb;have hB1:=Ad hB0 hb;obtain⟨-,-,r1,-⟩:=Gg hb1;clear hb r0 hb0 hB0;generalize h0:s.mode.ok 4095=b0;cases b0
 ·have HS:=Zh (show s.ok=false by simp[Ac.ok,h0])
  go_wp2;go_ret;exact⟨A5 HS.out.symm,hB1⟩
 have H0:=Zh h0;clear h0;go_wp2_with fail;refine(Lk s.uid 4294967295 _).mono ?_
 rintro e w2 ⟨rfl,hb⟩;have hb2:=hb1.stays hb;have hB2:=Ad hB1 hb;obtain⟨-,-,-,r2,-⟩:=Gg hb2;clear hb r1 hb1 hB1;generalize h1:s.uid.ok 4294967295=b1;cases b1
 ·have HS:=Zh (show s.ok=false by simp[Ac.ok,h1])
  go_wp2;go_ret;exact⟨A5 HS.out.symm,hB2⟩
 have H1:=Zh h1;clear h1;go_wp2_with fail;refine(Lk s.gid 4294967295 _).mono ?_
 rintro e w3 ⟨rfl,hb⟩;have hb3:=hb2.stays hb;have hB3:=Ad hB2 hb;obtain⟨-,-,-,-,r3,-⟩:=Gg hb3;clear hb r2 hb2 hB2;generalize h2:s.gid.ok 4294967295=b2;cases b2
 ·have HS:=Zh (show s.ok=false by simp[Ac.ok,h2])
  go_wp2;go_ret;exact⟨A5 HS.out.symm,hB3⟩
 have H2:=Zh h2;clear h2;go_wp2_with fail;refine(Lk s.size 9223372036854775807 _).mono ?_
 rintro e w4 ⟨rfl,hb⟩;have hb4:=hb3.stays hb;have hB4:=Ad hB3 hb;obtain⟨-,-,-,-,-,r4⟩:=Gg hb4;clear hb r3 hb3 hB3;generalize h3:s.size.ok 9223372036854775807=b3;cases b3
 ·have HS:=Zh (show s.ok=false by simp[Ac.ok,h3])
  go_wp2;go_ret;exact⟨A5 HS.out.symm,hB4⟩
 have H3:=Zh h3;clear h3;go_wp2_with fail;refine(Lk s.time 9223372036854775807 _).mono ?_
 rintro e w5 ⟨rfl,hb⟩;have hB5:=Ad hB4 hb;go_wp2;go_ret;exact⟨A5 (by simp[Ac.ok,H0.out,H1.out,H2.out,H3.out]),hB5⟩
theorem Yc (s:Ac)(w:World) :
  Calls Tryz.prog 111 #[.agg s.vals.toArray] w fun e w'=>e=.returned (.bool s.ok)/\Below w.heap.size w w':=by
 have hb0:=Blk.new w 34 s.vals;have hB0:Below w.heap.size w (w.alloc (.cells s.vals.toArray 34)):=(Below.refl _ _).alloc (Nat.le_refl _) _;obtain⟨-,r0,-⟩:=Gg hb0;go_enter Tryz.func111,Tryz.ntmps111
 go_wp2_with fail;generalize w.alloc (.cells s.vals.toArray 34)=w0 at *;refine(Gp s.mode 4095 _).mono ?_
 rintro e w1 ⟨rfl,hb⟩;have hb1:=hb0.stays hb;have hB1:=Ad hB0 hb;obtain⟨-,-,r1,-⟩:=Gg hb1;clear hb r0 hb0 hB0;generalize h0:s.mode.ok 4095=b0;cases b0
 ·have HS:=Zh (show s.ok=false by simp[Ac.ok,h0])
  go_wp2;go_ret;exact⟨A5 HS.out.symm,hB1⟩
 have H0:=Zh h0;clear h0;go_wp2_with fail;refine(Gp s.uid 4294967295 _).mono ?_
 rintro e w2 ⟨rfl,hb⟩;have hb2:=hb1.stays hb;have hB2:=Ad hB1 hb;obtain⟨-,-,-,r2,-⟩:=Gg hb2;clear hb r1 hb1 hB1;generalize h1:s.uid.ok 4294967295=b1;cases b1
 ·have HS:=Zh (show s.ok=false by simp[Ac.ok,h1])
  go_wp2;go_ret;exact⟨A5 HS.out.symm,hB2⟩
 have H1:=Zh h1;clear h1;go_wp2_with fail;refine(Gp s.gid 4294967295 _).mono ?_
 rintro e w3 ⟨rfl,hb⟩;have hb3:=hb2.stays hb;have hB3:=Ad hB2 hb;obtain⟨-,-,-,-,r3,-⟩:=Gg hb3;clear hb r2 hb2 hB2;generalize h2:s.gid.ok 4294967295=b2;cases b2
 ·have HS:=Zh (show s.ok=false by simp[Ac.ok,h2])
  go_wp2;go_ret;exact⟨A5 HS.out.symm,hB3⟩
 have H2:=Zh h2;clear h2;go_wp2_with fail;refine(Gp s.size 9223372036854775807 _).mono ?_
 rintro e w4 ⟨rfl,hb⟩;have hb4:=hb3.stays hb;have hB4:=Ad hB3 hb;obtain⟨-,-,-,-,-,r4⟩:=Gg hb4;clear hb r3 hb3 hB3;generalize h3:s.size.ok 9223372036854775807=b3;cases b3
 ·have HS:=Zh (show s.ok=false by simp[Ac.ok,h3])
  go_wp2;go_ret;exact⟨A5 HS.out.symm,hB4⟩
 have H3:=Zh h3;clear h3;go_wp2_with fail;refine(Gp s.time 9223372036854775807 _).mono ?_
 rintro e w5 ⟨rfl,hb⟩;have hB5:=Ad hB4 hb;go_wp2;go_ret;exact⟨A5 (by simp[Ac.ok,H0.out,H1.out,H2.out,H3.out]),hB5⟩
theorem Acq (s:Ac)(w:World) :
  Calls Tryz.prog 122 #[.agg s.vals.toArray] w fun e w'=>e=.returned (.int .i64 (form s.ok))/\Below w.heap.size w w':=by
 have hb0:=Blk.new w 34 s.vals;have hB0:Below w.heap.size w (w.alloc (.cells s.vals.toArray 34)):=(Below.refl _ _).alloc (Nat.le_refl _) _;obtain⟨r0,-⟩:=Gg hb0;go_enter Tryz.func122,Tryz.ntmps122
 go_wp2_with fail;refine(Ais s _).mono ?_
 rintro e w1 ⟨rfl,hb⟩;have hB1:=Ad hB0 hb;clear hb hb0 r0 hB0;generalize h:s.ok=b;have H:=Zh h;clear h;cases b
 all_goals
  go_wp2;go_ret;exact⟨Ov (by rw[H.out];rfl),hB1⟩
end
structure Ata where
 kind:Int
 n:Int
 is:Bool
 s:List UInt8
instance:Inhabited Ata:=⟨⟨0,0,false,[]⟩⟩
theorem Wr.fresh (w:World):Wr (w.alloc (.cells #[.slice none 0 0] 195)) w.heap.size (.slice none 0 0) []:=⟨Blk.new _ _ _,World.ownsRow_nil _ _ _ _⟩
theorem Kl.below {g:Nat}{sv:Value}{l:List UInt8}{B:Nat}{w w':World}(h:Kl g sv l w w')(hg:B<=g)(hs:∀k,sv.ownBlock=some k->B<=k)(hB:B<=w.heap.size):Below B w w':=by
 obtain⟨_,_,_,ht⟩:=h;refine ht.below (fun k _ hf=>?_) hB
 rcases hf with rfl|hf
 ·exact hg
 ·exact hs k hf
section
open Go.ChangeShapes Go.WideShapes Go.ChangeAt Go.RowKit Go.Deep
section
variable {H:Type} {enc:TypeId × Value->H} {P:Program} {w:World} {base:Nat} {spare:Nat->Bool} {held:Bool}
theorem Uf {t:TypeId}{fs:Array Field}{fuel:Nat}{cs:List Value}{x:DataW H × List MemPlace}(ht:P.underlying t=some (.struct fs))(h:DataW.trod enc P w base spare held fuel t cs=some x)
  (i:Nat) (f:Field) (hi:fs[i]?=some f):∃n y,DataW.trod enc P w base spare held n f.type ((cs.drop f.offset).take (P.cellsOf f.type))=some y:=by
 obtain⟨xs,n,_,_,_,hlen,hf⟩:=DataW.trod_struct ht h;have hi':i<xs.length:=by rw[hlen];exact(Array.getElem?_eq_some_iff.1 hi).1
 exact⟨n,xs[i],(hf i f hi).trans (List.getElem?_eq_getElem hi')⟩
theorem N7 {t:TypeId}{fs:Array Field}{fuel:Nat}{cs:List Value}{x:DataW H × List MemPlace}(ht:P.underlying t=some (.struct fs))(h:DataW.trod enc P w base spare held fuel t cs=some x):cs.length=P.cellsOf t:=by
 obtain⟨xs,n,_,_,hl,_,_⟩:=DataW.trod_struct ht h;exact hl
theorem drop_take {α:Type}{cs p:List α}{o k:Nat}(h:(cs.drop o).take k=p):cs.drop o=p++cs.drop (o+k):=by
 rw[<-h,<-List.drop_drop,List.take_append_drop]
theorem Cb {t e:TypeId}{fs:Array Field}{fuel:Nat}{cs:List Value}{x:DataW H × List MemPlace}(ht:P.underlying t=some (.struct fs))(h:DataW.trod enc P w base spare held fuel t cs=some x)
  (i o:Nat) (f:Field) (hi:fs[i]?=some f) (hT:f.type=e) (ho:f.offset=o) (hc:P.cellsOf e=1) {k:IntKind} (hk:P.underlying e=some (.int k)):∃z,cs.drop o=.int k z::cs.drop (o+1)/\(Lit.int k z).wf=true:=by
 obtain⟨n,y,hy⟩:=Uf ht h i f hi;subst hT ho;rw[hc]at hy;obtain⟨z,hz,_,hw⟩:=DataW.trod_int hk hy;exact⟨z,drop_take hz,hw⟩
theorem Tw {t e:TypeId}{fs:Array Field}{fuel:Nat}{cs:List Value}{x:DataW H × List MemPlace}(ht:P.underlying t=some (.struct fs))(h:DataW.trod enc P w base spare held fuel t cs=some x)
  (i o:Nat) (f:Field) (hi:fs[i]?=some f) (hT:f.type=e) (ho:f.offset=o) (hc:P.cellsOf e=1) (hk:P.underlying e=some .bool):∃z,cs.drop o=.bool z::cs.drop (o+1):=by
 obtain⟨n,y,hy⟩:=Uf ht h i f hi;subst hT ho;rw[hc]at hy;obtain⟨z,hz,_⟩:=DataW.trod_bool hk hy;exact⟨z,drop_take hz⟩
theorem Ek {t e:TypeId}{fs:Array Field}{fuel:Nat}{cs:List Value}{x:DataW H × List MemPlace}(ht:P.underlying t=some (.struct fs))(h:DataW.trod enc P w base spare held fuel t cs=some x)
  (i o:Nat) (f:Field) (hi:fs[i]?=some f) (hT:f.type=e) (ho:f.offset=o) (hc:P.cellsOf e=1) (hk:P.underlying e=some .string):∃z:ByteArray,cs.drop o=.string z::cs.drop (o+1)/\z.size<=maxLen:=by
 obtain⟨n,y,hy⟩:=Uf ht h i f hi;subst hT ho;rw[hc]at hy;obtain⟨z,hz,_,hm⟩:=DataW.trod_string hk hy;exact⟨z,drop_take hz,hm⟩
theorem D4 {t e:TypeId}{fs:Array Field}{fuel:Nat}{cs:List Value}{x:DataW H × List MemPlace}(ht:P.underlying t=some (.struct fs))(h:DataW.trod enc P w base spare held fuel t cs=some x)
  (i o k:Nat) (f:Field) (hi:fs[i]?=some f) (hT:f.type=e) (ho:f.offset=o) (hc:P.cellsOf e=k):∃ps m y,cs.drop o=ps++cs.drop (o+k)/\DataW.trod enc P w base spare held m e ps=some y:=by
 obtain⟨n,y,hy⟩:=Uf ht h i f hi;subst hT ho;rw[hc]at hy;exact⟨_,n,y,drop_take rfl,hy⟩
theorem Nq {t e el:TypeId}{fs:Array Field}{fuel:Nat}{cs:List Value}{x:DataW H × List MemPlace}(ht:P.underlying t=some (.struct fs))(h:DataW.trod enc P w base spare held fuel t cs=some x)
  (i o:Nat) (f:Field) (hi:fs[i]?=some f) (hT:f.type=e) (ho:f.offset=o) (hc:P.cellsOf e=1) (hk:P.underlying e=some (.slice el)) :
  ∃A n c m y,cs.drop o=.slice A n c::cs.drop (o+1)/\n<=maxLen/\DataW.trod enc P w base spare held m e [.slice A n c]=some y/\∀p∈y.2,p∈x.2:=by
 obtain⟨xs,m,_,hx,_,hlen,hf⟩:=DataW.trod_struct ht h;have hi':i<xs.length:=by rw[hlen];exact(Array.getElem?_eq_some_iff.1 hi).1
 have hy:=(hf i f hi).trans (List.getElem?_eq_getElem hi');have hpl:∀p∈xs[i].2,p∈x.2:=fun p hp=>by rw[hx];exact List.mem_flatMap.2 ⟨_,List.getElem_mem hi',hp⟩
 subst hT ho;rw[hc]at hy;rcases open_slice hk hy with ⟨hcs,_⟩|⟨a,len,cap,_,_,_,_,hcs,_,hl,hm,_⟩
 ·rw[hcs]at hy
  exact⟨none,0,0,m,_,drop_take hcs,Nat.zero_le _,hy,hpl⟩
 ·rw[hcs]at hy
  exact⟨some a,len,cap,m,_,drop_take hcs,Nat.le_trans hl hm,hy,hpl⟩
theorem Ajr {t e:TypeId}{fuel:Nat}{A:Option Addr}{n c:Nat}{y:DataW H × List MemPlace}(ht:P.underlying t=some (.slice e))(h:DataW.trod enc P w base spare held fuel t [.slice A n c]=some y):n<=maxLen:=by
 rcases open_slice ht h with ⟨hcs,_⟩|⟨a,len,cap,_,_,_,_,hcs,_,hl,hm,_⟩
 ·simp only[List.cons.injEq,Value.slice.injEq,and_true]at hcs
  obtain⟨rfl,rfl,rfl⟩:=hcs;exact Nat.zero_le _
 ·simp only[List.cons.injEq,Value.slice.injEq,and_true]at hcs
  obtain⟨rfl,rfl,rfl⟩:=hcs;exact Nat.le_trans hl hm
theorem Ab1 {α:Type}[Inhabited α]{t e:TypeId}{fuel:Nat}{A:Option Addr}{n c sz:Nat}{y:DataW H × List MemPlace}(ht:P.underlying t=some (.slice e))(hc:P.cellsOf e=sz)(h0:0<sz)(vals:α->List Value)(C9:α->Prop)(hlt:∀p∈y.2,p.block<w.heap.size)
  (hop:∀(m:Nat) (cs:List Value) (x:DataW H × List MemPlace),(∀p∈x.2,p.block<w.heap.size)->DataW.trod enc P w base spare held m e cs=some x->∃a:α,cs=vals a/\C9 a)
  (h:DataW.trod enc P w base spare held fuel t [.slice A n c]=some y):∃l:List α,n=l.length/\At w sz A (l.map vals)/\∀a∈l,C9 a:=by
 rcases open_slice ht h with ⟨hcs,_⟩|⟨a,len,cap,m,n',D,Pl,hcs,_,hl,hm,hmm,hy,hi⟩
 ·simp only[List.cons.injEq,Value.slice.injEq,and_true]at hcs
  obtain⟨rfl,rfl,rfl⟩:=hcs;exact⟨[],rfl,At.nil,fun a ha=>by simp at ha⟩
 ·simp only[List.cons.injEq,Value.slice.injEq,and_true]at hcs
  obtain⟨rfl,rfl,rfl⟩:=hcs;have hle:n<=m:=by rw[hmm];split<;>omega
  have hpl:∀i,i<m->∀p∈Pl i,p.block<w.heap.size:=fun i hi p hp=>hlt p (by
   rw[hy];exact List.mem_append_right _ (List.mem_flatMap.2 ⟨i,List.mem_range.2 hi,hp⟩))
  obtain⟨f,hf⟩:=choose_lt (α:=α) (n:=n) (p:=fun i b=>w.cells? base (a.add (i*sz)) sz=some (vals b)/\C9 b) (fun i hin=>by
   obtain⟨cs',h1,h2⟩:=hi i (by omega);obtain⟨b,rfl,hg⟩:=hop _ _ _ (hpl i (by omega)) h2;rw[hc]at h1;exact⟨b,h1,hg⟩)
  refine⟨(List.range n).map f,by simp,?_,fun b hb=>?_⟩
  ·intro i r hr
   simp only[List.map_map,List.getElem?_map,Option.map_eq_some_iff]at hr;obtain⟨j,hj,rfl⟩:=hr;have hj':i<n/\j=i:=by
    rcases Nat.lt_or_ge i n with h|h
    ·rw[List.getElem?_range h]at hj;exact⟨h,by simpa using hj.symm⟩
    ·rw[List.getElem?_eq_none (by simpa using h)]at hj;cases hj
   obtain⟨hin,rfl⟩:=hj';obtain⟨h1,_⟩:=hf j hin;obtain⟨hb0,hlen,hcell⟩:=World.cells?_some h1;have hx0:=hcell 0 (by omega);obtain⟨ab,ao,asp⟩:=a;have hsp:asp=none\/0<j*sz:=by
    rcases Nat.eq_zero_or_pos (j*sz) with h|h
    ·left
     rw[h]at hx0;simp only[Addr.add,if_true]at hx0;have:=World.cell?_spot (hx0.trans (List.getElem?_eq_getElem (by omega)))
     simpa using this
    ·exact .inr h
   -- the slice's own address has no spot: its first element shows it
   have hsp0:asp=none:=by
    obtain⟨h2,_⟩:=hf 0 (by omega);obtain⟨_,hlen2,hcell2⟩:=World.cells?_some h2;have hx:=hcell2 0 (by omega);rw[Nat.zero_mul]at hx;simp only[Addr.add,if_true]at hx;have:=World.cell?_spot (hx.trans (List.getElem?_eq_getElem (by omega)))
    simpa using this
   subst hsp0;refine⟨ab,ao,rfl,?_,fun k u hu=>?_⟩
   ·have hx:=hx0.trans (List.getElem?_eq_getElem (by omega))
    rw[Addr.add_mid,Addr.add_mid]at hx;exact block_lt_of_cell hx
   ·have hk:k<sz:=by rw[<-hlen];exact(List.getElem?_eq_some_iff.1 hu).1
    have:=hcell k hk;rw[Addr.add_mid,Addr.add_mid]at this;exact this.trans hu
  ·obtain⟨i,hi',rfl⟩:=List.mem_map.1 hb
   exact(hf i (by simpa using hi')).2
end
section
variable {H:Type} {enc:TypeId × Value->H} {P:Program}
theorem Zx (hl:laidOutB P=true){W W':World}(hb:Below W.heap.size W W'):∀{ts:List TypeId} {vs:List Value} {ds:List (DataW H)} {ps:List MemPlace},(∀t∈ts,P.readableRec t=true/\t<P.types.size) ->
  DataW.TrodAll enc P W 0 (fun _=>true) true ts vs ds ps->DataW.TrodAll enc P W' 0 (fun b=>decide (b<W.heap.size)) true ts vs ds ps:=by
 intro ts
 induction ts with
 |nil=>
  intro vs ds ps _ h;obtain⟨rfl,rfl,rfl⟩:=trodAll_nil h;exact trodAll_mk0
 |cons t ts ih=>
  intro vs ds ps ht h;obtain⟨v,vs',d,ds',p,q,rfl,rfl,rfl,h1,h2⟩:=trodAll_cons h;have hr:=ht t (by simp);have lt1:∀x∈p,x.block<W.heap.size:=by obtain⟨m,hm⟩:=h1;exact DataW.trod_lt m _ _ _ hm
  exact trodAll_cons_mk (Below.trod hl hr.1 hr.2 h1 hb lt1) (ih (fun x hx=>ht x (by simp[hx])) h2)
theorem law_post {f:Func}{s:ChangeSpec}{W W':World}{args:Array Value}{ds gs:List (DataW H)}{before:List MemPlace}{tb:TypeId}(hl:laidOutB P=true)(hv:s.vars=[])
  (hW:DataW.Whole enc P f.params.toList s.vars false W args.toList ds gs before) (ht:∀t∈f.params.toList,P.readableRec t=true/\t<P.types.size) (hb:Below W.heap.size W W')
  (hrt:f.resultTypes=#[tb]) (htb:P.underlying tb=some .bool) (hr:(s.fn H (ds++gs)).results=[.lit (.bool true)]) (ha:(s.fn H (ds++gs)).args=ds) (hvs:(s.fn H (ds++gs)).vars=[]) :
  s.post enc P f false true false false W args (.bool true) W':=by
 have hW':=hW;obtain⟨p,q,hA,hV,rfl,hfz,hnd⟩:=hW;refine⟨ds,gs,p++q,[],p,[],hW',?_,?_,?_,hb.frame _,fun h=>by cases h⟩
 ·rw[hr,hrt];exact trodAll_mk1 (shut_bool htb _)
 ·rw[ha];exact Zx hl hb ht hA
 ·rw[hvs,hv];rfl
end
end
section
open Go.ChangeShapes Go.WideShapes Go.ChangeAt Go.RowKit Go.Deep
section
variable {H:Type} {enc:TypeId × Value->H} {w:World} {base:Nat} {spare:Nat->Bool} {held:Bool} {fuel:Nat} {cs:List Value} {x:DataW H × List MemPlace}
theorem Akm (h:DataW.trod enc Tryz.prog w base spare held fuel 43 cs=some x):∃a:Attr,cs=a.vals/\a.C9:=by
 have hl:cs.length=10:=(N7 Tryz.underlying43 h).trans (by kernel_rfl);obtain⟨z0,h0,g0⟩:=Cb Tryz.underlying43 h 0 0 _ rfl (e:=3) rfl rfl (by kernel_rfl) Tryz.underlying3;obtain⟨z1,h1,g1⟩:=Cb Tryz.underlying43 h 1 1 _ rfl (e:=3) rfl rfl (by kernel_rfl) Tryz.underlying3;obtain⟨z2,h2,g2⟩:=Cb Tryz.underlying43 h 2 2 _ rfl (e:=3) rfl rfl (by kernel_rfl) Tryz.underlying3;obtain⟨z3,h3,g3⟩:=Cb Tryz.underlying43 h 3 3 _ rfl (e:=3) rfl rfl (by kernel_rfl) Tryz.underlying3;obtain⟨z4,h4,g4⟩:=Cb Tryz.underlying43 h 4 4 _ rfl (e:=3) rfl rfl (by kernel_rfl) Tryz.underlying3;obtain⟨z5,h5,g5⟩:=Cb Tryz.underlying43 h 5 5 _ rfl (e:=3) rfl rfl (by kernel_rfl) Tryz.underlying3;obtain⟨z6,h6,g6⟩:=Cb Tryz.underlying43 h 6 6 _ rfl (e:=3) rfl rfl (by kernel_rfl) Tryz.underlying3;obtain⟨z7,h7,g7⟩:=Cb Tryz.underlying43 h 7 7 _ rfl (e:=3) rfl rfl (by kernel_rfl) Tryz.underlying3;obtain⟨z8,h8,g8⟩:=Cb Tryz.underlying43 h 8 8 _ rfl (e:=3) rfl rfl (by kernel_rfl) Tryz.underlying3;obtain⟨z9,h9,g9⟩:=Cb Tryz.underlying43 h 9 9 _ rfl (e:=3) rfl rfl (by kernel_rfl) Tryz.underlying3;have hend:cs.drop 10=[]:=List.drop_of_length_le (by omega);have e:cs=cs.drop 0:=rfl;simp only[Nat.reduceAdd]at h0 h1 h2 h3 h4 h5 h6 h7 h8 h9;refine⟨⟨z0,z1,z2,z3,z4,z5,z6,z7,z8,z9⟩,e.trans ?_,⟨g0,g1,g2,g3,g4,g5,g6,g7,g8,g9⟩⟩
 rw[h0,h1,h2,h3,h4,h5,h6,h7,h8,h9,hend];rfl
theorem Ny (h:DataW.trod enc Tryz.prog w base spare held fuel 32 cs=some x):∃a:Opt,cs=a.vals/\a.C9:=by
 have hl:cs.length=2:=(N7 Tryz.underlying32 h).trans (by kernel_rfl);obtain⟨z0,h0⟩:=Tw Tryz.underlying32 h 0 0 _ rfl (e:=4) rfl rfl (by kernel_rfl) Tryz.underlying4;obtain⟨z1,h1,g1⟩:=Cb Tryz.underlying32 h 1 1 _ rfl (e:=3) rfl rfl (by kernel_rfl) Tryz.underlying3;have hend:cs.drop 2=[]:=List.drop_of_length_le (by omega);have e:cs=cs.drop 0:=rfl;simp only[Nat.reduceAdd]at h0 h1;refine⟨⟨z0,z1⟩,e.trans ?_,g1⟩
 rw[h0,h1,hend];rfl
theorem Akk (h:DataW.trod enc Tryz.prog w base spare held fuel 34 cs=some x):∃a:Ac,cs=a.vals/\a.C9:=by
 have hl:cs.length=10:=(N7 Tryz.underlying34 h).trans (by kernel_rfl);obtain⟨ps0,m0,y0,h0,hs0⟩:=D4 Tryz.underlying34 h 0 0 2 _ rfl (e:=32) rfl rfl (by kernel_rfl);obtain⟨z0,rfl,g0⟩:=Ny hs0;obtain⟨ps1,m1,y1,h1,hs1⟩:=D4 Tryz.underlying34 h 1 2 2 _ rfl (e:=32) rfl rfl (by kernel_rfl);obtain⟨z1,rfl,g1⟩:=Ny hs1;obtain⟨ps2,m2,y2,h2,hs2⟩:=D4 Tryz.underlying34 h 2 4 2 _ rfl (e:=32) rfl rfl (by kernel_rfl);obtain⟨z2,rfl,g2⟩:=Ny hs2;obtain⟨ps3,m3,y3,h3,hs3⟩:=D4 Tryz.underlying34 h 3 6 2 _ rfl (e:=32) rfl rfl (by kernel_rfl);obtain⟨z3,rfl,g3⟩:=Ny hs3;obtain⟨ps4,m4,y4,h4,hs4⟩:=D4 Tryz.underlying34 h 4 8 2 _ rfl (e:=32) rfl rfl (by kernel_rfl);obtain⟨z4,rfl,g4⟩:=Ny hs4;have hend:cs.drop 10=[]:=List.drop_of_length_le (by omega);have e:cs=cs.drop 0:=rfl;simp only[Nat.reduceAdd]at h0 h1 h2 h3 h4;refine⟨⟨z0,z1,z2,z3,z4⟩,e.trans ?_,⟨g0,g1,g2,g3,g4⟩⟩
 rw[h0,h1,h2,h3,h4,hend];rfl
theorem R8 (h:DataW.trod enc Tryz.prog w base spare held fuel 45 cs=some x):∃a:Ah,cs=a.vals/\a.C9:=by
 have hl:cs.length=11:=(N7 Tryz.underlying45 h).trans (by kernel_rfl);obtain⟨z0,h0⟩:=Tw Tryz.underlying45 h 0 0 _ rfl (e:=4) rfl rfl (by kernel_rfl) Tryz.underlying4;obtain⟨ps1,m1,y1,h1,hs1⟩:=D4 Tryz.underlying45 h 1 1 10 _ rfl (e:=43) rfl rfl (by kernel_rfl);obtain⟨z1,rfl,g1⟩:=Akm hs1;have hend:cs.drop 11=[]:=List.drop_of_length_le (by omega);have e:cs=cs.drop 0:=rfl;simp only[Nat.reduceAdd]at h0 h1;refine⟨⟨z0,z1⟩,e.trans ?_,g1⟩
 rw[h0,h1,hend];rfl
theorem Ad8 (h:DataW.trod enc Tryz.prog w base spare held fuel 47 cs=some x):∃a:Wcc,cs=a.vals/\a.C9:=by
 have hl:cs.length=13:=(N7 Tryz.underlying47 h).trans (by kernel_rfl);obtain⟨ps0,m0,y0,h0,hs0⟩:=D4 Tryz.underlying47 h 0 0 2 _ rfl (e:=32) rfl rfl (by kernel_rfl);obtain⟨z0,rfl,g0⟩:=Ny hs0;obtain⟨ps1,m1,y1,h1,hs1⟩:=D4 Tryz.underlying47 h 1 2 11 _ rfl (e:=45) rfl rfl (by kernel_rfl);obtain⟨z1,rfl,g1⟩:=R8 hs1;have hend:cs.drop 13=[]:=List.drop_of_length_le (by omega);have e:cs=cs.drop 0:=rfl;simp only[Nat.reduceAdd]at h0 h1;refine⟨⟨z0,z1⟩,e.trans ?_,⟨g0,g1⟩⟩
 rw[h0,h1,hend];rfl
end
end
section
open Go.ChangeShapes Go.WideShapes Go.ChangeAt Go.RowKit Go.Deep
section
variable {H:Type} {enc:TypeId × Value->H} {w:World} {base:Nat} {spare:Nat->Bool} {held:Bool} {fuel:Nat} {cs:List Value} {x:DataW H × List MemPlace}
theorem Ag6 (h:DataW.trod enc Tryz.prog w base spare held fuel 126 cs=some x):∃a:Entry,cs=a.vals/\a.C9:=by
 have hl:cs.length=15:=(N7 Tryz.underlying126 h).trans (by kernel_rfl);obtain⟨z0,h0,g0⟩:=Cb Tryz.underlying126 h 0 0 _ rfl (e:=3) rfl rfl (by kernel_rfl) Tryz.underlying3;obtain⟨z1,h1,g1⟩:=Ek Tryz.underlying126 h 1 1 _ rfl (e:=9) rfl rfl (by kernel_rfl) Tryz.underlying9;obtain⟨z2,h2,g2⟩:=Cb Tryz.underlying126 h 2 2 _ rfl (e:=3) rfl rfl (by kernel_rfl) Tryz.underlying3;obtain⟨ps3,m3,y3,h3,hs3⟩:=D4 Tryz.underlying126 h 3 3 11 _ rfl (e:=45) rfl rfl (by kernel_rfl);obtain⟨z3,rfl,g3⟩:=R8 hs3;obtain⟨z4,h4,g4⟩:=Ek Tryz.underlying126 h 4 14 _ rfl (e:=9) rfl rfl (by kernel_rfl) Tryz.underlying9;have hend:cs.drop 15=[]:=List.drop_of_length_le (by omega);have e:cs=cs.drop 0:=rfl;simp only[Nat.reduceAdd]at h0 h1 h2 h3 h4;refine⟨⟨z0,z1.data.toList,z2,z3,z4.data.toList⟩,e.trans ?_,⟨g0,by simpa using g1,g2,g3,by simpa using g4⟩⟩
 rw[h0,h1,h2,h3,h4,hend];simp only[Entry.vals,Xs];rfl
theorem Akl (h:DataW.trod enc Tryz.prog w base spare held fuel 36 cs=some x):∃a:Call,cs=a.vals/\a.C9:=by
 have hl:cs.length=24:=(N7 Tryz.underlying36 h).trans (by kernel_rfl);obtain⟨z0,h0,g0⟩:=Cb Tryz.underlying36 h 0 0 _ rfl (e:=3) rfl rfl (by kernel_rfl) Tryz.underlying3;obtain⟨z1,h1,g1⟩:=Ek Tryz.underlying36 h 1 1 _ rfl (e:=9) rfl rfl (by kernel_rfl) Tryz.underlying9;obtain⟨z2,h2,g2⟩:=Ek Tryz.underlying36 h 2 2 _ rfl (e:=9) rfl rfl (by kernel_rfl) Tryz.underlying9;obtain⟨z3,h3,g3⟩:=Ek Tryz.underlying36 h 3 3 _ rfl (e:=9) rfl rfl (by kernel_rfl) Tryz.underlying9;obtain⟨z4,h4,g4⟩:=Ek Tryz.underlying36 h 4 4 _ rfl (e:=9) rfl rfl (by kernel_rfl) Tryz.underlying9;obtain⟨z5,h5,g5⟩:=Cb Tryz.underlying36 h 5 5 _ rfl (e:=3) rfl rfl (by kernel_rfl) Tryz.underlying3;obtain⟨z6,h6,g6⟩:=Cb Tryz.underlying36 h 6 6 _ rfl (e:=3) rfl rfl (by kernel_rfl) Tryz.underlying3;obtain⟨z7,h7,g7⟩:=Cb Tryz.underlying36 h 7 7 _ rfl (e:=3) rfl rfl (by kernel_rfl) Tryz.underlying3;obtain⟨z8,h8,g8⟩:=Ek Tryz.underlying36 h 8 8 _ rfl (e:=9) rfl rfl (by kernel_rfl) Tryz.underlying9;obtain⟨ps9,m9,y9,h9,hs9⟩:=D4 Tryz.underlying36 h 9 9 10 _ rfl (e:=34) rfl rfl (by kernel_rfl);obtain⟨z9,rfl,g9⟩:=Akk hs9;obtain⟨ps10,m10,y10,h10,hs10⟩:=D4 Tryz.underlying36 h 10 19 2 _ rfl (e:=32) rfl rfl (by kernel_rfl);obtain⟨z10,rfl,g10⟩:=Ny hs10;obtain⟨z11,h11,g11⟩:=Cb Tryz.underlying36 h 11 21 _ rfl (e:=3) rfl rfl (by kernel_rfl) Tryz.underlying3;obtain⟨z12,h12,g12⟩:=Cb Tryz.underlying36 h 12 22 _ rfl (e:=3) rfl rfl (by kernel_rfl) Tryz.underlying3;obtain⟨z13,h13,g13⟩:=Ek Tryz.underlying36 h 13 23 _ rfl (e:=9) rfl rfl (by kernel_rfl) Tryz.underlying9;have hend:cs.drop 24=[]:=List.drop_of_length_le (by omega);have e:cs=cs.drop 0:=rfl;simp only[Nat.reduceAdd]at h0 h1 h2 h3 h4 h5 h6 h7 h8 h9 h10 h11 h12 h13;refine⟨⟨z0,z1.data.toList,z2.data.toList,z3.data.toList,z4.data.toList,z5,z6,z7,z8.data.toList,z9,z10,z11,z12,z13.data.toList⟩,e.trans ?_,⟨g0,by simpa using g1,by simpa using g2,by simpa using g3,by simpa using g4,g5,g6,g7,by simpa using g8,g9,g10,g11,g12,by simpa using g13⟩⟩
 rw[h0,h1,h2,h3,h4,h5,h6,h7,h8,h9,h10,h11,h12,h13,hend];simp only[Call.vals,Xs];rfl
instance:Inhabited Held:=⟨⟨0,0,[]⟩⟩
instance:Inhabited Cached:=⟨⟨[],⟨0,0,0,0,0,0,0,0,0,0⟩⟩⟩
instance:Inhabited Atd:=⟨⟨[],[],[]⟩⟩
instance:Inhabited Asi:=⟨⟨[],0,0⟩⟩
instance:Inhabited Change:=⟨⟨0,0,0,[],[],[],⟨0,0,0,0,0,0,0,0,0,0⟩,0,0⟩⟩
instance:Inhabited Entry:=⟨⟨0,[],0,⟨false,⟨0,0,0,0,0,0,0,0,0,0⟩⟩,[]⟩⟩
end
end
end Go.Proofs.YtfjflkmhhbhceaaGreatDoor
