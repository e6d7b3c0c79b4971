/-
  Layer 3, walks: the program's laid, Make and what makes handles. Condition: machine numbers.
-/
import Derived.Test.YtfjflkmhhbhceaaGreatDoorO03
import Derived.Test.YtfjflkmhhbhceaaGreatDoorO10
import Derived.Test.YtfjflkmhhbhceaaGreatDoorO05
import Derived.Deep.CutRange
import Derived.Laws.Cover3
set_option maxRecDepth 20000
set_option maxHeartbeats 40000000
namespace Go.Proofs.YtfjflkmhhbhceaaGreatDoor
open Go.RowKit
attribute [local go_sem ↓] Go.wp_at_zero Go.wp_at_succ
attribute [local go_sem] Ai Ag Af Ab Aj
attribute [local go_sem] Bx.at0 Bx.Bo Bx.at1 Bx.Bk Bx.at2 Bx.Ca Bx.Aby Bx.Xq Bx.len
section
theorem Ars {ρ:Operand->Value}{w:World}{dst:Option Tmp}{ty:TypeId}{pos:String}{after:Array Edge}{g:Option (Nat × Bool)}{x:Operand}(h:(rowAt w 16 (ρ x)).isSome=true) :
  (execOp ρ ⟨dst,.load 235 x,ty,pos,after,g⟩).run Tryz.prog w=.ok (.value (.agg ((rowAt w 16 (ρ x)).getD #[]))) w:=D8 235 16 Tryz.underlying235 rfl (by kernel_rfl) h
theorem Ai3 {ρ:Operand->Value}{w:World}{dst:Option Tmp}{ty:TypeId}{pos:String}{after:Array Edge}{g:Option (Nat × Bool)}{x:Operand}(h:(rowAt w 3 (ρ x)).isSome=true) :
  (execOp ρ ⟨dst,.load 182 x,ty,pos,after,g⟩).run Tryz.prog w=.ok (.value (.agg ((rowAt w 3 (ρ x)).getD #[]))) w:=D8 182 3 Tryz.underlying182 rfl (by kernel_rfl) h
theorem Aru (a:Option Addr)(c:Nat)(w:World):(Instr.arrayAt 235 (.slice a 16 c)).run Tryz.prog w=.ok (.pointer a) w:=run_arrayAt w 235 _ 16 a 16 c Tryz.underlying235 (Nat.le_refl _)
attribute [local go_sem ↓] Ars Ai3 Aru
theorem Aox.row {w:World}{g:Nat}{t:TypeId}{cs:List Value}(h:Aox w g t cs)(o n:Nat)(hn:o+n<=cs.length):rowOf w g o n=some ((cs.drop o).take n).toArray:=by
 obtain⟨m,_,h⟩:=h;unfold rowOf;simp only[h];rw[if_pos (by simpa using hn)];simp
def Gh (l:List UInt8):List Value:=l.map u8
theorem Mo (l:List UInt8):∀v∈Gh l,v.oneCell'=true:=Al1 l
def z16:List UInt8:=List.replicate 16 0
def Z6 (p:Bx):List UInt8:=if p.Sh then fhB p else z16
theorem Ame (p:Bx):(Z6 p).length=16:=by
 unfold Z6;split
 ·exact Acp p
 ·rfl
def Qt (p:Bx)(w:World)(e:Ending)(w':World):Prop:=e=.returned (.tuple #[.agg (Gh (Z6 p)).toArray,.bool p.Sh])/\Below w.heap.size w w'
theorem Qt.no {p:Bx}{w w':World}(h:p.Sh=false)(hb:Below w.heap.size w w'):Qt p w (.returned (.tuple #[.agg (Gh z16).toArray,.bool false])) w':=by
 refine⟨?_,hb⟩
 rw[h,Z6,if_neg (by rw[h];exact Bool.false_ne_true)]
theorem Qt.yes {p:Bx}{w w':World}(h:p.Sh=true)(hb:Below w.heap.size w w'):Qt p w (.returned (.tuple #[.agg (Gh (fhB p)).toArray,.bool true])) w':=by
 refine⟨?_,hb⟩
 rw[h,Z6,if_pos h]
theorem Ai4 {p:Bx}{k a b:Nat}(hk:p.kind=(k:Int))(ha:p.a=(a:Int))(hb:p.b=(b:Int)):[]++num (k*16777216) 4++num a 4++num b 8=fhB p:=by
 unfold fhB;rw[hk,ha,hb,Int.toNat_natCast,Int.toNat_natCast,Int.toNat_natCast,List.nil_append]
structure Arj (p:Bx) (w:World) (l:List UInt8) (sv:Value) (W:World):Prop where
 bp:Blk W w.heap.size 182 p.vals
 bz:Blk W (w.heap.size+1) 235 (Gh z16)
 wr:Wr W (w.heap.size+1+1) sv l
 own:∀k,sv.ownBlock=some k->w.heap.size<=k
 bel:Below w.heap.size w W
theorem Arj.next {p:Bx}{w W W':World}{l l':List UInt8}{sv:Value}(h:Arj p w l sv W)(hm:Kl (w.heap.size+1+1) sv l' W W'):∃sv',Arj p w l' sv' W':=by
 obtain⟨sv',hw,hr,ht⟩:=hm;refine⟨sv',h.wr.keeps h.bp (by decide) (by decide) ht,h.wr.keeps h.bz (by decide) (by decide) ht,hw,fun k hk=>?_,?_⟩
 ·rcases hr k hk with h1|h1
  ·exact h.own k h1
  ·exact Nat.le_trans h.bel.size h1
 ·refine h.bel.trans (ht.below (fun k _ hf=>?_) h.bel.size)
  rcases hf with rfl|hf
  ·omega
  ·exact h.own k hf
theorem Ahq (p:Bx)(w:World)(ha:-9223372036854775808<=p.a/\p.a<=9223372036854775807)(hb:p.b<=9223372036854775807):Calls Tryz.prog 178 #[.agg p.vals.toArray] w (Qt p w):=by
 obtain⟨hP,hZ,hW,hB,hsz⟩:=O4 w p.vals (Gh z16) [.slice none 0 0] 182 235 195;have hS:Arj p w [] (.slice none 0 0) (((w.alloc (.cells p.vals.toArray 182)).alloc (.cells (Gh z16).toArray 235)).alloc (.cells [.slice none 0 0].toArray 195)):=
  ⟨hP,hZ,⟨hW,World.ownsRow_nil _ _ _ _⟩,(fun k h=>by cases h),hB⟩
 clear hP hZ hW hB hsz;go_enter Tryz.func178,Tryz.ntmps178
 go_upto_region 2 with fail;change Code.wp _ _ _ _ (((w.alloc (.cells p.vals.toArray 182)).alloc (.cells (Gh z16).toArray 235)).alloc (.cells [.slice none 0 0].toArray 195));generalize ((w.alloc (.cells p.vals.toArray 182)).alloc (.cells (Gh z16).toArray 235)).alloc (.cells [.slice none 0 0].toArray 195)=w1 at *;have f0:w1.cell? ⟨w.heap.size,0,none⟩=some (.int .i64 p.kind):=hS.bp.cell 0;by_cases hk:p.kind=1\/p.kind=2
 case neg=>
  have hm:p.Sh=false:=by rw[<-Bool.not_eq_true,Bx.N6];exact fun h=>hk h.1
  have d1:(p.kind != 1)=true:=by simp;omega
  have d2:(p.kind != 2)=true:=by simp;omega
  have HS:=Zh hS;have HM:=Zh hm;clear hS hm hk
  go_wp2_with (first|(refine Ae (by rfl) 235 _ _ (by rfl) (w.heap.size+1) (Gh z16) _ HS.out.bz (by rfl) (by rfl) (by rfl) (by kernel_rfl) (Mo _) ?_)|fail)
  exact Ap (w.heap.size+1) 0 (Gh z16) (.bool false) Tryz.results178 Tryz.underlying235 rfl (by kernel_rfl) rfl rfl (HS.out.bz.whole (by rfl)).range rfl (Qt.no HM.out (Below.Bf HS.out.bel (by omega) _))
 obtain⟨kn,hkn⟩:∃kn:Nat,p.kind=(kn:Int):=⟨p.kind.toNat,by omega⟩;have hk12:kn=1\/kn=2:=by omega
 have hsh:IntKind.i64.wrap ((kn:Int)*16777216)=((kn*16777216:Nat):Int):=by rw[IntWalk.i64_in _ (by omega)];omega
 rw[hkn]at f0;have K1:=Zh (Is (w.heap.size+1+1) (.slice none 0 0) [] (kn*16777216) w1 hS.wr (by omega) (by simp));have HS:=Zh hS;have HK:=Zh hkn;have HK2:=Zh hk;obtain⟨n2,hn2⟩:∃n2,n2=kn*16777216:=⟨_,rfl⟩;rw[<-hn2]at hsh K1;have HN2:=Zh hn2;clear hS hk hkn hn2;rcases hk12 with hk12|hk12
 all_goals have d1:((kn:Int) != 1)=decide (kn=2):=by subst hk12;rfl
 all_goals have d2:((kn:Int) != 2)=decide (kn=1):=by subst hk12;rfl
 ·rw[decide_eq_false (by omega)]at d1
  clear d2 hk12;go_wp2_with fail;refine K1.out.mono ?_
  rintro e w2 ⟨rfl,hM⟩;obtain⟨sv2,hS2⟩:=HS.out.next hM;have f1:=hS2.bp.cell 1;clear hM f0 hsh;by_cases hA:p.a<0\/4294967296<=p.a
  ·have HM:=Zh (show p.Sh=false by rw[<-Bool.not_eq_true,Bx.N6];exact fun h=>by omega)
   have K2:=Zh (Ac6 (w.heap.size+1+1) p.a w2 hA ha);have HS2:=Zh hS2;clear hS2 hA;go_wp2_with fail;refine K2.out.mono ?_
   rintro e w3 ⟨rfl,rfl⟩
   go_wp2_with (first|(refine Ae (by rfl) 235 _ _ (by rfl) (w.heap.size+1) (Gh z16) _ HS2.out.bz (by rfl) (by rfl) (by rfl) (by kernel_rfl) (Mo _) ?_)|fail)
   exact Ap (w.heap.size+1) 0 (Gh z16) (.bool false) Tryz.results178 Tryz.underlying235 rfl (by kernel_rfl) rfl rfl (HS2.out.bz.whole (by rfl)).range rfl (Qt.no HM.out (Below.Bf HS2.out.bel (by omega) _))
  obtain⟨an,han⟩:∃an:Nat,p.a=(an:Int):=⟨p.a.toNat,by omega⟩;have K2:=Zh (Is (w.heap.size+1+1) sv2 _ an w2 hS2.wr (by omega) (by simp[Ce]));have HS2:=Zh hS2;have HAN:=Zh (And.intro han hA);rw[Bx.Bk,han]at f1;clear hS2 hA han ha;go_wp2_with fail;refine K2.out.mono ?_
  rintro e w3 ⟨rfl,hM⟩;obtain⟨sv3,hS3⟩:=HS2.out.next hM;have f2:=hS3.bp.cell 2;clear hM f1;by_cases hB0:p.b<0
  ·have HM:=Zh (show p.Sh=false by rw[<-Bool.not_eq_true,Bx.N6];exact fun h=>by omega)
   have K3:=Zh (Ac5 (w.heap.size+1+1) p.b w3 hB0);have HS3:=Zh hS3;clear hS3 hB0;go_wp2_with fail;refine K3.out.mono ?_
   rintro e w4 ⟨rfl,rfl⟩
   go_wp2_with (first|(refine Ae (by rfl) 235 _ _ (by rfl) (w.heap.size+1) (Gh z16) _ HS3.out.bz (by rfl) (by rfl) (by rfl) (by kernel_rfl) (Mo _) ?_)|fail)
   exact Ap (w.heap.size+1) 0 (Gh z16) (.bool false) Tryz.results178 Tryz.underlying235 rfl (by kernel_rfl) rfl rfl (HS3.out.bz.whole (by rfl)).range rfl (Qt.no HM.out (Below.Bf HS3.out.bel (by omega) _))
  obtain⟨bn,hbn⟩:∃bn:Nat,p.b=(bn:Int):=⟨p.b.toNat,by omega⟩;have K3:=Zh (Pm (w.heap.size+1+1) sv3 _ bn w3 hS3.wr (by omega) (by simp[Ce]));have HS3:=Zh hS3;have HM:=Zh (show p.Sh=true from (Bx.N6 p).2 ⟨HK2.out,by have:=HAN.out;omega,by omega⟩);have HL:=Zh (show []++num n2 4++num an 4++num bn 8=fhB p from HN2.out ▸ Ai4 HK.out HAN.out.1 hbn);rw[Bx.Ca,hbn]at f2;clear hS3 hB0 hbn hb;go_wp2_with fail;refine K3.out.mono ?_
  rintro e w4 ⟨rfl,hM⟩;rw[HL.out]at hM;obtain⟨sv4,hS4⟩:=HS3.out.next hM;have K4:=Zh (Ld (w.heap.size+1+1) sv4 (fhB p) w4 hS4.wr);have h16:=Acp p;obtain⟨v5,w5,hrun,hRB,hb5⟩:=Ari.of_string (P:=Tryz.prog) w4 9 124 (fhB p) Tryz.underlying9 Tryz.underlying124 Tryz.underlying5;obtain⟨g,cs,rfl,hg,hlc,hblk,htk⟩:∃g cs,v5=.slice (some ⟨g,0,none⟩) (fhB p).length cs.length/\w4.heap.size<=g/\(fhB p).length<=cs.length/\Aox w5 g 5 cs/\cs.take (fhB p).length=Gh (fhB p):=by
   rcases hRB with ⟨_,h⟩|h
   ·rw[h]at h16;simp at h16
   ·exact h
  rw[h16]at hrun hlc htk;have hrow:=hblk.row 0 16 (by omega);rw[List.drop_zero,htk]at hrow;have HZ5:=Zh (hS4.bz.stays hb5);have HB5:=Zh (hS4.bel.trans (hb5.mono hS4.bel.size));clear hM f2 hRB hb5 hblk htk hg hS4 hlc K1 K2 K3;go_wp2_with fail;refine K4.out.mono ?_
  rintro e w6 ⟨rfl,rfl⟩;have hlen16:(Gh z16).length=(Gh (fhB p)).length:=by simp[Gh,z16,h16]
  have hinf:(Tryz.prog.info? 235).map (·.size)=some (Gh (fhB p)).length:=by
   rw[show (Gh (fhB p)).length=16 by simp[Gh,h16]]
   kernel_rfl
  have HI:=Zh (And.intro hlen16 hinf);clear hlen16 hinf h16;have HY:=Zh (fun (W:World) (hb:Below w.heap.size w W)=>Qt.yes (p:=p) HM.out hb);generalize fhB p=F at *
  go_wp2_with (first|(refine Ae (by rfl) 235 _ _ (by rfl) (w.heap.size+1) (Gh F) _ HZ5.out HI.out.1 (by rfl) (by rfl) HI.out.2 (Mo _) ?_)|fail)
  exact Ap (w.heap.size+1) 0 (Gh F) (.bool true) Tryz.results178 Tryz.underlying235 rfl HI.out.2 rfl rfl (HZ5.out.whole HI.out.1).range rfl (HY.out _ (Below.Bf HB5.out (by omega) _))
 ·rw[decide_eq_true (by omega)]at d1
  rw[decide_eq_false (by omega)]at d2;clear hk12;go_wp2_with fail;refine K1.out.mono ?_
  rintro e w2 ⟨rfl,hM⟩;obtain⟨sv2,hS2⟩:=HS.out.next hM;have f1:=hS2.bp.cell 1;clear hM f0 hsh;by_cases hA:p.a<0\/4294967296<=p.a
  ·have HM:=Zh (show p.Sh=false by rw[<-Bool.not_eq_true,Bx.N6];exact fun h=>by omega)
   have K2:=Zh (Ac6 (w.heap.size+1+1) p.a w2 hA ha);have HS2:=Zh hS2;clear hS2 hA;go_wp2_with fail;refine K2.out.mono ?_
   rintro e w3 ⟨rfl,rfl⟩
   go_wp2_with (first|(refine Ae (by rfl) 235 _ _ (by rfl) (w.heap.size+1) (Gh z16) _ HS2.out.bz (by rfl) (by rfl) (by rfl) (by kernel_rfl) (Mo _) ?_)|fail)
   exact Ap (w.heap.size+1) 0 (Gh z16) (.bool false) Tryz.results178 Tryz.underlying235 rfl (by kernel_rfl) rfl rfl (HS2.out.bz.whole (by rfl)).range rfl (Qt.no HM.out (Below.Bf HS2.out.bel (by omega) _))
  obtain⟨an,han⟩:∃an:Nat,p.a=(an:Int):=⟨p.a.toNat,by omega⟩;have K2:=Zh (Is (w.heap.size+1+1) sv2 _ an w2 hS2.wr (by omega) (by simp[Ce]));have HS2:=Zh hS2;have HAN:=Zh (And.intro han hA);rw[Bx.Bk,han]at f1;clear hS2 hA han ha;go_wp2_with fail;refine K2.out.mono ?_
  rintro e w3 ⟨rfl,hM⟩;obtain⟨sv3,hS3⟩:=HS2.out.next hM;have f2:=hS3.bp.cell 2;clear hM f1;by_cases hB0:p.b<0
  ·have HM:=Zh (show p.Sh=false by rw[<-Bool.not_eq_true,Bx.N6];exact fun h=>by omega)
   have K3:=Zh (Ac5 (w.heap.size+1+1) p.b w3 hB0);have HS3:=Zh hS3;clear hS3 hB0;go_wp2_with fail;refine K3.out.mono ?_
   rintro e w4 ⟨rfl,rfl⟩
   go_wp2_with (first|(refine Ae (by rfl) 235 _ _ (by rfl) (w.heap.size+1) (Gh z16) _ HS3.out.bz (by rfl) (by rfl) (by rfl) (by kernel_rfl) (Mo _) ?_)|fail)
   exact Ap (w.heap.size+1) 0 (Gh z16) (.bool false) Tryz.results178 Tryz.underlying235 rfl (by kernel_rfl) rfl rfl (HS3.out.bz.whole (by rfl)).range rfl (Qt.no HM.out (Below.Bf HS3.out.bel (by omega) _))
  obtain⟨bn,hbn⟩:∃bn:Nat,p.b=(bn:Int):=⟨p.b.toNat,by omega⟩;have K3:=Zh (Pm (w.heap.size+1+1) sv3 _ bn w3 hS3.wr (by omega) (by simp[Ce]));have HS3:=Zh hS3;have HM:=Zh (show p.Sh=true from (Bx.N6 p).2 ⟨HK2.out,by have:=HAN.out;omega,by omega⟩);have HL:=Zh (show []++num n2 4++num an 4++num bn 8=fhB p from HN2.out ▸ Ai4 HK.out HAN.out.1 hbn);rw[Bx.Ca,hbn]at f2;clear hS3 hB0 hbn hb;go_wp2_with fail;refine K3.out.mono ?_
  rintro e w4 ⟨rfl,hM⟩;rw[HL.out]at hM;obtain⟨sv4,hS4⟩:=HS3.out.next hM;have K4:=Zh (Ld (w.heap.size+1+1) sv4 (fhB p) w4 hS4.wr);have h16:=Acp p;obtain⟨v5,w5,hrun,hRB,hb5⟩:=Ari.of_string (P:=Tryz.prog) w4 9 124 (fhB p) Tryz.underlying9 Tryz.underlying124 Tryz.underlying5;obtain⟨g,cs,rfl,hg,hlc,hblk,htk⟩:∃g cs,v5=.slice (some ⟨g,0,none⟩) (fhB p).length cs.length/\w4.heap.size<=g/\(fhB p).length<=cs.length/\Aox w5 g 5 cs/\cs.take (fhB p).length=Gh (fhB p):=by
   rcases hRB with ⟨_,h⟩|h
   ·rw[h]at h16;simp at h16
   ·exact h
  rw[h16]at hrun hlc htk;have hrow:=hblk.row 0 16 (by omega);rw[List.drop_zero,htk]at hrow;have HZ5:=Zh (hS4.bz.stays hb5);have HB5:=Zh (hS4.bel.trans (hb5.mono hS4.bel.size));clear hM f2 hRB hb5 hblk htk hg hS4 hlc K1 K2 K3;go_wp2_with fail;refine K4.out.mono ?_
  rintro e w6 ⟨rfl,rfl⟩;have hlen16:(Gh z16).length=(Gh (fhB p)).length:=by simp[Gh,z16,h16]
  have hinf:(Tryz.prog.info? 235).map (·.size)=some (Gh (fhB p)).length:=by
   rw[show (Gh (fhB p)).length=16 by simp[Gh,h16]]
   kernel_rfl
  have HI:=Zh (And.intro hlen16 hinf);clear hlen16 hinf h16;have HY:=Zh (fun (W:World) (hb:Below w.heap.size w W)=>Qt.yes (p:=p) HM.out hb);generalize fhB p=F at *
  go_wp2_with (first|(refine Ae (by rfl) 235 _ _ (by rfl) (w.heap.size+1) (Gh F) _ HZ5.out HI.out.1 (by rfl) (by rfl) HI.out.2 (Mo _) ?_)|fail)
  exact Ap (w.heap.size+1) 0 (Gh F) (.bool true) Tryz.results178 Tryz.underlying235 rfl HI.out.2 rfl rfl (HZ5.out.whole HI.out.1).range rfl (HY.out _ (Below.Bf HB5.out (by omega) _))
end
section
attribute [local go_sem ↓] Ars Ai3 Aru
theorem Ags {w:World}{b:Nat}{l:List UInt8}(h:Blk w b 235 (Gh l))(h16:l.length=16):(convert 124 9 (.slice (some ⟨b,0,none⟩) 16 16)).run Tryz.prog w=.ok (.string (bs l)) w:=by
 have:=run_convert_bytes_arg (P:=Tryz.prog) w 124 5 Tryz.underlying124 Tryz.underlying5 b 0 l.length 16 (l.map fun b=>(b.toNat:Int)) (by simp) (fun i hi=>by
  rw[Nat.zero_add,h.cell];simp[Gh,u8,hi]) 9 Tryz.underlying9
 rw[h16]at this;rw[this,strOf]
theorem Aqe:(Tryz.prog.info? 235).map (fun i=>(i.zero,i.size))=some (some (.agg (Gh z16).toArray),16):=by kernel_rfl
def Bx.As1 (p:Bx):Prop:=(-9223372036854775808<=p.a/\p.a<=9223372036854775807)/\p.b<=9223372036854775807
theorem Amd (l:List UInt8):(Gh l).length=l.length:=by simp[Gh]
theorem Ahp (p:Bx)(w:World)(hp:p.As1):Calls Tryz.prog 155 #[.agg p.vals.toArray] w fun e w'=>e=.returned (.string (bs (To p)))/\Below w.heap.size w w':=by
 have hP:=Blk.new w 182 p.vals;have hB:Below w.heap.size w (w.alloc (.cells p.vals.toArray 182)):=(Below.refl _ _).alloc (Nat.le_refl _) _;have hrow:=hP.row 0 3 (by simp[Bx.len]);have HL:=Zh (fun W=>Ahq p W hp.1 hp.2);have HB:=Zh hB;have HF:=Zh (show To p=if p.Sh then Z6 p else [] by
  unfold To Z6;split<;>rfl)
 have h16:=Ame p;generalize To p=R at *;clear hP hB;go_enter Tryz.func155,Tryz.ntmps155
 go_upto_region 1 with fail;change Code.wp _ _ _ _ (w.alloc (.cells p.vals.toArray 182));generalize w.alloc (.cells p.vals.toArray 182)=w1 at *;rw[show (p.vals.drop 0).take 3=p.vals from rfl]at hrow;go_wp2_with fail;refine(HL.out _).mono ?_
 rintro e w2 ⟨rfl,hb2⟩;have HB2:=Zh (Ad HB.out hb2);have HS:=Zh (Ags (Blk.new w2 235 (Gh (Z6 p))) h16);have HI:=Zh (And.intro (Amd (Z6 p)) h16);have hstr:=HS.out;clear hb2 hrow HB h16 HS;generalize Z6 p=F at *;generalize p.Sh=M at *;have HBW:=Zh (fun (o:Obj)=>HB2.out.alloc HB2.out.size o)
 go_upto_region 2 with (first|(refine Dh (by rfl) (by rfl) 235 (by rfl) _ _ (by rfl) (Gh F) Aqe (by rw[HI.out.1,HI.out.2]) (by rfl) (Mo _) (by rfl) (by rfl) ?_)|fail)
 cases M with
 |false=>
  go_wp2;go_ret;exact⟨by rw[HF.out];rfl,HBW.out _⟩
 |true=>
  go_wp2;go_ret;exact⟨by rw[HF.out];rfl,HBW.out _⟩
def Rr (p:Bx):List UInt8:=if p.a<1\/p.b<1 then [] else To p
theorem Aei (p:Bx)(w:World)(hp:p.As1):Calls Tryz.prog 112 #[.agg p.vals.toArray] w fun e w'=>e=.returned (.string (bs (Rr p)))/\Below w.heap.size w w':=by
 have hP:=Blk.new w 182 p.vals;have hB:Below w.heap.size w (w.alloc (.cells p.vals.toArray 182)):=(Below.refl _ _).alloc (Nat.le_refl _) _;have hrow:=hP.row 0 3 (by simp[Bx.len]);have f1:(w.alloc (.cells p.vals.toArray 182)).cell? ⟨w.heap.size,1,none⟩=some (.int .i64 p.a):=hP.cell 1;have f2:(w.alloc (.cells p.vals.toArray 182)).cell? ⟨w.heap.size,2,none⟩=some (.int .i64 p.b):=hP.cell 2;have HL:=Zh (fun W=>Ahp p W hp);have HB:=Zh hB;have HF:=Zh (show Rr p=if p.a<1\/p.b<1 then [] else To p from rfl);generalize Rr p=R at *;generalize To p=F at *;clear hP hB hp;go_enter Tryz.func112,Tryz.ntmps112
 go_upto_region 1 with fail;change Code.wp _ _ _ _ (w.alloc (.cells p.vals.toArray 182));generalize w.alloc (.cells p.vals.toArray 182)=w1 at *;rw[show (p.vals.drop 0).take 3=p.vals from rfl]at hrow;by_cases q1:p.a<1
 ·have HV:=Zh (show R=[] by rw[HF.out,if_pos (.inl q1)])
  go_wp2;go_ret;exact⟨by rw[HV.out];rfl,HB.out⟩
 by_cases q2:p.b<1
 ·have HV:=Zh (show R=[] by rw[HF.out,if_pos (.inr q2)])
  go_wp2;go_ret;exact⟨by rw[HV.out];rfl,HB.out⟩
 ·have HV:=Zh (show R=F by rw[HF.out,if_neg (by omega)])
  go_wp2_with fail;refine(HL.out _).mono ?_
  rintro e w2 ⟨rfl,hb2⟩;go_wp2;go_ret;exact⟨by rw[HV.out];rfl,Ad HB.out hb2⟩
theorem Aho (a b:Int)(w:World)(ha:-9223372036854775808<=a/\a<=9223372036854775807)(hb:b<=9223372036854775807):Calls Tryz.prog 59 #[.int .i64 a,.int .i64 b] w fun e w'=>e=.returned (.string (bs (Rr ⟨1,a,b⟩)))/\Below w.heap.size w w':=by
 have K:=Zh (Aei ⟨1,a,b⟩ w ⟨ha,hb⟩);go_enter Tryz.func59,Tryz.ntmps59
 go_wp2_with fail;refine K.out.mono ?_
 rintro e w1 ⟨rfl,hb1⟩;go_wp2;go_ret;exact⟨rfl,hb1⟩
def Mn:List UInt8:=[1,0,0,0,0,0,0,1,0,0,0,0,0,0,0,1]
theorem Ahn (w:World):Calls Tryz.prog 27 #[] w fun e w'=>e=.returned (.string (bs Mn))/\Below w.heap.size w w':=by
 have K:=Aho 1 1 w (by decide) (by decide);rw[show Rr ⟨1,1,1⟩=Mn by decide +kernel]at K;have K:=Zh K;go_enter Tryz.func27,Tryz.ntmps27
 go_wp2_with fail;refine K.out.mono ?_
 rintro e w1 ⟨rfl,hb1⟩;go_wp2;go_ret;exact⟨rfl,hb1⟩
end
end Go.Proofs.YtfjflkmhhbhceaaGreatDoor
