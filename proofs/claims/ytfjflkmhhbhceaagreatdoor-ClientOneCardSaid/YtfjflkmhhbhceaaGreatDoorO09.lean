/-
  Layer 5, walks: whether attributes, or none, and what was ahead and behind, may be. No condition.
-/
import Derived.Test.YtfjflkmhhbhceaaGreatDoorO06
import Derived.Test.YtfjflkmhhbhceaaGreatDoorO08
import Derived.Test.YtfjflkmhhbhceaaGreatDoorO05
import Derived.Test.YtfjflkmhhbhceaaGreatDoorO07
import Derived.WalkArith
set_option maxRecDepth 20000
set_option maxHeartbeats 40000000
namespace Go.Proofs.YtfjflkmhhbhceaaGreatDoor
open Go.RowKit
attribute [local go_sem ↓] Go.wp_at_zero Go.wp_at_succ
attribute [local go_sem] Ai Ag Af Ab Aj
attribute [local go_sem] Attr.at0 Attr.Bo Attr.at1 Attr.Bk Attr.at2 Attr.Ca Attr.at3 Attr.Cg Attr.at4 Attr.Cx Attr.at5 Attr.Cw Attr.at6 Attr.Cv Attr.at7 Attr.Cu Attr.at8 Attr.Ct Attr.at9 Attr.Cs Attr.Cl Attr.B4 Attr.len Opt.at0 Opt.Bo Opt.at1 Opt.Bk Opt.Ch Opt.Br Opt.len Ac.at0 Ac.Bo Ac.at1 Ac.Bk Ac.at2 Ac.Ca Ac.at3 Ac.Cg Ac.at4 Ac.Cx Ac.at5 Ac.Cw Ac.at6 Ac.Cv Ac.at7 Ac.Cu Ac.at8 Ac.Ct Ac.at9 Ac.Cs Ac.Cl Ac.B4 Ac.Ch Ac.Br Ac.Gn Ac.E1 Ac.Gm Ac.E0 Ac.Gl Ac.Ez Ac.Gk Ac.Ey Ac.len Ah.at0 Ah.Bo Ah.at1 Ah.Bk Ah.at2 Ah.Ca Ah.at3 Ah.Cg Ah.at4 Ah.Cx Ah.at5 Ah.Cw Ah.at6 Ah.Cv Ah.at7 Ah.Cu Ah.at8 Ah.Ct Ah.at9 Ah.Cs Ah.Ee Ah.C4 Ah.Kp Ah.Iy Ah.Kn Ah.Iw Ah.len Wcc.at0 Wcc.Bo Wcc.at1 Wcc.Bk Wcc.at2 Wcc.Ca Wcc.at3 Wcc.Cg Wcc.at4 Wcc.Cx Wcc.at5 Wcc.Cw Wcc.at6 Wcc.Cv Wcc.at7 Wcc.Cu Wcc.at8 Wcc.Ct Wcc.at9 Wcc.Cs Wcc.Ee Wcc.C4 Wcc.Fm Wcc.Dm Wcc.Fl Wcc.Dl Wcc.Ko Wcc.Ix Wcc.Ch Wcc.Br Wcc.Fa Wcc.Ec Wcc.E9 Wcc.Eb Wcc.len
section
theorem Fq {ρ:Operand->Value}{w:World}{dst:Option Tmp}{ty:TypeId}{pos:String}{after:Array Edge}{g:Option (Nat × Bool)}{x:Operand}(h:(rowAt w 11 (ρ x)).isSome=true) :
  (execOp ρ ⟨dst,.load 45 x,ty,pos,after,g⟩).run Tryz.prog w=.ok (.value (.agg ((rowAt w 11 (ρ x)).getD #[]))) w:=D8 45 11 Tryz.underlying45 rfl (by kernel_rfl) h
theorem Lb {ρ:Operand->Value}{w:World}{dst:Option Tmp}{ty:TypeId}{pos:String}{after:Array Edge}{g:Option (Nat × Bool)}{x:Operand}(h:(rowAt w 13 (ρ x)).isSome=true) :
  (execOp ρ ⟨dst,.load 47 x,ty,pos,after,g⟩).run Tryz.prog w=.ok (.value (.agg ((rowAt w 13 (ρ x)).getD #[]))) w:=D8 47 13 Tryz.underlying47 rfl (by kernel_rfl) h
attribute [local go_sem ↓] L5 Hz Io Fq Lb
def Yv (a:Attr):List (Int × Int):=[(a.type,7),(a.mode,4095),(a.nlink,4294967295),(a.uid,4294967295),(a.gid,4294967295),(a.id,4294967295),(a.size,9223372036854775807),(a.gen,9223372036854775807),(a.change,9223372036854775807),(a.time,9223372036854775807)]
theorem Akt (a:Attr)(hg:a.C9)(h1:1<=a.type):(Yv a).all Wq=a.ok:=by
 obtain⟨-,-,-,-,-,g5,-,g7,g8,g9⟩:=hg;have g5:=(Go.bounds_i64 g5).2;have g7:=(Go.bounds_i64 g7).2;have g8:=(Go.bounds_i64 g8).2;have g9:=(Go.bounds_i64 g9).2;simp[Yv,Wq,okN,Attr.ok]
 grind
theorem Ak2 (n:Int)(w:World):Calls Tryz.prog 218 #[.int .i64 n] w fun e w'=>e=.returned (.agg #[.int .i64 n,.int .i64 9223372036854775807])/\Below w.heap.size w w':=by
 go_enter Tryz.func218,Tryz.ntmps218
 go_wp2;exact Cz w.heap.size 0 (Ti (n,9223372036854775807)) Tryz.results218 Tryz.underlying252 rfl (by kernel_rfl) rfl (Gd _ _ _) rfl ⟨rfl,(Below.refl _ _).alloc (Nat.le_refl _) _⟩
theorem Aib (a:Attr)(w:World)(hg:a.C9):Calls Tryz.prog 208 #[.agg a.vals.toArray] w fun e w'=>e=.returned (.int .i64 (form a.ok))/\Below w.heap.size w w':=by
 have hB0:Below w.heap.size w (w.alloc (.cells a.vals.toArray 43)):=(Below.refl _ _).alloc (Nat.le_refl _) _;have hz:w.heap.size<(w.alloc (.cells a.vals.toArray 43)).heap.size:=by simp
 by_cases h1:a.type<1
 ·have HS:=Zh (show a.ok=false by simp[Attr.ok];omega)
  have hd:decide (a.type<1)=true:=by simpa using h1
  go_enter Tryz.func208,Tryz.ntmps208
  go_wp2;go_quiet (fail)
  go_wp2;go_ret;exact⟨Ov (by rw[HS.out];rfl),hB0.trans (bdN (Below.refl _ _) _)⟩
 ·have hd:decide (a.type<1)=false:=by simpa using h1
  have HL:=Zh (Akt a hg (by omega));have c0:=(Blk.new w 43 a.vals).cell;go_enter Tryz.func208,Tryz.ntmps208
  go_wp2;generalize w.alloc (.cells a.vals.toArray 43)=w1 at *;go_region_held3 (fun W=>Stb w1 W) (first|exact Stb.start|assumption|(exact Stb.alloc (by assumption) _)|(exact Stb.call (by assumption) (by assumption))) (first
   |(go_at_call 218;refine(Ak2 _ _).mono ?_;rintro e w2 ⟨rfl,hb⟩)
   |(go_at_call 195;refine(Xw (some ⟨_,0,none⟩) 10 (Yv a) _ (show (10:Nat)<=1000000 by omega) (by exact At.fresh _ _ _ _ ((Yv a).map Ti) (by simp[Yv,Ti]) rfl)).mono ?_;rintro e w3 ⟨rfl,hb⟩))
  have hs:=(by assumption:Stb w1 w3);have HB:=Zh (Ad hB0 hs.below);rw[HL.out];clear hs;cases ho:a.ok
  all_goals
   have HO:=Zh ho;clear ho;go_wp2;go_ret;exact⟨Ov (by rw[HO.out];rfl),HB.out⟩
end
section
attribute [local go_sem ↓] L5 Hz Io Fq Lb
def Jv:Attr:=⟨0,0,0,0,0,0,0,0,0,0⟩
theorem Y0:Im Tryz.prog 8 43=some (List.replicate 10 (.i .i64)):=by kernel_rfl
theorem U6 (a:Attr):fits (List.replicate 10 (.i .i64)) a.vals=true:=by rfl
theorem Alx {a b:Attr}(h:a.vals=b.vals):a=b:=by
 cases a;cases b;simp_all [Attr.vals]
theorem Aqx (a:Attr)(w:World):(binOp .eql 43 (.agg a.vals.toArray) (.agg #[.int .i64 0,.int .i64 0,.int .i64 0,.int .i64 0,.int .i64 0,.int .i64 0,.int .i64 0,.int .i64 0,.int .i64 0,.int .i64 0])).run Tryz.prog w=.ok (.bool (decide (a=Jv))) w:=by
 show (binOp .eql 43 (.agg a.vals.toArray) (.agg Jv.vals.toArray)).run Tryz.prog w=_
 by_cases h:a=Jv
 ·subst h
  rw[Px Y0 (by kernel_rfl) w _ _ (U6 Jv) rfl];simp
 ·rw[Sc Y0 (by kernel_rfl) w _ _ (U6 a) (U6 Jv) fun hh=>h (Alx hh)]
  simp[h]
attribute [local go_sem ↓] Aqx
def Ah.ok (p:Ah):Bool:=if p.is then p.attr.ok else decide (p.attr=Jv)
def Wcc.ok (c:Wcc):Bool:=c.before.ok 9223372036854775807 && c.after.ok
theorem Z3 (a:Attr)(w:World):Calls Tryz.prog 113 #[.agg a.vals.toArray] w fun e w'=>e=.returned (.bool a.ok)/\Below w.heap.size w w':=by
 have hB0:Below w.heap.size w (w.alloc (.cells a.vals.toArray 43)):=(Below.refl _ _).alloc (Nat.le_refl _) _;go_enter Tryz.func113,Tryz.ntmps113
 go_wp2_with (first|(go_at_call 156;refine(Aau _ _ _).mono ?_;rintro e w' ⟨rfl,rfl⟩)|fail)
 all_goals
  go_ret;refine⟨A5 ?_,hB0⟩
  go_light
  grind [Attr.ok,okN]
theorem Aax (p:Ah)(w:World)(hg:p.C9):Calls Tryz.prog 190 #[.agg p.vals.toArray] w fun e w'=>e=.returned (.bool p.ok)/\Below w.heap.size w w':=by
 have hB0:Below w.heap.size w (w.alloc (.cells p.vals.toArray 45)):=(Below.refl _ _).alloc (Nat.le_refl _) _;cases hi:p.is
 ·have HS:=Zh (show p.ok=decide (p.attr=Jv) by simp[Ah.ok,hi])
  go_enter Tryz.func190,Tryz.ntmps190
  go_wp2;go_ret;exact⟨A5 HS.out.symm,hB0⟩
 ·have HS:=Zh (show p.ok=p.attr.ok by simp[Ah.ok,hi])
  go_enter Tryz.func190,Tryz.ntmps190
  go_wp2_with fail;refine(Aib p.attr _ hg).mono ?_
  rintro e w1 ⟨rfl,hb⟩;have HB:=Zh (Ad hB0 hb);clear hb hB0;cases ho:p.attr.ok
  all_goals
   have HO:=Zh ho;clear ho;go_wp2;go_ret;exact⟨A5 (by rw[HS.out,HO.out];rfl),HB.out⟩
theorem Ku (p:Ah)(w:World):Calls Tryz.prog 63 #[.agg p.vals.toArray] w fun e w'=>e=.returned (.bool p.ok)/\Below w.heap.size w w':=by
 have hB0:Below w.heap.size w (w.alloc (.cells p.vals.toArray 45)):=(Below.refl _ _).alloc (Nat.le_refl _) _;cases hi:p.is
 ·have HS:=Zh (show p.ok=decide (p.attr=Jv) by simp[Ah.ok,hi])
  go_enter Tryz.func63,Tryz.ntmps63
  go_wp2;go_ret;exact⟨A5 HS.out.symm,hB0⟩
 ·have HS:=Zh (show p.ok=p.attr.ok by simp[Ah.ok,hi])
  go_enter Tryz.func63,Tryz.ntmps63
  go_wp2_with fail;refine(Z3 p.attr _).mono ?_
  rintro e w1 ⟨rfl,hb⟩;have HB:=Zh (Ad hB0 hb);clear hb hB0;go_wp2;go_ret;exact⟨A5 HS.out.symm,HB.out⟩
theorem Alv (c:Wcc)(w:World)(hg:c.C9):Calls Tryz.prog 193 #[.agg c.vals.toArray] w fun e w'=>e=.returned (.bool c.ok)/\Below w.heap.size w w':=by
 have hB0:Below w.heap.size w (w.alloc (.cells c.vals.toArray 47)):=(Below.refl _ _).alloc (Nat.le_refl _) _;have hz:w.heap.size<(w.alloc (.cells c.vals.toArray 47)).heap.size:=by simp
 go_enter Tryz.func193,Tryz.ntmps193
 go_wp2_with fail;refine(Lk c.before 9223372036854775807 _).mono ?_
 rintro e w1 ⟨rfl,hb⟩;have hs:=Stb.of hb;have hB1:=Ad hB0 hb;clear hb;cases hk:c.before.ok 9223372036854775807
 ·have HS:=Zh (show c.ok=false by simp[Wcc.ok,hk])
  go_wp2;go_ret;exact⟨A5 HS.out.symm,hB1⟩
 ·have HS:=Zh (show c.ok=c.after.ok by simp[Wcc.ok,hk])
  clear hk;go_wp2_with fail;refine(Aax c.after _ hg.2).mono ?_
  rintro e w2 ⟨rfl,hb⟩;have HB:=Zh (Ad hB1 hb);clear hb;go_wp2;go_ret;exact⟨A5 HS.out.symm,HB.out⟩
theorem Q8 (c:Wcc)(w:World):Calls Tryz.prog 64 #[.agg c.vals.toArray] w fun e w'=>e=.returned (.bool c.ok)/\Below w.heap.size w w':=by
 have hB0:Below w.heap.size w (w.alloc (.cells c.vals.toArray 47)):=(Below.refl _ _).alloc (Nat.le_refl _) _;have hz:w.heap.size<(w.alloc (.cells c.vals.toArray 47)).heap.size:=by simp
 go_enter Tryz.func64,Tryz.ntmps64
 go_wp2_with fail;refine(Gp c.before 9223372036854775807 _).mono ?_
 rintro e w1 ⟨rfl,hb⟩;have hs:=Stb.of hb;have hB1:=Ad hB0 hb;clear hb;cases hk:c.before.ok 9223372036854775807
 ·have HS:=Zh (show c.ok=false by simp[Wcc.ok,hk])
  go_wp2;go_ret;exact⟨A5 HS.out.symm,hB1⟩
 ·have HS:=Zh (show c.ok=c.after.ok by simp[Wcc.ok,hk])
  clear hk;go_wp2_with fail;refine(Ku c.after _).mono ?_
  rintro e w2 ⟨rfl,hb⟩;have HB:=Zh (Ad hB1 hb);clear hb;go_wp2;go_ret;exact⟨A5 HS.out.symm,HB.out⟩
def Cf {α:Type}(ok:α->Bool)(none:α)(x:α × Rs):α × Int:=if x.2.e≠0 then (none,x.2.e) else if ok x.1 then (x.1,0) else (none,14)
def Bb:Ah:=⟨false,Jv⟩
def Bh (r:Rs):Ah × Rs:=if (Bw r).1 then (⟨true,(Gt (Bw r).2).1⟩,(Gt (Bw r).2).2) else (Bb,(Bw r).2)
theorem Aj6 {r:Rs}(h:r.s.length<=9223372036854775807):(Bh r).2.s.length<=r.s.length:=by
 have h1:=Lj h;unfold Bh;split
 ·have:=Akb (r:=(Bw r).2) (by omega)
  simp only
  omega
 ·exact h1
theorem X1 (a:Attr):setAt (Ah.vals ⟨true,Jv⟩) 1 a.vals=Ah.vals ⟨true,a⟩:=rfl
end
section
attribute [local go_sem ↓] L5 Hz Io Fq Lb
theorem Ym (g:Nat)(r:Rs)(w:World)(hR:Rd w g r)(hl:r.s.length<=9223372036854775807) :
  Calls Tryz.prog 189 #[.pointer (some ⟨g,0,none⟩)] w (Um g (Bh r).2 (.agg (Bh r).1.vals.toArray) w):=by
 have hb:=Blk.new w 45 Bb.vals;have hB:Below w.heap.size w (w.alloc (.cells Bb.vals.toArray 45)):=(Below.refl _ _).alloc (Nat.le_refl _) _;have hR1:=hR.stays hB;have hne:w.heap.size≠g:=Nat.ne_of_gt hR.lt;have hgl:=hR.lt;have hl1:=Lj hl;clear hR;cases hq:(Bw r).1
 ·have HN:=Zh (show Bh r=(Bb,(Bw r).2) by simp[Bh,hq])
  go_enter Tryz.func189,Tryz.ntmps189
  go_wp2_with fail;change Calls _ _ _ (w.alloc (.cells Bb.vals.toArray 45)) _;generalize w.alloc (.cells Bb.vals.toArray 45)=w0 at *;refine(Nh g r _ hR1 hl).mono ?_
  rintro e w1 ⟨rfl,hQ⟩;have hb1:=(hQ.keeps hb hne).alloc (.cells Bb.vals.toArray 45);have hQ1:=(Reads.behind hB hQ).new ((Below.refl _ _).alloc (Nat.le_refl _) (.cells Bb.vals.toArray 45));have HQ:=Zh (Reads.lay (cs:=Bb.vals) hQ1 hb1 rfl hne (Nat.le_refl _));clear hQ hb hQ1
  go_wp2_with (first|(refine Ae (by rfl) 45 _ _ (by rfl) w.heap.size Bb.vals _ hb1 (by rfl) (by rfl) (by rfl) (by kernel_rfl) (Ah.one _) ?_)|fail)
  refine Cz w.heap.size 0 Bb.vals Tryz.results189 Tryz.underlying45 rfl (by kernel_rfl) rfl HQ.out.2.range rfl ?_
  rw[HN.out];exact⟨rfl,HQ.out.1⟩
 ·obtain⟨x,hx⟩:∃x,x=Gt (Bw r).2:=⟨_,rfl⟩
  have HN:=Zh (show Bh r=(⟨true,x.1⟩,x.2) by rw[hx];simp[Bh,hq]);have HX:=Zh hx;clear hx;go_enter Tryz.func189,Tryz.ntmps189
  go_wp2_with fail;change Calls _ _ _ (w.alloc (.cells Bb.vals.toArray 45)) _;generalize w.alloc (.cells Bb.vals.toArray 45)=w0 at *;refine(Nh g r _ hR1 hl).mono ?_
  rintro e w1 ⟨rfl,hQ⟩;have hb1:=(hQ.keeps hb hne).alloc (.cells (Ah.vals ⟨true,Jv⟩).toArray 45);have hp1:=Blk.new w1 45 (Ah.vals ⟨true,Jv⟩);have hQ1:=(Reads.behind hB hQ).new ((Below.refl _ _).alloc (Nat.le_refl _) (.cells (Ah.vals ⟨true,Jv⟩).toArray 45));have hR2:=hQ1.1;have hne1:w1.heap.size≠g:=by have:=hQ.1.lt;omega
  have hlt2:w.heap.size<w1.heap.size:=(hQ.keeps hb hne).lt;have hne2:w.heap.size≠w1.heap.size:=by omega
  clear hQ hb;go_wp2_with fail;change Calls _ _ _ (w1.alloc (.cells (Ah.vals ⟨true,Jv⟩).toArray 45)) _;generalize w1.alloc (.cells (Ah.vals ⟨true,Jv⟩).toArray 45)=w2 at *;refine(Acu g (Bw r).2 _ hR2 (by omega)).mono ?_
  rintro e w3 ⟨he,hQ3⟩;rw[<-HX.out]at he hQ3;subst he;obtain⟨av,rr⟩:=x;simp only at hQ3 HN
  have hb3:=hQ3.keeps hb1 hne;have hp3:=hQ3.keeps hp1 hne1;have hQ4:=hQ1.trans hQ3;have hp4:=hp3.Ml av.vals _ 1;rw[X1]at hp4;have hb4:=Blk.Fk (g:=w.heap.size) hne2 av.vals 1 _ hb3;have hQ5:Reads g rr w (w3.setCells w1.heap.size 1 av.vals):=⟨hQ4.1.Ak (Touch.setCells (F:=fun k=>k=w1.heap.size) (.inl rfl) _ 1 w3 (Touch.refl _ _)) (fun hh=>hne1 hh.symm),Touch.setCells (.inr (by omega)) _ 1 w3 hQ4.2⟩;have rp:rowOf (w3.setCells w1.heap.size 1 av.vals) w1.heap.size 0 11=some (Ah.vals ⟨true,av⟩).toArray:=hp4.row 0 11 (by simp[Ah.len]);have HQ:=Zh (Reads.lay (cs:=Ah.vals ⟨true,av⟩) hQ5 hb4 rfl hne (Nat.le_refl _));obtain⟨w4,hw4⟩:∃w4,w4=w3.setCells w1.heap.size 1 av.vals:=⟨_,rfl⟩;rw[<-hw4]at rp HQ hb4;have HW4:=Zh hw4;clear hQ1 hQ3 hQ4 hQ5 hp4 hb1 hb3 hp1 hR2 hw4
  go_wp2_with (first|(refine Ax (by rfl) 43 _ _ (by rfl) w1.heap.size 1 av.vals _ hp3 (by simp[Attr.len,Ah.len]) (by rfl) (by rfl) (by kernel_rfl) (Attr.one _) ?_;rw[<-HW4.out])|(refine Ae (by rfl) 45 _ _ (by rfl) w.heap.size (Ah.vals ⟨true,av⟩) _ hb4 (by rfl) (by rfl) (by rfl) (by kernel_rfl) (Ah.one _) ?_)|fail)
  refine Cz w.heap.size 0 (Ah.vals ⟨true,av⟩) Tryz.results189 Tryz.underlying45 rfl (by kernel_rfl) rfl HQ.out.2.range rfl ?_
  rw[HN.out];exact⟨rfl,HQ.out.1⟩
theorem Vk (g:Nat)(r:Rs)(w:World)(hR:RdF w g r) :
  Calls Tryz.prog 177 #[.pointer (some ⟨g,0,none⟩)] w (Oj g (Bh r).2 (.agg (Bh r).1.vals.toArray) w):=by
 have hb:=Blk.new w 45 Bb.vals;have hB:Below w.heap.size w (w.alloc (.cells Bb.vals.toArray 45)):=(Below.refl _ _).alloc (Nat.le_refl _) _;have hR1:=hR.stays hB;have hne:w.heap.size≠g:=Nat.ne_of_gt hR.lt;have hgl:=hR.lt;clear hR;cases hq:(Bw r).1
 ·have HN:=Zh (show Bh r=(Bb,(Bw r).2) by simp[Bh,hq])
  go_enter Tryz.func177,Tryz.ntmps177
  go_wp2_with fail;change Calls _ _ _ (w.alloc (.cells Bb.vals.toArray 45)) _;generalize w.alloc (.cells Bb.vals.toArray 45)=w0 at *;refine(Ie g r _ hR1).mono ?_
  rintro e w1 ⟨rfl,hQ⟩;have hb1:=(hQ.keeps hb hne).alloc (.cells Bb.vals.toArray 45);have hQ1:=(A6.behind hB hQ).new ((Below.refl _ _).alloc (Nat.le_refl _) (.cells Bb.vals.toArray 45));have HQ:=Zh (A6.lay (cs:=Bb.vals) hQ1 hb1 rfl hne (Nat.le_refl _));clear hQ hb hQ1
  go_wp2_with (first|(refine Ae (by rfl) 45 _ _ (by rfl) w.heap.size Bb.vals _ hb1 (by rfl) (by rfl) (by rfl) (by kernel_rfl) (Ah.one _) ?_)|fail)
  refine Cz w.heap.size 0 Bb.vals Tryz.results177 Tryz.underlying45 rfl (by kernel_rfl) rfl HQ.out.2.range rfl ?_
  rw[HN.out];exact⟨rfl,HQ.out.1⟩
 ·obtain⟨x,hx⟩:∃x,x=Gt (Bw r).2:=⟨_,rfl⟩
  have HN:=Zh (show Bh r=(⟨true,x.1⟩,x.2) by rw[hx];simp[Bh,hq]);have HX:=Zh hx;clear hx;go_enter Tryz.func177,Tryz.ntmps177
  go_wp2_with fail;change Calls _ _ _ (w.alloc (.cells Bb.vals.toArray 45)) _;generalize w.alloc (.cells Bb.vals.toArray 45)=w0 at *;refine(Ie g r _ hR1).mono ?_
  rintro e w1 ⟨rfl,hQ⟩;have hb1:=(hQ.keeps hb hne).alloc (.cells (Ah.vals ⟨true,Jv⟩).toArray 45);have hp1:=Blk.new w1 45 (Ah.vals ⟨true,Jv⟩);have hQ1:=(A6.behind hB hQ).new ((Below.refl _ _).alloc (Nat.le_refl _) (.cells (Ah.vals ⟨true,Jv⟩).toArray 45));have hR2:=hQ1.1;have hne1:w1.heap.size≠g:=by have:=hQ.1.lt;omega
  have hlt2:w.heap.size<w1.heap.size:=(hQ.keeps hb hne).lt;have hne2:w.heap.size≠w1.heap.size:=by omega
  clear hQ hb;go_wp2_with fail;change Calls _ _ _ (w1.alloc (.cells (Ah.vals ⟨true,Jv⟩).toArray 45)) _;generalize w1.alloc (.cells (Ah.vals ⟨true,Jv⟩).toArray 45)=w2 at *;refine(Adl g (Bw r).2 _ hR2).mono ?_
  rintro e w3 ⟨he,hQ3⟩;rw[<-HX.out]at he hQ3;subst he;obtain⟨av,rr⟩:=x;simp only at hQ3 HN
  have hb3:=hQ3.keeps hb1 hne;have hp3:=hQ3.keeps hp1 hne1;have hQ4:=hQ1.trans hQ3;have hp4:=hp3.Ml av.vals _ 1;rw[X1]at hp4;have hb4:=Blk.Fk (g:=w.heap.size) hne2 av.vals 1 _ hb3;have hQ5:A6 g rr w (w3.setCells w1.heap.size 1 av.vals):=⟨hQ4.1.Ak (Touch.setCells (F:=fun k=>k=w1.heap.size) (.inl rfl) _ 1 w3 (Touch.refl _ _)) (fun hh=>hne1 hh.symm),Touch.setCells (.inr (by omega)) _ 1 w3 hQ4.2⟩;have rp:rowOf (w3.setCells w1.heap.size 1 av.vals) w1.heap.size 0 11=some (Ah.vals ⟨true,av⟩).toArray:=hp4.row 0 11 (by simp[Ah.len]);have HQ:=Zh (A6.lay (cs:=Ah.vals ⟨true,av⟩) hQ5 hb4 rfl hne (Nat.le_refl _));obtain⟨w4,hw4⟩:∃w4,w4=w3.setCells w1.heap.size 1 av.vals:=⟨_,rfl⟩;rw[<-hw4]at rp HQ hb4;have HW4:=Zh hw4;clear hQ1 hQ3 hQ4 hQ5 hp4 hb1 hb3 hp1 hR2 hw4
  go_wp2_with (first|(refine Ax (by rfl) 43 _ _ (by rfl) w1.heap.size 1 av.vals _ hp3 (by simp[Attr.len,Ah.len]) (by rfl) (by rfl) (by kernel_rfl) (Attr.one _) ?_;rw[<-HW4.out])|(refine Ae (by rfl) 45 _ _ (by rfl) w.heap.size (Ah.vals ⟨true,av⟩) _ hb4 (by rfl) (by rfl) (by rfl) (by kernel_rfl) (Ah.one _) ?_)|fail)
  refine Cz w.heap.size 0 (Ah.vals ⟨true,av⟩) Tryz.results177 Tryz.underlying45 rfl (by kernel_rfl) rfl HQ.out.2.range rfl ?_
  rw[HN.out];exact⟨rfl,HQ.out.1⟩
def Df:Wcc:=⟨⟨false,0⟩,Bb⟩
def Eg:Ac:=⟨⟨false,0⟩,⟨false,0⟩,⟨false,0⟩,⟨false,0⟩,⟨false,0⟩⟩
def Qu (cs:List Value)(n:Int):Value:=.tuple #[.agg cs.toArray,.int .i64 n]
theorem Ael (g:Nat)(r:Rs)(v:Ah)(w:World)(hR:Rd w g r)(hg:v.C9) :
  Calls Tryz.prog 188 #[.pointer (some ⟨g,0,none⟩),.agg v.vals.toArray,.func (.func 190) #[] #[]] w fun e w'=>e=.returned (Qu (Cf Ah.ok Bb (v,r)).1.vals (Cf Ah.ok Bb (v,r)).2)/\Below w.heap.size w w':=by
 obtain⟨bv,br,bz,hB,hsz⟩:=O4 w v.vals Bb.vals Bb.vals 45 45 45;have hR1:=hR.stays hB;have rz:rowOf (((w.alloc (.cells v.vals.toArray 45)).alloc (.cells Bb.vals.toArray 45)).alloc (.cells Bb.vals.toArray 45)) (w.heap.size+1+1) 0 11=some Bb.vals.toArray:=bz.row 0 11 (by simp[Ah.len]);have rv:rowOf (((w.alloc (.cells v.vals.toArray 45)).alloc (.cells Bb.vals.toArray 45)).alloc (.cells Bb.vals.toArray 45)) w.heap.size 0 11=some v.vals.toArray:=bv.row 0 11 (by simp[Ah.len]);have l0:w.heap.size<(((w.alloc (.cells v.vals.toArray 45)).alloc (.cells Bb.vals.toArray 45)).alloc (.cells Bb.vals.toArray 45)).heap.size:=by omega
 have l2:w.heap.size+1+1<(((w.alloc (.cells v.vals.toArray 45)).alloc (.cells Bb.vals.toArray 45)).alloc (.cells Bb.vals.toArray 45)).heap.size:=by omega
 clear hsz bv bz hR;by_cases he:r.e=0
 ·have he':(r.e != 0)=false:=by simpa using he
  have HE:=Zh he;clear he;go_enter Tryz.func188,Tryz.ntmps188
  go_wp2_with fail;change Calls _ _ _ (((w.alloc (.cells v.vals.toArray 45)).alloc (.cells Bb.vals.toArray 45)).alloc (.cells Bb.vals.toArray 45)) _;generalize ((w.alloc (.cells v.vals.toArray 45)).alloc (.cells Bb.vals.toArray 45)).alloc (.cells Bb.vals.toArray 45)=W at *;refine(Cn g r _ hR1).mono ?_
  rintro e w1 ⟨rfl,rfl⟩;go_wp2_with fail;refine(Aax v _ hg).mono ?_
  rintro e w2 ⟨rfl,hb⟩;have hs:=Stb.of hb;have br2:=br.stays hb;have hB2:=Ad hB hb;clear hb;cases ho:v.ok
  ·have HN:=Zh (show Cf Ah.ok Bb (v,r)=(Bb,14) by simp[Cf,HE.out,ho])
   clear ho
   go_wp2_with (first|(refine Ae (by rfl) 45 _ _ (by rfl) (w.heap.size+1) Bb.vals _ br2 (by rfl) (by rfl) (by rfl) (by kernel_rfl) (Ah.one _) ?_)|fail)
   refine Ap (w.heap.size+1) 0 Bb.vals (.int .i64 14) Tryz.results188 Tryz.underlying45 rfl (by kernel_rfl) rfl rfl (br2.whole (by rfl)).range rfl ?_
   rw[HN.out];exact⟨rfl,Below.Bf hB2 (by omega) _⟩
  ·have HN:=Zh (show Cf Ah.ok Bb (v,r)=(v,0) by simp[Cf,HE.out,ho])
   clear ho
   go_wp2_with (first|(refine Ae (by rfl) 45 _ _ (by rfl) (w.heap.size+1) v.vals _ br2 (by rfl) (by rfl) (by rfl) (by kernel_rfl) (Ah.one _) ?_)|fail)
   refine Ap (w.heap.size+1) 0 v.vals (.int .i64 0) Tryz.results188 Tryz.underlying45 rfl (by kernel_rfl) rfl rfl (br2.whole (by rfl)).range rfl ?_
   rw[HN.out];exact⟨rfl,Below.Bf hB2 (by omega) _⟩
 ·have he':(r.e != 0)=true:=by simpa using he
  have HN:=Zh (show Cf Ah.ok Bb (v,r)=(Bb,r.e) by simp[Cf,he]);clear he;go_enter Tryz.func188,Tryz.ntmps188
  go_wp2_with fail;change Calls _ _ _ (((w.alloc (.cells v.vals.toArray 45)).alloc (.cells Bb.vals.toArray 45)).alloc (.cells Bb.vals.toArray 45)) _;generalize ((w.alloc (.cells v.vals.toArray 45)).alloc (.cells Bb.vals.toArray 45)).alloc (.cells Bb.vals.toArray 45)=W at *;refine(Cn g r _ hR1).mono ?_
  rintro e w1 ⟨rfl,rfl⟩
  go_wp2_with (first|(refine Ae (by rfl) 45 _ _ (by rfl) (w.heap.size+1) Bb.vals _ br (by rfl) (by rfl) (by rfl) (by kernel_rfl) (Ah.one _) ?_)|fail)
  refine Ap (w.heap.size+1) 0 Bb.vals (.int .i64 r.e) Tryz.results188 Tryz.underlying45 rfl (by kernel_rfl) rfl rfl (br.whole (by rfl)).range rfl ?_
  rw[HN.out];exact⟨rfl,Below.Bf hB (by omega) _⟩
theorem Ahg (g:Nat)(r:Rs)(v:Wcc)(w:World)(hR:Rd w g r)(hg:v.C9) :
  Calls Tryz.prog 192 #[.pointer (some ⟨g,0,none⟩),.agg v.vals.toArray,.func (.func 193) #[] #[]] w fun e w'=>e=.returned (Qu (Cf Wcc.ok Df (v,r)).1.vals (Cf Wcc.ok Df (v,r)).2)/\Below w.heap.size w w':=by
 obtain⟨bv,br,bz,hB,hsz⟩:=O4 w v.vals Df.vals Df.vals 47 47 47;have hR1:=hR.stays hB;have rz:rowOf (((w.alloc (.cells v.vals.toArray 47)).alloc (.cells Df.vals.toArray 47)).alloc (.cells Df.vals.toArray 47)) (w.heap.size+1+1) 0 13=some Df.vals.toArray:=bz.row 0 13 (by simp[Wcc.len]);have rv:rowOf (((w.alloc (.cells v.vals.toArray 47)).alloc (.cells Df.vals.toArray 47)).alloc (.cells Df.vals.toArray 47)) w.heap.size 0 13=some v.vals.toArray:=bv.row 0 13 (by simp[Wcc.len]);have l0:w.heap.size<(((w.alloc (.cells v.vals.toArray 47)).alloc (.cells Df.vals.toArray 47)).alloc (.cells Df.vals.toArray 47)).heap.size:=by omega
 have l2:w.heap.size+1+1<(((w.alloc (.cells v.vals.toArray 47)).alloc (.cells Df.vals.toArray 47)).alloc (.cells Df.vals.toArray 47)).heap.size:=by omega
 clear hsz bv bz hR;by_cases he:r.e=0
 ·have he':(r.e != 0)=false:=by simpa using he
  have HE:=Zh he;clear he;go_enter Tryz.func192,Tryz.ntmps192
  go_wp2_with fail;change Calls _ _ _ (((w.alloc (.cells v.vals.toArray 47)).alloc (.cells Df.vals.toArray 47)).alloc (.cells Df.vals.toArray 47)) _;generalize ((w.alloc (.cells v.vals.toArray 47)).alloc (.cells Df.vals.toArray 47)).alloc (.cells Df.vals.toArray 47)=W at *;refine(Cn g r _ hR1).mono ?_
  rintro e w1 ⟨rfl,rfl⟩;go_wp2_with fail;refine(Alv v _ hg).mono ?_
  rintro e w2 ⟨rfl,hb⟩;have hs:=Stb.of hb;have br2:=br.stays hb;have hB2:=Ad hB hb;clear hb;cases ho:v.ok
  ·have HN:=Zh (show Cf Wcc.ok Df (v,r)=(Df,14) by simp[Cf,HE.out,ho])
   clear ho
   go_wp2_with (first|(refine Ae (by rfl) 47 _ _ (by rfl) (w.heap.size+1) Df.vals _ br2 (by rfl) (by rfl) (by rfl) (by kernel_rfl) (Wcc.one _) ?_)|fail)
   refine Ap (w.heap.size+1) 0 Df.vals (.int .i64 14) Tryz.results192 Tryz.underlying47 rfl (by kernel_rfl) rfl rfl (br2.whole (by rfl)).range rfl ?_
   rw[HN.out];exact⟨rfl,Below.Bf hB2 (by omega) _⟩
  ·have HN:=Zh (show Cf Wcc.ok Df (v,r)=(v,0) by simp[Cf,HE.out,ho])
   clear ho
   go_wp2_with (first|(refine Ae (by rfl) 47 _ _ (by rfl) (w.heap.size+1) v.vals _ br2 (by rfl) (by rfl) (by rfl) (by kernel_rfl) (Wcc.one _) ?_)|fail)
   refine Ap (w.heap.size+1) 0 v.vals (.int .i64 0) Tryz.results192 Tryz.underlying47 rfl (by kernel_rfl) rfl rfl (br2.whole (by rfl)).range rfl ?_
   rw[HN.out];exact⟨rfl,Below.Bf hB2 (by omega) _⟩
 ·have he':(r.e != 0)=true:=by simpa using he
  have HN:=Zh (show Cf Wcc.ok Df (v,r)=(Df,r.e) by simp[Cf,he]);clear he;go_enter Tryz.func192,Tryz.ntmps192
  go_wp2_with fail;change Calls _ _ _ (((w.alloc (.cells v.vals.toArray 47)).alloc (.cells Df.vals.toArray 47)).alloc (.cells Df.vals.toArray 47)) _;generalize ((w.alloc (.cells v.vals.toArray 47)).alloc (.cells Df.vals.toArray 47)).alloc (.cells Df.vals.toArray 47)=W at *;refine(Cn g r _ hR1).mono ?_
  rintro e w1 ⟨rfl,rfl⟩
  go_wp2_with (first|(refine Ae (by rfl) 47 _ _ (by rfl) (w.heap.size+1) Df.vals _ br (by rfl) (by rfl) (by rfl) (by kernel_rfl) (Wcc.one _) ?_)|fail)
  refine Ap (w.heap.size+1) 0 Df.vals (.int .i64 r.e) Tryz.results192 Tryz.underlying47 rfl (by kernel_rfl) rfl rfl (br.whole (by rfl)).range rfl ?_
  rw[HN.out];exact⟨rfl,Below.Bf hB (by omega) _⟩
end
attribute [local go_sem] Attr.at0 Attr.Bo Attr.at1 Attr.Bk Attr.at2 Attr.Ca Attr.at3 Attr.Cg Attr.at4 Attr.Cx Attr.at5 Attr.Cw Attr.at6 Attr.Cv Attr.at7 Attr.Cu Attr.at8 Attr.Ct Attr.at9 Attr.Cs Attr.Cl Attr.B4 Attr.len Opt.at0 Opt.Bo Opt.at1 Opt.Bk Opt.Ch Opt.Br Opt.len Ac.at0 Ac.Bo Ac.at1 Ac.Bk Ac.at2 Ac.Ca Ac.at3 Ac.Cg Ac.at4 Ac.Cx Ac.at5 Ac.Cw Ac.at6 Ac.Cv Ac.at7 Ac.Cu Ac.at8 Ac.Ct Ac.at9 Ac.Cs Ac.Cl Ac.B4 Ac.Ch Ac.Br Ac.Gn Ac.E1 Ac.Gm Ac.E0 Ac.Gl Ac.Ez Ac.Gk Ac.Ey Ac.len Ah.at0 Ah.Bo Ah.at1 Ah.Bk Ah.at2 Ah.Ca Ah.at3 Ah.Cg Ah.at4 Ah.Cx Ah.at5 Ah.Cw Ah.at6 Ah.Cv Ah.at7 Ah.Cu Ah.at8 Ah.Ct Ah.at9 Ah.Cs Ah.Ee Ah.C4 Ah.Kp Ah.Iy Ah.Kn Ah.Iw Ah.len Wcc.at0 Wcc.Bo Wcc.at1 Wcc.Bk Wcc.at2 Wcc.Ca Wcc.at3 Wcc.Cg Wcc.at4 Wcc.Cx Wcc.at5 Wcc.Cw Wcc.at6 Wcc.Cv Wcc.at7 Wcc.Cu Wcc.at8 Wcc.Ct Wcc.at9 Wcc.Cs Wcc.Ee Wcc.C4 Wcc.Fm Wcc.Dm Wcc.Fl Wcc.Dl Wcc.Ko Wcc.Ix Wcc.Ch Wcc.Br Wcc.Fa Wcc.Ec Wcc.E9 Wcc.Eb Wcc.len Dj
section
attribute [local go_sem ↓] L5 Hz Io Fq Lb
theorem Lc {n:Nat}(h:n<9223372036854775808):(Lit.int .i64 (n:Int)).wf=true:=by
 exact Go.WalkArith.wf_i64 (by omega)
theorem Aix {b:Bool}{r:Rs}(h:r.s.length<=9223372036854775807):(E8 b r).1<9223372036854775808:=by
 cases b
 ·have:(Am r).1<4294967296:=(R6 (k:=4) h).1
  show (Am r).1 < _
  omega
 ·show (Bn r).1 < _
  unfold Bn;split
  ·simp only;omega
  ·omega
theorem Amj (l:List Bool)(r:Rs)(h:r.s.length<=9223372036854775807):∀n∈(Gs l r).1,n<9223372036854775808:=by
 induction l generalizing r with
 |nil=>simp[Gs]
 |cons b l ih=>
  intro n hn;simp only[Gs,List.mem_cons]at hn;rcases hn with rfl|hn
  ·exact Aix h
  ·exact ih _ (Nat.le_trans (Yi h) h) n hn
theorem Aqf {l:List Nat}(h:∀n∈l,n<9223372036854775808)(i:Nat):l.getD i 0<9223372036854775808:=by
 rw[List.getD_eq_getElem?_getD];cases hi:l[i]? with
 |none=>simp
 |some n=>exact h n (List.mem_of_getElem? hi)
theorem Ag0 {r:Rs}(h:r.s.length<=9223372036854775807):(Gt r).1.C9:=by
 have hl:=Aqf (Amj Jd r h);exact⟨Lc (hl 0),Lc (hl 1),Lc (hl 2),Lc (hl 3),Lc (hl 4),Lc (hl 5),Lc (hl 6),Lc (hl 7),Lc (hl 8),Lc (hl 9)⟩
theorem Aih:Jv.C9:=⟨rfl,rfl,rfl,rfl,rfl,rfl,rfl,rfl,rfl,rfl⟩
theorem Li {r:Rs}(h:r.s.length<=9223372036854775807):(Bh r).1.C9:=by
 have:=Lj h;unfold Bh;split
 ·exact Ag0 (r:=(Bw r).2) (by omega)
 ·exact Aih
def D1 (o:Bool × Nat):Opt:=⟨o.1,o.2⟩
theorem Aj8 {r:Rs}(h:r.s.length<=9223372036854775807):(D1 (Fp r).1).C9:=by
 have h1:=Lj h;have h2:=Aix (b:=true) (r:=(Bw r).2) (by omega);unfold Fp;split
 ·split
  ·exact Lc (n:=0) (by omega)
  ·exact Lc h2
 ·exact Lc (n:=0) (by omega)
def Ei (r:Rs):Wcc × Rs:=(⟨D1 (Fp r).1,(Bh (Fp r).2).1⟩,(Bh (Fp r).2).2)
theorem Ut {r:Rs}(h:r.s.length<=9223372036854775807):(Ei r).1.C9:=⟨Aj8 h,Li (Nat.le_trans (Rc h) h)⟩
theorem Ws (g:Nat)(r:Rs)(w:World)(hR:Rd w g r)(hl:r.s.length<=9223372036854775807) :
  Calls Tryz.prog 175 #[.pointer (some ⟨g,0,none⟩)] w (Um g (Bh r).2 (Qu (Cf Ah.ok Bb (Bh r)).1.vals (Cf Ah.ok Bb (Bh r)).2) w):=by
 have hb:=Blk.new w 45 Bb.vals;have hB:Below w.heap.size w (w.alloc (.cells Bb.vals.toArray 45)):=(Below.refl _ _).alloc (Nat.le_refl _) _;have hR1:=hR.stays hB;have hne:w.heap.size≠g:=Nat.ne_of_gt hR.lt;have hgl:=hR.lt;clear hR;go_enter Tryz.func175,Tryz.ntmps175
 go_wp2_with fail;change Calls _ _ _ (w.alloc (.cells Bb.vals.toArray 45)) _;generalize w.alloc (.cells Bb.vals.toArray 45)=w0 at *;refine(Ym g r _ hR1 hl).mono ?_
 rintro e w1 ⟨he,hQ⟩;have hg:=Li hl;obtain⟨x,hx⟩:∃x,x=Bh r:=⟨_,rfl⟩;rw[<-hx]at he hQ hg;have HX:=Zh hx;clear hx;subst he;have hb1:=hQ.keeps hb hne;have hQ1:=Reads.behind hB hQ;clear hQ hb;go_wp2_with fail;refine(Ael g x.2 x.1 _ hQ1.1 hg).mono ?_
 rintro e w2 ⟨he,hb⟩;have hb2:=hb1.stays hb;have hQ2:=hQ1.new hb;obtain⟨y,hy⟩:∃y,y=Cf Ah.ok Bb (x.1,x.2):=⟨_,rfl⟩;rw[<-hy]at he;have HY:=Zh hy;clear hy hb hb1 hQ1;subst he;unfold Qu;obtain⟨y1,y2⟩:=y;have HQ:=Zh (Reads.lay (cs:=y1.vals) hQ2 hb2 rfl hne (Nat.le_refl _));clear hQ2
 go_wp2_with (first|(refine Ae (by rfl) 45 _ _ (by rfl) w.heap.size y1.vals _ hb2 (by rfl) (by rfl) (by rfl) (by kernel_rfl) (Ah.one _) ?_)|fail)
 refine Ap w.heap.size 0 y1.vals (.int .i64 y2) Tryz.results175 Tryz.underlying45 rfl (by kernel_rfl) rfl rfl HQ.out.2.range rfl ?_
 have h2:=HQ.out.1;rw[HX.out]at h2 HY;rw[<-HY.out];exact⟨rfl,h2⟩
end
end Go.Proofs.YtfjflkmhhbhceaaGreatDoor
