/-
  Layer 1, walks: a thing's bytes by the reference; a thing put to a writer. Condition: texts of at most 2^20 bytes.
-/
import Derived.Test.YtfjflkmhhbhceaaGreatDoorO08
import Derived.Test.YtfjflkmhhbhceaaGreatDoorO10
import Derived.Test.YtfjflkmhhbhceaaGreatDoorO02
set_option maxHeartbeats 40000000
namespace Go.Proofs.YtfjflkmhhbhceaaGreatDoor
open Go.RowKit
attribute [local go_sem ↓] Go.wp_at_zero Go.wp_at_succ
theorem Agr (b:Bool)(n:Int)(w:World)(hn:b=true->0<=n)(hi:n<=9223372036854775807) :
  Calls Tryz.prog 117 #[.agg #[.bool b,.int .i64 n]] w fun e w'=>e=.returned (.string (bs (Sg b n)))/\Below w.heap.size w w':=by
 have hr:=Gd w [.bool b,.int .i64 n] 32;have hc0:=hr 0 _ rfl;have hc1:=hr 1 _ rfl;have hB0:Below w.heap.size w (w.alloc (.cells #[.bool b,.int .i64 n] 32)):=(Below.refl _ _).alloc (Nat.le_refl _) _;have hz1:w.heap.size<(w.alloc (.cells #[.bool b,.int .i64 n] 32)).heap.size:=by simp
 clear hr;cases b
 ·go_enter Tryz.func117,Tryz.ntmps117
  go_wp2_with fail;refine(Kt false _).mono ?_
  rintro e w2 ⟨rfl,hb⟩;have hB:=Ad hB0 hb;go_wp2;go_ret;exact⟨D9 (by simp[Sg]),hB⟩
 ·obtain⟨m,rfl⟩:=Int.eq_ofNat_of_zero_le (hn rfl)
  have hZ:(num m 8).length=8:=Ce _ _;have hZ2:(Jo true).length=4:=Ce _ _;have hs1:=Au (Jo true);have hs2:=Au (num m 8);go_enter Tryz.func117,Tryz.ntmps117
  go_wp2_with fail;generalize w.alloc (.cells #[.bool true,.int .i64 m] 32)=w1 at *;go_region_held3 (fun W=>Stb w1 W) (first|exact Stb.start|assumption|(exact Stb.alloc (by assumption) _)|(exact Stb.call (by assumption) (by assumption))) (first
   |(go_at_call 71;refine(Kt true _).mono ?_;rintro e w2 ⟨rfl,hb⟩)
   |(go_at_call 60;refine(Bs m 8 _ (by omega) (by omega)).mono ?_;rintro e w3 ⟨rfl,hb3⟩))
  have hs3:Stb w1 w3:=by assumption
  go_wp2;go_ret;exact⟨D9 (by simp[Sg]),Ad hB0 hs3.below⟩
theorem refused {g:Nat}{sv:Value}{l:List UInt8}{B:Nat}{w w':World}(hW:Wr w g sv l)(hb:Below B w w')(hB:w.heap.size<=B):Kl g sv (l++[]) w w':=by
 rw[List.append_nil];have hb':Below w.heap.size w w':=hb.mono hB;exact⟨sv,hW.stays hb',fun _ e=>.inl e,Touch.Aq hb' _⟩
section
attribute [local go_sem ↓] Go.wp_at_zero Go.wp_at_succ Hz Io
attribute [local go_sem] Ai Ag Af
def Ach (g:Nat):List Value:=[.pointer (some ⟨g,0,none⟩),.pointer (some ⟨g,2,none⟩),.pointer (some ⟨g,4,none⟩),.pointer (some ⟨g,6,none⟩),.pointer (some ⟨g,8,none⟩)]
theorem Ad3 (g:Nat)(w:World) :
  Calls Tryz.prog 182 #[ptr g] w fun e w'=>∃h,e=.returned (.slice (some ⟨h,0,none⟩) 5 5)/\Blk w' h 243 (Ach g)/\Below w.heap.size w w'/\w.heap.size<=h:=by
 go_enter Tryz.func182,Tryz.ntmps182
 go_wp2;go_region;go_wp2;go_ret;exact⟨_,rfl,(Blk.new _ _ _).drew,((Below.refl _ _).alloc (Nat.le_refl _) _).drew,Nat.le_refl _⟩
theorem Akj {w:World}{h g k:Nat}(hB:Blk w h 243 (Ach g))(hk:k<5):w.cell? ⟨h,k,none⟩=some (.pointer (some ⟨g,2*k,none⟩)):=by
 rw[hB.cell]
 match k,hk with
 |0,_|1,_|2,_|3,_|4,_=>rfl
theorem Ar1 {w:World}{g k:Nat}{s:Ac}(hB:Blk w g 34 s.vals)(hk:k<5):w.cell? ⟨g,2*k,none⟩=some (.bool (s.opt k).is)/\rowOf w g (2*k) 2=some (s.opt k).vals.toArray:=by
 obtain⟨-,r0,r1,r2,r3,r4⟩:=Gg hB;rw[hB.cell]
 match k,hk with
 |0,_=>exact⟨rfl,r0⟩
 |1,_=>exact⟨rfl,r1⟩
 |2,_=>exact⟨rfl,r2⟩
 |3,_=>exact⟨rfl,r3⟩
 |4,_=>exact⟨rfl,r4⟩
theorem Ag1 (g:Nat)(sv:Value)(l:List UInt8)(s:Ac)(w:World)(hW:Wr w g sv l)(hs:s.ok=true)(hg:s.C9)(hl:l.length<=900000000000) :
  Calls Tryz.prog 163 #[ptr g,.agg s.vals.toArray] w (Jm g sv (l++s.bytes) (.int .i64 0) w):=by
 have hb0:=Blk.new w 34 s.vals;have hB0:Below w.heap.size w (w.alloc (.cells s.vals.toArray 34)):=(Below.refl _ _).alloc (Nat.le_refl _) _;obtain⟨r0,-⟩:=Gg hb0;go_enter Tryz.func163,Tryz.ntmps163
 go_wp2_with fail;generalize w.alloc (.cells s.vals.toArray 34)=w0 at *;refine(Ais s _).mono ?_
 rintro e w1 ⟨he,hb⟩;rw[hs]at he;subst he;have hb1:=hb0.stays hb;have hB1:=Ad hB0 hb;clear hb hb0 r0 hB0;go_wp2_with fail;refine(Ad3 _ _).mono ?_
 rintro e w2 ⟨h,rfl,hp,hb,-⟩;have hb2:=hb1.stays hb;have hB2:=Ad hB1 hb;have hW2:=hW.stays hB2;have hT2:Touch (Xm g sv) w w2:=Touch.Aq hB2 _;clear hb hb1 hB1;go_wp2
 go_loopw [16] (fun i wr=>∃(k:Nat) (sv':Value),k<=5/\i=.int .i64 k/\Fe g sv sv' (l++s.upto k) w wr/\Blk wr h 243 (Ach w.heap.size)/\Blk wr w.heap.size 34 s.vals) (fun i _=>5 - (intOf i).toNat)
 case atStart=>exact⟨0,sv,by omega,rfl,by unfold Ac.upto;rw[List.append_nil];exact⟨hW2,fun _ h=>.inl h,hT2⟩,hp,hb2⟩
 case round=>
  obtain⟨k,sv',hk,rfl,⟨hW3,hr3,hT3⟩,hp3,hb3⟩:=hrel;have HR3:=Zh hr3;have HT3:=Zh hT3;clear hr3 hT3;by_cases hlt:k<5
  ·have hc:=Akj hp3 hlt
   obtain⟨-,hd⟩:=Ar1 hb3 hlt;have hlen:=s.Aly k;have hpos:=Ac.Apz hs hlt;have hgood:=Go.bounds_i64 (Ac.Amw hg hlt);go_wp2_with fail;refine(Ac7 g sv' _ (s.opt k).is (s.opt k).n _ hW3 hpos (by omega) (by rw[List.length_append];omega)).mono ?_
   rintro e w4 ⟨rfl,sv4,hM4⟩;have hp4:=hW3.keeps hp3 (by decide) (by decide) hM4.2.2;have hb4:=hW3.keeps hb3 (by decide) (by decide) hM4.2.2;have HM:=Zh (Fe.next HR3.out HT3.out hM4);clear hM4 hp3 hb3 hc hd hW3;go_wp2;go_roundw
   case rel=>exact⟨k+1,sv4,by omega,by go_num,by have:=HM.out;rw[List.append_assoc]at this;exact this,hp4,hb4⟩
   case measure=>simp[intOf];omega
  ·obtain rfl:k=5:=by omega
   go_wp2;go_ret;exact⟨rfl,sv',by rw[<-Ac.Ajf];exact⟨hW3,HR3.out,HT3.out⟩⟩
theorem Q9 (o:Opt)(w:World)(hn:o.is=true->0<=o.n)(hi:o.n<=9223372036854775807) :
  Calls Tryz.prog 117 #[.agg o.vals.toArray] w fun e w'=>e=.returned (.string (bs o.bytes))/\Below w.heap.size w w':=Agr o.is o.n w hn hi
end
section
attribute [local go_sem ↓] Go.wp_at_zero Go.wp_at_succ Hz Io
attribute [local go_sem] Ai Ag Af
theorem Aim (a b:List UInt8)(h:a.length+b.length<=9223372036854775807):Op.stringOp .add (bs a) (bs b)=pure (.string (bs (a++b))):=by
 have h2:¬(((bs a).size+(bs b).size:Nat):Int) > IntKind.i64.max:=by
  rw[Au,Au]
  show ¬(((a.length+b.length:Nat):Int) > 9223372036854775807)
  omega
 simp only[Op.stringOp];rw[if_neg h2,Bl]
attribute [local go_sem ↓] Aim
theorem Ab0 (s:Ac)(w:World)(hs:s.ok=true)(hg:s.C9) :
  Calls Tryz.prog 133 #[.agg s.vals.toArray] w fun e w'=>e=.returned (.string (bs s.bytes))/\Below w.heap.size w w':=by
 have hb0:=Blk.new w 34 s.vals;have hB0:Below w.heap.size w (w.alloc (.cells s.vals.toArray 34)):=(Below.refl _ _).alloc (Nat.le_refl _) _;have hz:w.heap.size<(w.alloc (.cells s.vals.toArray 34)).heap.size:=by simp
 obtain⟨-,r0,r1,r2,r3,r4⟩:=Gg hb0;obtain⟨p0,p1,p2,p3,p4⟩:=Ac.Qb hs;obtain⟨g0,g1,g2,g3,g4⟩:=hg;have g0:s.mode.n<=9223372036854775807:=(Go.bounds_i64 g0).2;have g1:s.uid.n<=9223372036854775807:=(Go.bounds_i64 g1).2;have g2:s.gid.n<=9223372036854775807:=(Go.bounds_i64 g2).2;have g3:s.size.n<=9223372036854775807:=(Go.bounds_i64 g3).2;have g4:s.time.n<=9223372036854775807:=(Go.bounds_i64 g4).2;have l0:=s.mode.Dk;have l1:=s.uid.Dk;have l2:=s.gid.Dk;have l3:=s.size.Dk;have l4:=s.time.Dk;have f0:s.mode.bytes.length+s.uid.bytes.length<=9223372036854775807:=by omega
 have f1:s.mode.bytes.length+s.uid.bytes.length+s.gid.bytes.length<=9223372036854775807:=by omega
 have f2:s.mode.bytes.length+s.uid.bytes.length+s.gid.bytes.length+s.size.bytes.length<=9223372036854775807:=by omega
 have f3:s.mode.bytes.length+s.uid.bytes.length+s.gid.bytes.length+s.size.bytes.length+s.time.bytes.length<=9223372036854775807:=by omega
 have e1:(s.mode.bytes++s.uid.bytes).length+s.gid.bytes.length<=9223372036854775807:=by simp;omega
 have e2:(s.mode.bytes++s.uid.bytes++s.gid.bytes).length+s.size.bytes.length<=9223372036854775807:=by simp;omega
 have e3:(s.mode.bytes++s.uid.bytes++s.gid.bytes++s.size.bytes).length+s.time.bytes.length<=9223372036854775807:=by simp;omega
 have d2:s.mode.bytes.length+(s.uid.bytes.length+s.gid.bytes.length)+s.size.bytes.length<=9223372036854775807:=by omega
 have d3:s.mode.bytes.length+(s.uid.bytes.length+(s.gid.bytes.length+s.size.bytes.length))+s.time.bytes.length<=9223372036854775807:=by omega
 clear hb0 l0 l1 l2 l3 l4;go_enter Tryz.func133,Tryz.ntmps133
 go_wp2_with fail;generalize w.alloc (.cells s.vals.toArray 34)=w1 at *;go_region_held3 (fun W=>Stb w1 W) (first|exact Stb.start|assumption|(exact Stb.alloc (by assumption) _)|(exact Stb.call (by assumption) (by assumption))) (first
  |(go_at_call 117;refine(Q9 _ _ (by assumption) (by assumption)).mono ?_;rintro e w2 ⟨rfl,hb⟩))
 have hs5:Stb w1 w2:=by assumption
 go_wp2;go_ret;exact⟨D9 (by simp[Ac.bytes]),Ad hB0 hs5.below⟩
end
end Go.Proofs.YtfjflkmhhbhceaaGreatDoor
