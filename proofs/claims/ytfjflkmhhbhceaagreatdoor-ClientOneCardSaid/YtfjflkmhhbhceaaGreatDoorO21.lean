/-
  Layer 8, walks: the field of a letter is taken, but for the rows (written by wip/tools/gentaken8.py). Conditions: a reader and results at blocks of their own; machine texts.
-/
import Derived.Test.YtfjflkmhhbhceaaGreatDoorO19
import Derived.Test.YtfjflkmhhbhceaaGreatDoorO06
set_option maxRecDepth 20000
set_option maxHeartbeats 40000000
namespace Go.Proofs.YtfjflkmhhbhceaaGreatDoor
open Go.RowKit
attribute [local go_sem ↓] Go.wp_at_zero Go.wp_at_succ
attribute [local go_sem] Ai Ag Af Ab Aj
section
attribute [local go_sem ↓] Fq Lb
structure O6 (g b:Nat) (z:Aa) (r:Rs) (w w':World):Prop where
 R:Rd w' g r
 C:Blk w' b 51 z.vals
 T:Touch (fun k=>k=g\/k=b) w w'
theorem Apq (g b:Nat)(z:Aa)(r:Rs)(w:World)(hR:Rd w g r)(hA:Blk w b 51 z.vals)(hl:r.s.length<=9223372036854775807):Calls Tryz.prog 103 #[.pointer (some ⟨g,0,none⟩),.pointer (some ⟨b,0,none⟩),.int .i32 104] w fun e w'=>e=.returned (.bool ((Ao 64 r).2.e==0))/\O6 g b ({ z with fh:=(Ao 64 r).1 }) ((Ao 64 r).2) w w':=by
 have hne:b≠g:=Blk.ne_ hA hR.1 (by decide);obtain⟨bh,bl,hB0,hs0⟩:=A7 w [.pointer (some ⟨g,0,none⟩)] [.int .i32 104] 167 21;obtain⟨w0,hw0⟩:∃V,V=(w.alloc (.cells #[.pointer (some ⟨g,0,none⟩)] 167)).alloc (.cells #[.int .i32 104] 21):=⟨_,rfl⟩;have hw0':=hw0;replace bh:Blk w0 w.heap.size 167 [.pointer (some ⟨g,0,none⟩)]:=by rw[hw0];exact bh
 replace bl:Blk w0 (w.heap.size+1) 21 [.int .i32 104]:=by rw[hw0];exact bl
 replace hB0:Below w.heap.size w w0:=by rw[hw0];exact hB0
 have hgl:=hR.lt;have hbl:=hA.lt;have nh:w.heap.size≠g:=by omega
 have nb:w.heap.size≠b:=by omega
 have nb':b≠w.heap.size:=by omega
 have hR0:=hR.stays hB0;have hA0:=hA.stays hB0;have hT0:=Touch.Aq hB0 (fun k=>k=g\/k=b);have HW0:=Zh hw0;clear hw0 hw0' hB0 hs0 hR hA;have hG:=Oy g 64 r w0 hR0 hl;generalize Ao 64 r=x at *;have HG:=Zh hG;clear hG;go_enter Tryz.func103,Tryz.ntmps103
 go_wp2_with fail;rw[<-HW0.out];refine HG.out.mono ?_
 rintro e w1 ⟨rfl,hQ⟩;have hA1:Blk w1 b 51 z.vals:=hA0.Ak hQ.2 hne;have bh1:=bh.Ak hQ.2 nh;have hf:=hA1.frozen 1;have hc:=hA1.cell 1;have c1:w1.cell? ⟨w.heap.size,0,none⟩=some (.pointer (some ⟨g,0,none⟩)):=bh1.cell 0;have hc:(w1.cell? ⟨b,1,none⟩).isSome=true:=by rw[hc];rfl
 obtain⟨old,hc⟩:=Option.isSome_iff_exists.1 hc;have hA2:Blk (w1.setCell ⟨b,1,none⟩ (.string (bs x.1))) b 51 ({ z with fh:=x.1 }:Aa).vals:=hA1.Be 1 (.string (bs x.1));have hR2:Rd (w1.setCell ⟨b,1,none⟩ (.string (bs x.1))) g x.2:=hQ.1.Ak ((Touch.refl (fun k=>k=b) w1).An (g:=b) (o:=1) (.inl rfl) (.string (bs x.1))) (fun e=>hne e.symm);have hT2:Touch (fun k=>k=g\/k=b) w (w1.setCell ⟨b,1,none⟩ (.string (bs x.1))):=(hT0.Ay (hQ.2.mono fun _ _ h=>.inl h)).An (g:=b) (o:=1) (.inl (.inr rfl)) (.string (bs x.1));have HL:=Zh (And.intro hR2 (And.intro hA2 hT2));clear hR2 hA2 hT2 hQ hA1 hA0 hR0 HG hT0 bh bh1 bl;go_wp2_with fail;refine(Cn g x.2 _ HL.out.1).mono ?_
 rintro e w3 ⟨rfl,rfl⟩;go_wp2;go_ret;exact⟨rfl,HL.out.1,HL.out.2.1,HL.out.2.2⟩
theorem Api (g b:Nat)(z:Aa)(r:Rs)(w:World)(hR:Rd w g r)(hA:Blk w b 51 z.vals)(hl:r.s.length<=9223372036854775807):Calls Tryz.prog 103 #[.pointer (some ⟨g,0,none⟩),.pointer (some ⟨b,0,none⟩),.int .i32 120] w fun e w'=>e=.returned (.bool ((Am r).2.e==0))/\O6 g b ({ z with access:=(Am r).1 }) ((Am r).2) w w':=by
 have hne:b≠g:=Blk.ne_ hA hR.1 (by decide);obtain⟨bh,bl,hB0,hs0⟩:=A7 w [.pointer (some ⟨g,0,none⟩)] [.int .i32 120] 167 21;obtain⟨w0,hw0⟩:∃V,V=(w.alloc (.cells #[.pointer (some ⟨g,0,none⟩)] 167)).alloc (.cells #[.int .i32 120] 21):=⟨_,rfl⟩;have hw0':=hw0;replace bh:Blk w0 w.heap.size 167 [.pointer (some ⟨g,0,none⟩)]:=by rw[hw0];exact bh
 replace bl:Blk w0 (w.heap.size+1) 21 [.int .i32 120]:=by rw[hw0];exact bl
 replace hB0:Below w.heap.size w w0:=by rw[hw0];exact hB0
 have hgl:=hR.lt;have hbl:=hA.lt;have nh:w.heap.size≠g:=by omega
 have nb:w.heap.size≠b:=by omega
 have nb':b≠w.heap.size:=by omega
 have hR0:=hR.stays hB0;have hA0:=hA.stays hB0;have hT0:=Touch.Aq hB0 (fun k=>k=g\/k=b);have HW0:=Zh hw0;clear hw0 hw0' hB0 hs0 hR hA;have hG:=G3 g r w0 hR0 hl;generalize Am r=x at *;have HG:=Zh hG;clear hG;go_enter Tryz.func103,Tryz.ntmps103
 go_wp2_with fail;rw[<-HW0.out];refine HG.out.mono ?_
 rintro e w1 ⟨rfl,hQ⟩;have hA1:Blk w1 b 51 z.vals:=hA0.Ak hQ.2 hne;have bh1:=bh.Ak hQ.2 nh;have hf:=hA1.frozen 50;have hc:=hA1.cell 50;have c1:w1.cell? ⟨w.heap.size,0,none⟩=some (.pointer (some ⟨g,0,none⟩)):=bh1.cell 0;have hc:(w1.cell? ⟨b,50,none⟩).isSome=true:=by rw[hc];rfl
 obtain⟨old,hc⟩:=Option.isSome_iff_exists.1 hc;have hA2:Blk (w1.setCell ⟨b,50,none⟩ (.int .i64 x.1)) b 51 ({ z with access:=x.1 }:Aa).vals:=hA1.Be 50 (.int .i64 x.1);have hR2:Rd (w1.setCell ⟨b,50,none⟩ (.int .i64 x.1)) g x.2:=hQ.1.Ak ((Touch.refl (fun k=>k=b) w1).An (g:=b) (o:=50) (.inl rfl) (.int .i64 x.1)) (fun e=>hne e.symm);have hT2:Touch (fun k=>k=g\/k=b) w (w1.setCell ⟨b,50,none⟩ (.int .i64 x.1)):=(hT0.Ay (hQ.2.mono fun _ _ h=>.inl h)).An (g:=b) (o:=50) (.inl (.inr rfl)) (.int .i64 x.1);have HL:=Zh (And.intro hR2 (And.intro hA2 hT2));clear hR2 hA2 hT2 hQ hA1 hA0 hR0 HG hT0 bh bh1 bl;go_wp2_with fail;refine(Cn g x.2 _ HL.out.1).mono ?_
 rintro e w3 ⟨rfl,rfl⟩;go_wp2;go_ret;exact⟨rfl,HL.out.1,HL.out.2.1,HL.out.2.2⟩
theorem Apt (g b:Nat)(z:Aa)(r:Rs)(w:World)(hR:Rd w g r)(hA:Blk w b 51 z.vals)(hl:r.s.length<=9223372036854775807):Calls Tryz.prog 103 #[.pointer (some ⟨g,0,none⟩),.pointer (some ⟨b,0,none⟩),.int .i32 99] w fun e w'=>e=.returned (.bool ((Am r).2.e==0))/\O6 g b ({ z with count:=(Am r).1 }) ((Am r).2) w w':=by
 have hne:b≠g:=Blk.ne_ hA hR.1 (by decide);obtain⟨bh,bl,hB0,hs0⟩:=A7 w [.pointer (some ⟨g,0,none⟩)] [.int .i32 99] 167 21;obtain⟨w0,hw0⟩:∃V,V=(w.alloc (.cells #[.pointer (some ⟨g,0,none⟩)] 167)).alloc (.cells #[.int .i32 99] 21):=⟨_,rfl⟩;have hw0':=hw0;replace bh:Blk w0 w.heap.size 167 [.pointer (some ⟨g,0,none⟩)]:=by rw[hw0];exact bh
 replace bl:Blk w0 (w.heap.size+1) 21 [.int .i32 99]:=by rw[hw0];exact bl
 replace hB0:Below w.heap.size w w0:=by rw[hw0];exact hB0
 have hgl:=hR.lt;have hbl:=hA.lt;have nh:w.heap.size≠g:=by omega
 have nb:w.heap.size≠b:=by omega
 have nb':b≠w.heap.size:=by omega
 have hR0:=hR.stays hB0;have hA0:=hA.stays hB0;have hT0:=Touch.Aq hB0 (fun k=>k=g\/k=b);have HW0:=Zh hw0;clear hw0 hw0' hB0 hs0 hR hA;have hG:=G3 g r w0 hR0 hl;generalize Am r=x at *;have HG:=Zh hG;clear hG;go_enter Tryz.func103,Tryz.ntmps103
 go_wp2_with fail;rw[<-HW0.out];refine HG.out.mono ?_
 rintro e w1 ⟨rfl,hQ⟩;have hA1:Blk w1 b 51 z.vals:=hA0.Ak hQ.2 hne;have bh1:=bh.Ak hQ.2 nh;have hf:=hA1.frozen 51;have hc:=hA1.cell 51;have c1:w1.cell? ⟨w.heap.size,0,none⟩=some (.pointer (some ⟨g,0,none⟩)):=bh1.cell 0;have hc:(w1.cell? ⟨b,51,none⟩).isSome=true:=by rw[hc];rfl
 obtain⟨old,hc⟩:=Option.isSome_iff_exists.1 hc;have hA2:Blk (w1.setCell ⟨b,51,none⟩ (.int .i64 x.1)) b 51 ({ z with count:=x.1 }:Aa).vals:=hA1.Be 51 (.int .i64 x.1);have hR2:Rd (w1.setCell ⟨b,51,none⟩ (.int .i64 x.1)) g x.2:=hQ.1.Ak ((Touch.refl (fun k=>k=b) w1).An (g:=b) (o:=51) (.inl rfl) (.int .i64 x.1)) (fun e=>hne e.symm);have hT2:Touch (fun k=>k=g\/k=b) w (w1.setCell ⟨b,51,none⟩ (.int .i64 x.1)):=(hT0.Ay (hQ.2.mono fun _ _ h=>.inl h)).An (g:=b) (o:=51) (.inl (.inr rfl)) (.int .i64 x.1);have HL:=Zh (And.intro hR2 (And.intro hA2 hT2));clear hR2 hA2 hT2 hQ hA1 hA0 hR0 HG hT0 bh bh1 bl;go_wp2_with fail;refine(Cn g x.2 _ HL.out.1).mono ?_
 rintro e w3 ⟨rfl,rfl⟩;go_wp2;go_ret;exact⟨rfl,HL.out.1,HL.out.2.1,HL.out.2.2⟩
theorem Apl (g b:Nat)(z:Aa)(r:Rs)(w:World)(hR:Rd w g r)(hA:Blk w b 51 z.vals)(hl:r.s.length<=9223372036854775807):Calls Tryz.prog 103 #[.pointer (some ⟨g,0,none⟩),.pointer (some ⟨b,0,none⟩),.int .i32 115] w fun e w'=>e=.returned (.bool ((Am r).2.e==0))/\O6 g b ({ z with stable:=(Am r).1 }) ((Am r).2) w w':=by
 have hne:b≠g:=Blk.ne_ hA hR.1 (by decide);obtain⟨bh,bl,hB0,hs0⟩:=A7 w [.pointer (some ⟨g,0,none⟩)] [.int .i32 115] 167 21;obtain⟨w0,hw0⟩:∃V,V=(w.alloc (.cells #[.pointer (some ⟨g,0,none⟩)] 167)).alloc (.cells #[.int .i32 115] 21):=⟨_,rfl⟩;have hw0':=hw0;replace bh:Blk w0 w.heap.size 167 [.pointer (some ⟨g,0,none⟩)]:=by rw[hw0];exact bh
 replace bl:Blk w0 (w.heap.size+1) 21 [.int .i32 115]:=by rw[hw0];exact bl
 replace hB0:Below w.heap.size w w0:=by rw[hw0];exact hB0
 have hgl:=hR.lt;have hbl:=hA.lt;have nh:w.heap.size≠g:=by omega
 have nb:w.heap.size≠b:=by omega
 have nb':b≠w.heap.size:=by omega
 have hR0:=hR.stays hB0;have hA0:=hA.stays hB0;have hT0:=Touch.Aq hB0 (fun k=>k=g\/k=b);have HW0:=Zh hw0;clear hw0 hw0' hB0 hs0 hR hA;have hG:=G3 g r w0 hR0 hl;generalize Am r=x at *;have HG:=Zh hG;clear hG;go_enter Tryz.func103,Tryz.ntmps103
 go_wp2_with fail;rw[<-HW0.out];refine HG.out.mono ?_
 rintro e w1 ⟨rfl,hQ⟩;have hA1:Blk w1 b 51 z.vals:=hA0.Ak hQ.2 hne;have bh1:=bh.Ak hQ.2 nh;have hf:=hA1.frozen 54;have hc:=hA1.cell 54;have c1:w1.cell? ⟨w.heap.size,0,none⟩=some (.pointer (some ⟨g,0,none⟩)):=bh1.cell 0;have hc:(w1.cell? ⟨b,54,none⟩).isSome=true:=by rw[hc];rfl
 obtain⟨old,hc⟩:=Option.isSome_iff_exists.1 hc;have hA2:Blk (w1.setCell ⟨b,54,none⟩ (.int .i64 x.1)) b 51 ({ z with stable:=x.1 }:Aa).vals:=hA1.Be 54 (.int .i64 x.1);have hR2:Rd (w1.setCell ⟨b,54,none⟩ (.int .i64 x.1)) g x.2:=hQ.1.Ak ((Touch.refl (fun k=>k=b) w1).An (g:=b) (o:=54) (.inl rfl) (.int .i64 x.1)) (fun e=>hne e.symm);have hT2:Touch (fun k=>k=g\/k=b) w (w1.setCell ⟨b,54,none⟩ (.int .i64 x.1)):=(hT0.Ay (hQ.2.mono fun _ _ h=>.inl h)).An (g:=b) (o:=54) (.inl (.inr rfl)) (.int .i64 x.1);have HL:=Zh (And.intro hR2 (And.intro hA2 hT2));clear hR2 hA2 hT2 hQ hA1 hA0 hR0 HG hT0 bh bh1 bl;go_wp2_with fail;refine(Cn g x.2 _ HL.out.1).mono ?_
 rintro e w3 ⟨rfl,rfl⟩;go_wp2;go_ret;exact⟨rfl,HL.out.1,HL.out.2.1,HL.out.2.2⟩
theorem Apk (g b:Nat)(z:Aa)(r:Rs)(w:World)(hR:Rd w g r)(hA:Blk w b 51 z.vals)(hl:r.s.length<=9223372036854775807):Calls Tryz.prog 103 #[.pointer (some ⟨g,0,none⟩),.pointer (some ⟨b,0,none⟩),.int .i32 118] w fun e w'=>e=.returned (.bool ((Bn r).2.e==0))/\O6 g b ({ z with verf:=(Bn r).1 }) ((Bn r).2) w w':=by
 have hne:b≠g:=Blk.ne_ hA hR.1 (by decide);obtain⟨bh,bl,hB0,hs0⟩:=A7 w [.pointer (some ⟨g,0,none⟩)] [.int .i32 118] 167 21;obtain⟨w0,hw0⟩:∃V,V=(w.alloc (.cells #[.pointer (some ⟨g,0,none⟩)] 167)).alloc (.cells #[.int .i32 118] 21):=⟨_,rfl⟩;have hw0':=hw0;replace bh:Blk w0 w.heap.size 167 [.pointer (some ⟨g,0,none⟩)]:=by rw[hw0];exact bh
 replace bl:Blk w0 (w.heap.size+1) 21 [.int .i32 118]:=by rw[hw0];exact bl
 replace hB0:Below w.heap.size w w0:=by rw[hw0];exact hB0
 have hgl:=hR.lt;have hbl:=hA.lt;have nh:w.heap.size≠g:=by omega
 have nb:w.heap.size≠b:=by omega
 have nb':b≠w.heap.size:=by omega
 have hR0:=hR.stays hB0;have hA0:=hA.stays hB0;have hT0:=Touch.Aq hB0 (fun k=>k=g\/k=b);have HW0:=Zh hw0;clear hw0 hw0' hB0 hs0 hR hA;have hG:=Mp g r w0 hR0 hl;generalize Bn r=x at *;have HG:=Zh hG;clear hG;go_enter Tryz.func103,Tryz.ntmps103
 go_wp2_with fail;rw[<-HW0.out];refine HG.out.mono ?_
 rintro e w1 ⟨rfl,hQ⟩;have hA1:Blk w1 b 51 z.vals:=hA0.Ak hQ.2 hne;have bh1:=bh.Ak hQ.2 nh;have hf:=hA1.frozen 55;have hc:=hA1.cell 55;have c1:w1.cell? ⟨w.heap.size,0,none⟩=some (.pointer (some ⟨g,0,none⟩)):=bh1.cell 0;have hc:(w1.cell? ⟨b,55,none⟩).isSome=true:=by rw[hc];rfl
 obtain⟨old,hc⟩:=Option.isSome_iff_exists.1 hc;have hA2:Blk (w1.setCell ⟨b,55,none⟩ (.int .i64 x.1)) b 51 ({ z with verf:=x.1 }:Aa).vals:=hA1.Be 55 (.int .i64 x.1);have hR2:Rd (w1.setCell ⟨b,55,none⟩ (.int .i64 x.1)) g x.2:=hQ.1.Ak ((Touch.refl (fun k=>k=b) w1).An (g:=b) (o:=55) (.inl rfl) (.int .i64 x.1)) (fun e=>hne e.symm);have hT2:Touch (fun k=>k=g\/k=b) w (w1.setCell ⟨b,55,none⟩ (.int .i64 x.1)):=(hT0.Ay (hQ.2.mono fun _ _ h=>.inl h)).An (g:=b) (o:=55) (.inl (.inr rfl)) (.int .i64 x.1);have HL:=Zh (And.intro hR2 (And.intro hA2 hT2));clear hR2 hA2 hT2 hQ hA1 hA0 hR0 HG hT0 bh bh1 bl;go_wp2_with fail;refine(Cn g x.2 _ HL.out.1).mono ?_
 rintro e w3 ⟨rfl,rfl⟩;go_wp2;go_ret;exact⟨rfl,HL.out.1,HL.out.2.1,HL.out.2.2⟩
theorem Apr (g b:Nat)(z:Aa)(r:Rs)(w:World)(hR:Rd w g r)(hA:Blk w b 51 z.vals)(hl:r.s.length<=9223372036854775807):Calls Tryz.prog 103 #[.pointer (some ⟨g,0,none⟩),.pointer (some ⟨b,0,none⟩),.int .i32 101] w fun e w'=>e=.returned (.bool ((Bw r).2.e==0))/\O6 g b ({ z with eof:=(Bw r).1 }) ((Bw r).2) w w':=by
 have hne:b≠g:=Blk.ne_ hA hR.1 (by decide);obtain⟨bh,bl,hB0,hs0⟩:=A7 w [.pointer (some ⟨g,0,none⟩)] [.int .i32 101] 167 21;obtain⟨w0,hw0⟩:∃V,V=(w.alloc (.cells #[.pointer (some ⟨g,0,none⟩)] 167)).alloc (.cells #[.int .i32 101] 21):=⟨_,rfl⟩;have hw0':=hw0;replace bh:Blk w0 w.heap.size 167 [.pointer (some ⟨g,0,none⟩)]:=by rw[hw0];exact bh
 replace bl:Blk w0 (w.heap.size+1) 21 [.int .i32 101]:=by rw[hw0];exact bl
 replace hB0:Below w.heap.size w w0:=by rw[hw0];exact hB0
 have hgl:=hR.lt;have hbl:=hA.lt;have nh:w.heap.size≠g:=by omega
 have nb:w.heap.size≠b:=by omega
 have nb':b≠w.heap.size:=by omega
 have hR0:=hR.stays hB0;have hA0:=hA.stays hB0;have hT0:=Touch.Aq hB0 (fun k=>k=g\/k=b);have HW0:=Zh hw0;clear hw0 hw0' hB0 hs0 hR hA;have hG:=Nh g r w0 hR0 hl;generalize Bw r=x at *;have HG:=Zh hG;clear hG;go_enter Tryz.func103,Tryz.ntmps103
 go_wp2_with fail;rw[<-HW0.out];refine HG.out.mono ?_
 rintro e w1 ⟨rfl,hQ⟩;have hA1:Blk w1 b 51 z.vals:=hA0.Ak hQ.2 hne;have bh1:=bh.Ak hQ.2 nh;have hf:=hA1.frozen 52;have hc:=hA1.cell 52;have c1:w1.cell? ⟨w.heap.size,0,none⟩=some (.pointer (some ⟨g,0,none⟩)):=bh1.cell 0;have hc:(w1.cell? ⟨b,52,none⟩).isSome=true:=by rw[hc];rfl
 obtain⟨old,hc⟩:=Option.isSome_iff_exists.1 hc;have hA2:Blk (w1.setCell ⟨b,52,none⟩ (.bool x.1)) b 51 ({ z with eof:=x.1 }:Aa).vals:=hA1.Be 52 (.bool x.1);have hR2:Rd (w1.setCell ⟨b,52,none⟩ (.bool x.1)) g x.2:=hQ.1.Ak ((Touch.refl (fun k=>k=b) w1).An (g:=b) (o:=52) (.inl rfl) (.bool x.1)) (fun e=>hne e.symm);have hT2:Touch (fun k=>k=g\/k=b) w (w1.setCell ⟨b,52,none⟩ (.bool x.1)):=(hT0.Ay (hQ.2.mono fun _ _ h=>.inl h)).An (g:=b) (o:=52) (.inl (.inr rfl)) (.bool x.1);have HL:=Zh (And.intro hR2 (And.intro hA2 hT2));clear hR2 hA2 hT2 hQ hA1 hA0 hR0 HG hT0 bh bh1 bl;go_wp2_with fail;refine(Cn g x.2 _ HL.out.1).mono ?_
 rintro e w3 ⟨rfl,rfl⟩;go_wp2;go_ret;exact⟨rfl,HL.out.1,HL.out.2.1,HL.out.2.2⟩
theorem Aps (g b:Nat)(z:Aa)(r:Rs)(w:World)(hR:Rd w g r)(hA:Blk w b 51 z.vals)(hl:r.s.length<=9223372036854775807):Calls Tryz.prog 103 #[.pointer (some ⟨g,0,none⟩),.pointer (some ⟨b,0,none⟩),.int .i32 100] w fun e w'=>e=.returned (.bool ((Ao 256 r).2.e==0))/\O6 g b ({ z with data:=(Ao 256 r).1 }) ((Ao 256 r).2) w w':=by
 have hne:b≠g:=Blk.ne_ hA hR.1 (by decide);obtain⟨bh,bl,hB0,hs0⟩:=A7 w [.pointer (some ⟨g,0,none⟩)] [.int .i32 100] 167 21;obtain⟨w0,hw0⟩:∃V,V=(w.alloc (.cells #[.pointer (some ⟨g,0,none⟩)] 167)).alloc (.cells #[.int .i32 100] 21):=⟨_,rfl⟩;have hw0':=hw0;replace bh:Blk w0 w.heap.size 167 [.pointer (some ⟨g,0,none⟩)]:=by rw[hw0];exact bh
 replace bl:Blk w0 (w.heap.size+1) 21 [.int .i32 100]:=by rw[hw0];exact bl
 replace hB0:Below w.heap.size w w0:=by rw[hw0];exact hB0
 have hgl:=hR.lt;have hbl:=hA.lt;have nh:w.heap.size≠g:=by omega
 have nb:w.heap.size≠b:=by omega
 have nb':b≠w.heap.size:=by omega
 have hR0:=hR.stays hB0;have hA0:=hA.stays hB0;have hT0:=Touch.Aq hB0 (fun k=>k=g\/k=b);have HW0:=Zh hw0;clear hw0 hw0' hB0 hs0 hR hA;have hG:=Oy g 256 r w0 hR0 hl;generalize Ao 256 r=x at *;have HG:=Zh hG;clear hG;go_enter Tryz.func103,Tryz.ntmps103
 go_wp2_with fail;rw[<-HW0.out];refine HG.out.mono ?_
 rintro e w1 ⟨rfl,hQ⟩;have hA1:Blk w1 b 51 z.vals:=hA0.Ak hQ.2 hne;have bh1:=bh.Ak hQ.2 nh;have hf:=hA1.frozen 53;have hc:=hA1.cell 53;have c1:w1.cell? ⟨w.heap.size,0,none⟩=some (.pointer (some ⟨g,0,none⟩)):=bh1.cell 0;have hc:(w1.cell? ⟨b,53,none⟩).isSome=true:=by rw[hc];rfl
 obtain⟨old,hc⟩:=Option.isSome_iff_exists.1 hc;have hA2:Blk (w1.setCell ⟨b,53,none⟩ (.string (bs x.1))) b 51 ({ z with data:=x.1 }:Aa).vals:=hA1.Be 53 (.string (bs x.1));have hR2:Rd (w1.setCell ⟨b,53,none⟩ (.string (bs x.1))) g x.2:=hQ.1.Ak ((Touch.refl (fun k=>k=b) w1).An (g:=b) (o:=53) (.inl rfl) (.string (bs x.1))) (fun e=>hne e.symm);have hT2:Touch (fun k=>k=g\/k=b) w (w1.setCell ⟨b,53,none⟩ (.string (bs x.1))):=(hT0.Ay (hQ.2.mono fun _ _ h=>.inl h)).An (g:=b) (o:=53) (.inl (.inr rfl)) (.string (bs x.1));have HL:=Zh (And.intro hR2 (And.intro hA2 hT2));clear hR2 hA2 hT2 hQ hA1 hA0 hR0 HG hT0 bh bh1 bl;go_wp2_with fail;refine(Cn g x.2 _ HL.out.1).mono ?_
 rintro e w3 ⟨rfl,rfl⟩;go_wp2;go_ret;exact⟨rfl,HL.out.1,HL.out.2.1,HL.out.2.2⟩
theorem Apu (g b:Nat)(z:Aa)(r:Rs)(w:World)(hR:Rd w g r)(hA:Blk w b 51 z.vals)(hl:r.s.length<=9223372036854775807):Calls Tryz.prog 103 #[.pointer (some ⟨g,0,none⟩),.pointer (some ⟨b,0,none⟩),.int .i32 97] w fun e w'=>e=.returned (.bool ((Cf Ah.ok Bb (Bh r)).2==0))/\O6 g b ({ z with obj:=(Cf Ah.ok Bb (Bh r)).1 }) ((Bh r).2) w w':=by
 have hne:b≠g:=Blk.ne_ hA hR.1 (by decide);obtain⟨bh,bl,hB0,hs0⟩:=A7 w [.pointer (some ⟨g,0,none⟩)] [.int .i32 97] 167 21;obtain⟨w0,hw0⟩:∃V,V=(w.alloc (.cells #[.pointer (some ⟨g,0,none⟩)] 167)).alloc (.cells #[.int .i32 97] 21):=⟨_,rfl⟩;have hw0':=hw0;replace bh:Blk w0 w.heap.size 167 [.pointer (some ⟨g,0,none⟩)]:=by rw[hw0];exact bh
 replace bl:Blk w0 (w.heap.size+1) 21 [.int .i32 97]:=by rw[hw0];exact bl
 replace hB0:Below w.heap.size w w0:=by rw[hw0];exact hB0
 have hgl:=hR.lt;have hbl:=hA.lt;have nh:w.heap.size≠g:=by omega
 have nb:w.heap.size≠b:=by omega
 have nb':b≠w.heap.size:=by omega
 have hR0:=hR.stays hB0;have hA0:=hA.stays hB0;have hT0:=Touch.Aq hB0 (fun k=>k=g\/k=b);have HW0:=Zh hw0;clear hw0 hw0' hB0 hs0 hR hA;have hG:=Vl g b 2 z.vals r w0.drew hR0 hA0 (by rw[Aa.len];omega) hl;have hset:∀p,setAt z.vals 2 p.vals=({ z with obj:=p }:Aa).vals:=fun p=>rfl
 rw[hset]at hG;generalize Cf Ah.ok Bb (Bh r)=x at *;generalize (Bh r).2=q at *;have HG:=Zh hG;have c1:w0.cell? ⟨w.heap.size,0,none⟩=some (.pointer (some ⟨g,0,none⟩)):=bh.cell 0;clear hG hset hR0 hA0;go_enter Tryz.func103,Tryz.ntmps103
 go_wp2_with fail;rw[<-HW0.out];go_region_held3 (fun V=>V.cell? ⟨w.heap.size,0,none⟩=some (.pointer (some ⟨g,0,none⟩))) (first|(with_reducible assumption)|exact c1|exact(bh.drew.Ak hX.2.2 (fun h=>by omega)).cell 0) (first
  |(go_at_call 143;refine HG.out.mono ?_;rintro e w1 ⟨rfl,hX⟩))
 all_goals
  have HL:=Zh hX;have HT:=Zh (hT0.drew.Ay hX.2.2);clear hX hT0;go_wp2;go_ret;exact⟨rfl,HL.out.1,HL.out.2.1,HT.out⟩
theorem Amp (g b:Nat)(z:Aa)(r:Rs)(w:World)(hR:Rd w g r)(hA:Blk w b 51 z.vals)(hl:r.s.length<=9223372036854775807):Calls Tryz.prog 103 #[.pointer (some ⟨g,0,none⟩),.pointer (some ⟨b,0,none⟩),.int .i32 68] w fun e w'=>e=.returned (.bool ((Cf Ah.ok Bb (Bh r)).2==0))/\O6 g b ({ z with dir:=(Cf Ah.ok Bb (Bh r)).1 }) ((Bh r).2) w w':=by
 have hne:b≠g:=Blk.ne_ hA hR.1 (by decide);obtain⟨bh,bl,hB0,hs0⟩:=A7 w [.pointer (some ⟨g,0,none⟩)] [.int .i32 68] 167 21;obtain⟨w0,hw0⟩:∃V,V=(w.alloc (.cells #[.pointer (some ⟨g,0,none⟩)] 167)).alloc (.cells #[.int .i32 68] 21):=⟨_,rfl⟩;have hw0':=hw0;replace bh:Blk w0 w.heap.size 167 [.pointer (some ⟨g,0,none⟩)]:=by rw[hw0];exact bh
 replace bl:Blk w0 (w.heap.size+1) 21 [.int .i32 68]:=by rw[hw0];exact bl
 replace hB0:Below w.heap.size w w0:=by rw[hw0];exact hB0
 have hgl:=hR.lt;have hbl:=hA.lt;have nh:w.heap.size≠g:=by omega
 have nb:w.heap.size≠b:=by omega
 have nb':b≠w.heap.size:=by omega
 have hR0:=hR.stays hB0;have hA0:=hA.stays hB0;have hT0:=Touch.Aq hB0 (fun k=>k=g\/k=b);have HW0:=Zh hw0;clear hw0 hw0' hB0 hs0 hR hA;have hG:=Vl g b 13 z.vals r w0.drew hR0 hA0 (by rw[Aa.len];omega) hl;have hset:∀p,setAt z.vals 13 p.vals=({ z with dir:=p }:Aa).vals:=fun p=>rfl
 rw[hset]at hG;generalize Cf Ah.ok Bb (Bh r)=x at *;generalize (Bh r).2=q at *;have HG:=Zh hG;have c1:w0.cell? ⟨w.heap.size,0,none⟩=some (.pointer (some ⟨g,0,none⟩)):=bh.cell 0;clear hG hset hR0 hA0;go_enter Tryz.func103,Tryz.ntmps103
 go_wp2_with fail;rw[<-HW0.out];go_region_held3 (fun V=>V.cell? ⟨w.heap.size,0,none⟩=some (.pointer (some ⟨g,0,none⟩))) (first|(with_reducible assumption)|exact c1|exact(bh.drew.Ak hX.2.2 (fun h=>by omega)).cell 0) (first
  |(go_at_call 143;refine HG.out.mono ?_;rintro e w1 ⟨rfl,hX⟩))
 all_goals
  have HL:=Zh hX;have HT:=Zh (hT0.drew.Ay hX.2.2);clear hX hT0;go_wp2;go_ret;exact⟨rfl,HL.out.1,HL.out.2.1,HT.out⟩
theorem Apj (g b:Nat)(z:Aa)(r:Rs)(w:World)(hR:Rd w g r)(hA:Blk w b 51 z.vals)(hl:r.s.length<=9223372036854775807):Calls Tryz.prog 103 #[.pointer (some ⟨g,0,none⟩),.pointer (some ⟨b,0,none⟩),.int .i32 119] w fun e w'=>e=.returned (.bool ((Cf Wcc.ok Df (Ei r)).2==0))/\O6 g b ({ z with wcc:=(Cf Wcc.ok Df (Ei r)).1 }) ((Ei r).2) w w':=by
 have hne:b≠g:=Blk.ne_ hA hR.1 (by decide);obtain⟨bh,bl,hB0,hs0⟩:=A7 w [.pointer (some ⟨g,0,none⟩)] [.int .i32 119] 167 21;obtain⟨w0,hw0⟩:∃V,V=(w.alloc (.cells #[.pointer (some ⟨g,0,none⟩)] 167)).alloc (.cells #[.int .i32 119] 21):=⟨_,rfl⟩;have hw0':=hw0;replace bh:Blk w0 w.heap.size 167 [.pointer (some ⟨g,0,none⟩)]:=by rw[hw0];exact bh
 replace bl:Blk w0 (w.heap.size+1) 21 [.int .i32 119]:=by rw[hw0];exact bl
 replace hB0:Below w.heap.size w w0:=by rw[hw0];exact hB0
 have hgl:=hR.lt;have hbl:=hA.lt;have nh:w.heap.size≠g:=by omega
 have nb:w.heap.size≠b:=by omega
 have nb':b≠w.heap.size:=by omega
 have hR0:=hR.stays hB0;have hA0:=hA.stays hB0;have hT0:=Touch.Aq hB0 (fun k=>k=g\/k=b);have HW0:=Zh hw0;clear hw0 hw0' hB0 hs0 hR hA;have hG:=Abn g b 24 z.vals r w0.drew hR0 hA0 (by rw[Aa.len];omega) hl;have hset:∀p,setAt z.vals 24 p.vals=({ z with wcc:=p }:Aa).vals:=fun p=>rfl
 rw[hset]at hG;generalize Cf Wcc.ok Df (Ei r)=x at *;generalize (Ei r).2=q at *;have HG:=Zh hG;have c1:w0.cell? ⟨w.heap.size,0,none⟩=some (.pointer (some ⟨g,0,none⟩)):=bh.cell 0;clear hG hset hR0 hA0;go_enter Tryz.func103,Tryz.ntmps103
 go_wp2_with fail;rw[<-HW0.out];go_region_held3 (fun V=>V.cell? ⟨w.heap.size,0,none⟩=some (.pointer (some ⟨g,0,none⟩))) (first|(with_reducible assumption)|exact c1|exact(bh.drew.Ak hX.2.2 (fun h=>by omega)).cell 0) (first
  |(go_at_call 144;refine HG.out.mono ?_;rintro e w1 ⟨rfl,hX⟩))
 all_goals
  have HL:=Zh hX;have HT:=Zh (hT0.drew.Ay hX.2.2);clear hX hT0;go_wp2;go_ret;exact⟨rfl,HL.out.1,HL.out.2.1,HT.out⟩
theorem Amo (g b:Nat)(z:Aa)(r:Rs)(w:World)(hR:Rd w g r)(hA:Blk w b 51 z.vals)(hl:r.s.length<=9223372036854775807):Calls Tryz.prog 103 #[.pointer (some ⟨g,0,none⟩),.pointer (some ⟨b,0,none⟩),.int .i32 87] w fun e w'=>e=.returned (.bool ((Cf Wcc.ok Df (Ei r)).2==0))/\O6 g b ({ z with wcc2:=(Cf Wcc.ok Df (Ei r)).1 }) ((Ei r).2) w w':=by
 have hne:b≠g:=Blk.ne_ hA hR.1 (by decide);obtain⟨bh,bl,hB0,hs0⟩:=A7 w [.pointer (some ⟨g,0,none⟩)] [.int .i32 87] 167 21;obtain⟨w0,hw0⟩:∃V,V=(w.alloc (.cells #[.pointer (some ⟨g,0,none⟩)] 167)).alloc (.cells #[.int .i32 87] 21):=⟨_,rfl⟩;have hw0':=hw0;replace bh:Blk w0 w.heap.size 167 [.pointer (some ⟨g,0,none⟩)]:=by rw[hw0];exact bh
 replace bl:Blk w0 (w.heap.size+1) 21 [.int .i32 87]:=by rw[hw0];exact bl
 replace hB0:Below w.heap.size w w0:=by rw[hw0];exact hB0
 have hgl:=hR.lt;have hbl:=hA.lt;have nh:w.heap.size≠g:=by omega
 have nb:w.heap.size≠b:=by omega
 have nb':b≠w.heap.size:=by omega
 have hR0:=hR.stays hB0;have hA0:=hA.stays hB0;have hT0:=Touch.Aq hB0 (fun k=>k=g\/k=b);have HW0:=Zh hw0;clear hw0 hw0' hB0 hs0 hR hA;have hG:=Abn g b 37 z.vals r w0.drew hR0 hA0 (by rw[Aa.len];omega) hl;have hset:∀p,setAt z.vals 37 p.vals=({ z with wcc2:=p }:Aa).vals:=fun p=>rfl
 rw[hset]at hG;generalize Cf Wcc.ok Df (Ei r)=x at *;generalize (Ei r).2=q at *;have HG:=Zh hG;have c1:w0.cell? ⟨w.heap.size,0,none⟩=some (.pointer (some ⟨g,0,none⟩)):=bh.cell 0;clear hG hset hR0 hA0;go_enter Tryz.func103,Tryz.ntmps103
 go_wp2_with fail;rw[<-HW0.out];go_region_held3 (fun V=>V.cell? ⟨w.heap.size,0,none⟩=some (.pointer (some ⟨g,0,none⟩))) (first|(with_reducible assumption)|exact c1|exact(bh.drew.Ak hX.2.2 (fun h=>by omega)).cell 0) (first
  |(go_at_call 144;refine HG.out.mono ?_;rintro e w1 ⟨rfl,hX⟩))
 all_goals
  have HL:=Zh hX;have HT:=Zh (hT0.drew.Ay hX.2.2);clear hX hT0;go_wp2;go_ret;exact⟨rfl,HL.out.1,HL.out.2.1,HT.out⟩
end
theorem Am1 {r:Rs}(h:Nz r=true):(B8 (Am r).2 (Am r).1).2.e=0:=by
 unfold Nz at h;simp at h
 exact h.2
theorem Aev {whole:Bool}{r:Rs}(h:Ii whole r=true):(Bd whole (Am r).2 (Am r).1).2.e=0:=by
 unfold Ii at h;simp at h
 obtain⟨_,h0,h⟩:=h;generalize (Am r).1=n at *;cases n with
 |zero=>exact h0
 |succ n=>
  have:=h n (by omega);unfold E7 at this;simp at this
  exact this.2
theorem Apn (g b:Nat)(z:Aa)(r:Rs)(w:World)(hR:Rd w g r)(hA:Blk w b 51 z.vals)(hl:r.s.length<=9223372036854775807):Calls Tryz.prog 103 #[.pointer (some ⟨g,0,none⟩),.pointer (some ⟨b,0,none⟩),.int .i32 110] w fun e w'=>e=.returned (.bool (Nz r)) /\
  (Nz r=true->∃A c,O6 g b { z with ua:=A,un:=(B8 (Am r).2 (Am r).1).1.length,uc:=c } (B8 (Am r).2 (Am r).1).2 w w'/\As w' w.heap.size 3 1 (.slice A (B8 (Am r).2 (Am r).1).1.length c) ((B8 (Am r).2 (Am r).1).1.map Fz))/\Touch (fun k=>k=g\/k=b) w w':=by
 have hne:b≠g:=Blk.ne_ hA hR.1 (by decide);obtain⟨bh,bl,hB0,hs0⟩:=A7 w [.pointer (some ⟨g,0,none⟩)] [.int .i32 110] 167 21;obtain⟨w0,hw0⟩:∃V,V=(w.alloc (.cells #[.pointer (some ⟨g,0,none⟩)] 167)).alloc (.cells #[.int .i32 110] 21):=⟨_,rfl⟩;replace bh:Blk w0 w.heap.size 167 [.pointer (some ⟨g,0,none⟩)]:=by rw[hw0];exact bh
 replace bl:Blk w0 (w.heap.size+1) 21 [.int .i32 110]:=by rw[hw0];exact bl
 replace hB0:Below w.heap.size w w0:=by rw[hw0];exact hB0
 have hgl:=hR.lt;have hbl:=hA.lt;have nh:w.heap.size≠g:=by omega
 have nb:w.heap.size≠b:=by omega
 have nb':b≠w.heap.size:=by omega
 have hR0:=hR.stays hB0;have hA0:=hA.stays hB0;have hT0:=Touch.Aq hB0 (fun k=>k=g\/k=b);have hz0:=hB0.size;have HW0:=Zh hw0;clear hw0 hB0 hs0 hR hA;have hG:=Ajq g w.heap.size r w0 hR0 bh hl;have HOKE:=Zh (show Nz r=true->(B8 (Am r).2 (Am r).1).2.e=0 from fun h=>Am1 h);generalize Nz r=OK at *;generalize (B8 (Am r).2 (Am r).1).2=Q at *;generalize (B8 (Am r).2 (Am r).1).1=us at *;have HG:=Zh hG;clear hG;go_enter Tryz.func103,Tryz.ntmps103
 go_wp2_with fail;rw[<-HW0.out];refine HG.out.mono ?_
 rintro e w1 ⟨v,rfl,hok,hno,hT⟩;have hA1:Blk w1 b 51 z.vals:=hA0.Ak hT hne;have bh1:=bh.Ak hT nh;have hf:=hA1.frozen 57;have hc:=hA1.cell 57;have c1:w1.cell? ⟨w.heap.size,0,none⟩=some (.pointer (some ⟨g,0,none⟩)):=bh1.cell 0;have hc:(w1.cell? ⟨b,57,none⟩).isSome=true:=by rw[hc];rfl
 obtain⟨old,hc⟩:=Option.isSome_iff_exists.1 hc;have hT1:Touch (fun k=>k=g\/k=b) w w1:=hT0.Ay (hT.mono fun _ _ h=>.inl h);cases OK
 case false=>
  have hv:=hno rfl;subst hv;have HT:=Zh (hT1.An (g:=b) (o:=57) (.inl (.inr rfl)) (.slice none 0 0));clear hok hno hT hT1 hA1 hA0 hR0 HG hT0 bh bh1 bl;go_wp2;go_ret;refine⟨rfl,fun h=>?_,HT.out⟩
  cases h
 case true=>
  obtain⟨hRow,hRd⟩:=hok rfl;obtain⟨A,cp,rfl,_⟩:=hRow.at_;rw[List.length_map]at hRow hno;have hRow1:As w1 w.heap.size 3 1 (.slice A us.length cp) (us.map Fz):=As.base hRow hz0;have hRow2:As (w1.setCell ⟨b,57,none⟩ (.slice A us.length cp)) w.heap.size 3 1 (.slice A us.length cp) (us.map Fz):=
   As.Ak hRow1 ((Touch.refl (fun k=>k=b) w1).An (g:=b) (o:=57) (.inl rfl) _) (fun j hj hg=>by have:=(As.lt hRow1 j hj).1;omega)
  have hA2:Blk (w1.setCell ⟨b,57,none⟩ (.slice A us.length cp)) b 51 ({ z with ua:=A,un:=us.length,uc:=cp }:Aa).vals:=hA1.Be 57 (.slice A us.length cp);have hR2:Rd (w1.setCell ⟨b,57,none⟩ (.slice A us.length cp)) g Q:=hRd.Ak ((Touch.refl (fun k=>k=b) w1).An (g:=b) (o:=57) (.inl rfl) _) (fun e=>hne e.symm);have hT2:=hT1.An (g:=b) (o:=57) (.inl (.inr rfl)) (.slice A us.length cp);have HL:=Zh (And.intro hR2 (And.intro hA2 (And.intro hT2 hRow2)));have hQ0:=HOKE.out rfl;clear hok hno hT hT1 hA1 hA0 hR0 HG hT0 bh bh1 bl hRow hRow1 hRow2 hA2 hR2 hT2 hRd;rw[List.length_map];go_wp2_with fail;refine(Cn g Q _ HL.out.1).mono ?_
  rintro e w3 ⟨rfl,rfl⟩;rw[hQ0];go_wp2;go_ret;refine⟨rfl,?_,HL.out.2.2.1⟩
  first
  |exact⟨A,cp,⟨HL.out.1,HL.out.2.1,HL.out.2.2.1⟩,HL.out.2.2.2⟩
  |exact fun _=>⟨A,cp,⟨HL.out.1,HL.out.2.1,HL.out.2.2.1⟩,HL.out.2.2.2⟩
theorem Apo (g b:Nat)(z:Aa)(r:Rs)(w:World)(hR:Rd w g r)(hA:Blk w b 51 z.vals)(hl:r.s.length<=9223372036854775807):Calls Tryz.prog 103 #[.pointer (some ⟨g,0,none⟩),.pointer (some ⟨b,0,none⟩),.int .i32 108] w fun e w'=>e=.returned (.bool (Ii false r)) /\
  (Ii false r=true->∃A c,O6 g b { z with ea:=A,en:=(Bd false (Am r).2 (Am r).1).1.length,ec:=c } (Bd false (Am r).2 (Am r).1).2 w w'/\As w' w.heap.size 126 15 (.slice A (Bd false (Am r).2 (Am r).1).1.length c) ((Bd false (Am r).2 (Am r).1).1.map Entry.vals))/\Touch (fun k=>k=g\/k=b) w w':=by
 have hne:b≠g:=Blk.ne_ hA hR.1 (by decide);obtain⟨bh,bl,hB0,hs0⟩:=A7 w [.pointer (some ⟨g,0,none⟩)] [.int .i32 108] 167 21;obtain⟨w0,hw0⟩:∃V,V=(w.alloc (.cells #[.pointer (some ⟨g,0,none⟩)] 167)).alloc (.cells #[.int .i32 108] 21):=⟨_,rfl⟩;replace bh:Blk w0 w.heap.size 167 [.pointer (some ⟨g,0,none⟩)]:=by rw[hw0];exact bh
 replace bl:Blk w0 (w.heap.size+1) 21 [.int .i32 108]:=by rw[hw0];exact bl
 replace hB0:Below w.heap.size w w0:=by rw[hw0];exact hB0
 have hgl:=hR.lt;have hbl:=hA.lt;have nh:w.heap.size≠g:=by omega
 have nb:w.heap.size≠b:=by omega
 have nb':b≠w.heap.size:=by omega
 have hR0:=hR.stays hB0;have hA0:=hA.stays hB0;have hT0:=Touch.Aq hB0 (fun k=>k=g\/k=b);have hz0:=hB0.size;have HW0:=Zh hw0;clear hw0 hB0 hs0 hR hA;have hG:=Aao g w.heap.size (w.heap.size+1) 108 false rfl r w0 hR0 bh bl hl;have HOKE:=Zh (show Ii false r=true->(Bd false (Am r).2 (Am r).1).2.e=0 from fun h=>Aev h);generalize Ii false r=OK at *;generalize (Bd false (Am r).2 (Am r).1).2=Q at *;generalize (Bd false (Am r).2 (Am r).1).1=us at *;have HG:=Zh hG;clear hG;go_enter Tryz.func103,Tryz.ntmps103
 go_wp2_with fail;rw[<-HW0.out];refine HG.out.mono ?_
 rintro e w1 ⟨v,rfl,hok,hno,hT⟩;have hA1:Blk w1 b 51 z.vals:=hA0.Ak hT hne;have bh1:=bh.Ak hT nh;have hf:=hA1.frozen 56;have hc:=hA1.cell 56;have c1:w1.cell? ⟨w.heap.size,0,none⟩=some (.pointer (some ⟨g,0,none⟩)):=bh1.cell 0;have hc:(w1.cell? ⟨b,56,none⟩).isSome=true:=by rw[hc];rfl
 obtain⟨old,hc⟩:=Option.isSome_iff_exists.1 hc;have hT1:Touch (fun k=>k=g\/k=b) w w1:=hT0.Ay (hT.mono fun _ _ h=>.inl h);cases OK
 case false=>
  have hv:=hno rfl;subst hv;have HT:=Zh (hT1.An (g:=b) (o:=56) (.inl (.inr rfl)) (.slice none 0 0));clear hok hno hT hT1 hA1 hA0 hR0 HG hT0 bh bh1 bl;go_wp2;go_ret;refine⟨rfl,fun h=>?_,HT.out⟩
  cases h
 case true=>
  obtain⟨hRow,hRd⟩:=hok rfl;obtain⟨A,cp,rfl,_⟩:=hRow.at_;rw[List.length_map]at hRow hno;have hRow1:As w1 w.heap.size 126 15 (.slice A us.length cp) (us.map Entry.vals):=As.base hRow hz0;have hRow2:As (w1.setCell ⟨b,56,none⟩ (.slice A us.length cp)) w.heap.size 126 15 (.slice A us.length cp) (us.map Entry.vals):=
   As.Ak hRow1 ((Touch.refl (fun k=>k=b) w1).An (g:=b) (o:=56) (.inl rfl) _) (fun j hj hg=>by have:=(As.lt hRow1 j hj).1;omega)
  have hA2:Blk (w1.setCell ⟨b,56,none⟩ (.slice A us.length cp)) b 51 ({ z with ea:=A,en:=us.length,ec:=cp }:Aa).vals:=hA1.Be 56 (.slice A us.length cp);have hR2:Rd (w1.setCell ⟨b,56,none⟩ (.slice A us.length cp)) g Q:=hRd.Ak ((Touch.refl (fun k=>k=b) w1).An (g:=b) (o:=56) (.inl rfl) _) (fun e=>hne e.symm);have hT2:=hT1.An (g:=b) (o:=56) (.inl (.inr rfl)) (.slice A us.length cp);have HL:=Zh (And.intro hR2 (And.intro hA2 (And.intro hT2 hRow2)));have hQ0:=HOKE.out rfl;clear hok hno hT hT1 hA1 hA0 hR0 HG hT0 bh bh1 bl hRow hRow1 hRow2 hA2 hR2 hT2 hRd;rw[List.length_map];go_wp2_with fail;refine(Cn g Q _ HL.out.1).mono ?_
  rintro e w3 ⟨rfl,rfl⟩;rw[hQ0];go_wp2;go_ret;refine⟨rfl,?_,HL.out.2.2.1⟩
  first
  |exact⟨A,cp,⟨HL.out.1,HL.out.2.1,HL.out.2.2.1⟩,HL.out.2.2.2⟩
  |exact fun _=>⟨A,cp,⟨HL.out.1,HL.out.2.1,HL.out.2.2.1⟩,HL.out.2.2.2⟩
theorem Apm (g b:Nat)(z:Aa)(r:Rs)(w:World)(hR:Rd w g r)(hA:Blk w b 51 z.vals)(hl:r.s.length<=9223372036854775807):Calls Tryz.prog 103 #[.pointer (some ⟨g,0,none⟩),.pointer (some ⟨b,0,none⟩),.int .i32 112] w fun e w'=>e=.returned (.bool (Ii true r)) /\
  (Ii true r=true->∃A c,O6 g b { z with ea:=A,en:=(Bd true (Am r).2 (Am r).1).1.length,ec:=c } (Bd true (Am r).2 (Am r).1).2 w w'/\As w' w.heap.size 126 15 (.slice A (Bd true (Am r).2 (Am r).1).1.length c) ((Bd true (Am r).2 (Am r).1).1.map Entry.vals))/\Touch (fun k=>k=g\/k=b) w w':=by
 have hne:b≠g:=Blk.ne_ hA hR.1 (by decide);obtain⟨bh,bl,hB0,hs0⟩:=A7 w [.pointer (some ⟨g,0,none⟩)] [.int .i32 112] 167 21;obtain⟨w0,hw0⟩:∃V,V=(w.alloc (.cells #[.pointer (some ⟨g,0,none⟩)] 167)).alloc (.cells #[.int .i32 112] 21):=⟨_,rfl⟩;replace bh:Blk w0 w.heap.size 167 [.pointer (some ⟨g,0,none⟩)]:=by rw[hw0];exact bh
 replace bl:Blk w0 (w.heap.size+1) 21 [.int .i32 112]:=by rw[hw0];exact bl
 replace hB0:Below w.heap.size w w0:=by rw[hw0];exact hB0
 have hgl:=hR.lt;have hbl:=hA.lt;have nh:w.heap.size≠g:=by omega
 have nb:w.heap.size≠b:=by omega
 have nb':b≠w.heap.size:=by omega
 have hR0:=hR.stays hB0;have hA0:=hA.stays hB0;have hT0:=Touch.Aq hB0 (fun k=>k=g\/k=b);have hz0:=hB0.size;have HW0:=Zh hw0;clear hw0 hB0 hs0 hR hA;have hG:=Aao g w.heap.size (w.heap.size+1) 112 true rfl r w0 hR0 bh bl hl;have HOKE:=Zh (show Ii true r=true->(Bd true (Am r).2 (Am r).1).2.e=0 from fun h=>Aev h);generalize Ii true r=OK at *;generalize (Bd true (Am r).2 (Am r).1).2=Q at *;generalize (Bd true (Am r).2 (Am r).1).1=us at *;have HG:=Zh hG;clear hG;go_enter Tryz.func103,Tryz.ntmps103
 go_wp2_with fail;rw[<-HW0.out];refine HG.out.mono ?_
 rintro e w1 ⟨v,rfl,hok,hno,hT⟩;have hA1:Blk w1 b 51 z.vals:=hA0.Ak hT hne;have bh1:=bh.Ak hT nh;have hf:=hA1.frozen 56;have hc:=hA1.cell 56;have c1:w1.cell? ⟨w.heap.size,0,none⟩=some (.pointer (some ⟨g,0,none⟩)):=bh1.cell 0;have hc:(w1.cell? ⟨b,56,none⟩).isSome=true:=by rw[hc];rfl
 obtain⟨old,hc⟩:=Option.isSome_iff_exists.1 hc;have hT1:Touch (fun k=>k=g\/k=b) w w1:=hT0.Ay (hT.mono fun _ _ h=>.inl h);cases OK
 case false=>
  have hv:=hno rfl;subst hv;have HT:=Zh (hT1.An (g:=b) (o:=56) (.inl (.inr rfl)) (.slice none 0 0));clear hok hno hT hT1 hA1 hA0 hR0 HG hT0 bh bh1 bl;go_wp2;go_ret;refine⟨rfl,fun h=>?_,HT.out⟩
  cases h
 case true=>
  obtain⟨hRow,hRd⟩:=hok rfl;obtain⟨A,cp,rfl,_⟩:=hRow.at_;rw[List.length_map]at hRow hno;have hRow1:As w1 w.heap.size 126 15 (.slice A us.length cp) (us.map Entry.vals):=As.base hRow hz0;have hRow2:As (w1.setCell ⟨b,56,none⟩ (.slice A us.length cp)) w.heap.size 126 15 (.slice A us.length cp) (us.map Entry.vals):=
   As.Ak hRow1 ((Touch.refl (fun k=>k=b) w1).An (g:=b) (o:=56) (.inl rfl) _) (fun j hj hg=>by have:=(As.lt hRow1 j hj).1;omega)
  have hA2:Blk (w1.setCell ⟨b,56,none⟩ (.slice A us.length cp)) b 51 ({ z with ea:=A,en:=us.length,ec:=cp }:Aa).vals:=hA1.Be 56 (.slice A us.length cp);have hR2:Rd (w1.setCell ⟨b,56,none⟩ (.slice A us.length cp)) g Q:=hRd.Ak ((Touch.refl (fun k=>k=b) w1).An (g:=b) (o:=56) (.inl rfl) _) (fun e=>hne e.symm);have hT2:=hT1.An (g:=b) (o:=56) (.inl (.inr rfl)) (.slice A us.length cp);have HL:=Zh (And.intro hR2 (And.intro hA2 (And.intro hT2 hRow2)));have hQ0:=HOKE.out rfl;clear hok hno hT hT1 hA1 hA0 hR0 HG hT0 bh bh1 bl hRow hRow1 hRow2 hA2 hR2 hT2 hRd;rw[List.length_map];go_wp2_with fail;refine(Cn g Q _ HL.out.1).mono ?_
  rintro e w3 ⟨rfl,rfl⟩;rw[hQ0];go_wp2;go_ret;refine⟨rfl,?_,HL.out.2.2.1⟩
  first
  |exact⟨A,cp,⟨HL.out.1,HL.out.2.1,HL.out.2.2.1⟩,HL.out.2.2.2⟩
  |exact fun _=>⟨A,cp,⟨HL.out.1,HL.out.2.1,HL.out.2.2.1⟩,HL.out.2.2.2⟩
def Pj (B b:Nat)(d:Dd)(W:World):Prop:=
 ∃z:Aa,Blk W b 51 z.vals/\z.bare=d.f/\As W B 126 15 (.slice z.ea z.en z.ec) (d.es.map Entry.vals)/\As W B 3 1 (.slice z.ua z.un z.uc) (d.us.map Fz)
def Hp (c:Nat):Prop:=c=104\/c=97\/c=68\/c=119\/c=87\/c=120\/c=99\/c=115\/c=118\/c=101\/c=100\/c=110\/c=108\/c=112
theorem As.Hy {w w':World}{B e sz:Nat}{v:Value}{rows:List (List Value)}{g b:Nat}{r:Rs}{cs:List Value}(h:As w B e sz v rows)(hR:Rd w g r)(hA:Blk w b 51 cs)(h1:e≠200)(h2:e≠51)(hT:Touch (fun k=>k=g\/k=b) w w'):As w' B e sz v rows:=
 As.Ak h hT fun k hk hg=>by
  rcases hg with rfl|rfl
  ·exact Blk.M1 h.2 hR.1 h1 hk
  ·exact Blk.M1 h.2 hA h2 hk
def Asg (c:Nat)(g b B:Nat)(d:Dd)(r:Rs)(w:World)(e:Ending)(w':World):Prop:=
 e=.returned (.bool (Qr c r))/\(Qr c r=true->Pj B b (pTk c d r).1 w'/\Rd w' g (pTk c d r).2)/\Touch (fun k=>k=g\/k=b) w w'
theorem Akc (g b B:Nat)(d:Dd)(r:Rs)(c:Nat)(hc:Hp c)(w:World)(hR:Rd w g r)(hD:Pj B b d w)(hB:B<=w.heap.size)(hl:r.s.length<=9223372036854775807) :
  Calls Tryz.prog 103 #[.pointer (some ⟨g,0,none⟩),.pointer (some ⟨b,0,none⟩),.int .i32 c] w (Asg c g b B d r w):=by
 obtain⟨z,hA,hz,hE,hU⟩:=hD;obtain⟨df,des,dus⟩:=d;simp only at hz hE hU
 subst hz;rcases hc with rfl|rfl|rfl|rfl|rfl|rfl|rfl|rfl|rfl|rfl|rfl|rfl|rfl|rfl
 ·refine(Apq g b z r w hR hA hl).mono ?_
  rintro e w' ⟨rfl,hT⟩;exact⟨rfl,fun _=>⟨⟨_,hT.C,rfl,hE.Hy hR hA (by decide) (by decide) hT.T,hU.Hy hR hA (by decide) (by decide) hT.T⟩,hT.R⟩,hT.T⟩
 ·refine(Apu g b z r w hR hA hl).mono ?_
  rintro e w' ⟨rfl,hT⟩;exact⟨rfl,fun _=>⟨⟨_,hT.C,rfl,hE.Hy hR hA (by decide) (by decide) hT.T,hU.Hy hR hA (by decide) (by decide) hT.T⟩,hT.R⟩,hT.T⟩
 ·refine(Amp g b z r w hR hA hl).mono ?_
  rintro e w' ⟨rfl,hT⟩;exact⟨rfl,fun _=>⟨⟨_,hT.C,rfl,hE.Hy hR hA (by decide) (by decide) hT.T,hU.Hy hR hA (by decide) (by decide) hT.T⟩,hT.R⟩,hT.T⟩
 ·refine(Apj g b z r w hR hA hl).mono ?_
  rintro e w' ⟨rfl,hT⟩;exact⟨rfl,fun _=>⟨⟨_,hT.C,rfl,hE.Hy hR hA (by decide) (by decide) hT.T,hU.Hy hR hA (by decide) (by decide) hT.T⟩,hT.R⟩,hT.T⟩
 ·refine(Amo g b z r w hR hA hl).mono ?_
  rintro e w' ⟨rfl,hT⟩;exact⟨rfl,fun _=>⟨⟨_,hT.C,rfl,hE.Hy hR hA (by decide) (by decide) hT.T,hU.Hy hR hA (by decide) (by decide) hT.T⟩,hT.R⟩,hT.T⟩
 ·refine(Api g b z r w hR hA hl).mono ?_
  rintro e w' ⟨rfl,hT⟩;exact⟨rfl,fun _=>⟨⟨_,hT.C,rfl,hE.Hy hR hA (by decide) (by decide) hT.T,hU.Hy hR hA (by decide) (by decide) hT.T⟩,hT.R⟩,hT.T⟩
 ·refine(Apt g b z r w hR hA hl).mono ?_
  rintro e w' ⟨rfl,hT⟩;exact⟨rfl,fun _=>⟨⟨_,hT.C,rfl,hE.Hy hR hA (by decide) (by decide) hT.T,hU.Hy hR hA (by decide) (by decide) hT.T⟩,hT.R⟩,hT.T⟩
 ·refine(Apl g b z r w hR hA hl).mono ?_
  rintro e w' ⟨rfl,hT⟩;exact⟨rfl,fun _=>⟨⟨_,hT.C,rfl,hE.Hy hR hA (by decide) (by decide) hT.T,hU.Hy hR hA (by decide) (by decide) hT.T⟩,hT.R⟩,hT.T⟩
 ·refine(Apk g b z r w hR hA hl).mono ?_
  rintro e w' ⟨rfl,hT⟩;exact⟨rfl,fun _=>⟨⟨_,hT.C,rfl,hE.Hy hR hA (by decide) (by decide) hT.T,hU.Hy hR hA (by decide) (by decide) hT.T⟩,hT.R⟩,hT.T⟩
 ·refine(Apr g b z r w hR hA hl).mono ?_
  rintro e w' ⟨rfl,hT⟩;exact⟨rfl,fun _=>⟨⟨_,hT.C,rfl,hE.Hy hR hA (by decide) (by decide) hT.T,hU.Hy hR hA (by decide) (by decide) hT.T⟩,hT.R⟩,hT.T⟩
 ·refine(Aps g b z r w hR hA hl).mono ?_
  rintro e w' ⟨rfl,hT⟩;exact⟨rfl,fun _=>⟨⟨_,hT.C,rfl,hE.Hy hR hA (by decide) (by decide) hT.T,hU.Hy hR hA (by decide) (by decide) hT.T⟩,hT.R⟩,hT.T⟩
 ·refine(Apn g b z r w hR hA hl).mono ?_
  rintro e w' ⟨rfl,hok,hT⟩;refine⟨rfl,fun h=>?_,hT⟩
  obtain⟨A,cp,hk,hrow⟩:=hok h;exact⟨⟨_,hk.C,rfl,hE.Hy hR hA (by decide) (by decide) hT,As.base hrow hB⟩,hk.R⟩
 ·refine(Apo g b z r w hR hA hl).mono ?_
  rintro e w' ⟨rfl,hok,hT⟩;refine⟨rfl,fun h=>?_,hT⟩
  obtain⟨A,cp,hk,hrow⟩:=hok h;exact⟨⟨_,hk.C,rfl,As.base hrow hB,hU.Hy hR hA (by decide) (by decide) hT⟩,hk.R⟩
 ·refine(Apm g b z r w hR hA hl).mono ?_
  rintro e w' ⟨rfl,hok,hT⟩;refine⟨rfl,fun h=>?_,hT⟩
  obtain⟨A,cp,hk,hrow⟩:=hok h;exact⟨⟨_,hk.C,rfl,As.base hrow hB,hU.Hy hR hA (by decide) (by decide) hT⟩,hk.R⟩
attribute [local go_sem] Aa.at0 Aa.Bo Aa.at1 Aa.Bk Aa.at2 Aa.Ca Aa.at3 Aa.Cg Aa.at4 Aa.Cx Aa.at5 Aa.Cw Aa.at6 Aa.Cv Aa.at7 Aa.Cu Aa.at8 Aa.Ct Aa.at9 Aa.Cs Aa.Ee Aa.C4 Aa.Fm Aa.Dm Aa.Fl Aa.Dl Aa.Ia Aa.Ep Aa.H9 Aa.Eo Aa.Lx Aa.Hg Aa.Lw Aa.Hf Aa.Lv Aa.He Aa.Lu Aa.Hd Aa.Lt Aa.Hc Aa.Ls Aa.Ha Aa.Lr Aa.G9 Aa.Lq Aa.G8 Aa.Lp Aa.G7 Aa.Aah Aa.Sx Aa.Aag Aa.Sw Aa.Aaf Aa.Sv Aa.Aae Aa.Su Aa.Aad Aa.St Aa.Aac Aa.Ss Aa.Afz Aa.Wn Aa.Afy Aa.Wm Aa.Afx Aa.Wl Aa.Afw Aa.Wk Aa.Afv Aa.Wj Aa.Afu Aa.Wi Aa.Aft Aa.Wh Aa.Afs Aa.Wg Aa.Afr Aa.Wf Aa.Afq Aa.We Aa.Afp Aa.Wd Aa.Afo Aa.Wc Aa.Afn Aa.Wb Aa.Afm Aa.Wa Aa.Afl Aa.V9 Aa.Afk Aa.V8 Aa.Afj Aa.V7 Aa.Afi Aa.V6 Aa.Afh Aa.V0 Aa.Afg Aa.Vz Aa.Aff Aa.Vy Aa.Afe Aa.Vx Aa.Afd Aa.Vw Aa.Afc Aa.Vv Aa.Afb Aa.Vu Aa.Afa Aa.Vt Aa.Ae9 Aa.Vs Aa.Ae8 Aa.Vr Aa.Oq Aa.Mu Aa.Fa Aa.Ec Aa.E9 Aa.Eb Aa.Mj Aa.Kh Aa.Mi Aa.Kg Aa.Mh Aa.Kf Aa.Oo Aa.Mt Aa.Mg Aa.Ke Aa.Mf Aa.Kd Aa.Me Aa.Kc Aa.On Aa.Ms Aa.Md Aa.Kb Aa.Mc Aa.Ka Aa.len
section
attribute [local go_sem ↓] Qg
theorem Xl (fine:Bool):∀s∈Dn fine,∀c∈s,c.toNat<128/\Hp c.toNat:=by
 unfold Hp;cases fine<;>decide
theorem G5 (p:Int)(fine:Bool){k:Nat}(hk:k<(Bg p fine).length):(Bg p fine)[k].toNat<128/\Hp (Bg p fine)[k].toNat:=by
 have hm:(Bg p fine)[k]∈Bg p fine:=List.getElem_mem hk;generalize (Bg p fine)[k]=c at *;unfold Bg at hm;split at hm
 ·simp at hm
 ·rcases Nat.lt_or_ge p.toNat (Dn fine).length with h|h
  ·have he:(Dn fine).getD p.toNat []=(Dn fine)[p.toNat]:=by simp[List.getD,List.getElem?_eq_getElem h]
   rw[he]at hm;exact Xl fine _ (List.getElem_mem h) _ hm
  ·simp[List.getD,List.getElem?_eq_none h]at hm
def Ok (p:Int)(s:List UInt8):Option Dd:=
 if (Am ⟨s,0⟩).2.e≠0\/Ih (Am ⟨s,0⟩).1=false then none
 else if (∀k,k<(Bg p ((Am ⟨s,0⟩).1==0)).length->Nv (Bg p ((Am ⟨s,0⟩).1==0)) (Ir (Am ⟨s,0⟩).1) (Am ⟨s,0⟩).2 k=true) /\
  Qq (pSt (Bg p ((Am ⟨s,0⟩).1==0)) (Ir (Am ⟨s,0⟩).1) (Am ⟨s,0⟩).2 (Bg p ((Am ⟨s,0⟩).1==0)).length).2=0
 then some (pSt (Bg p ((Am ⟨s,0⟩).1==0)) (Ir (Am ⟨s,0⟩).1) (Am ⟨s,0⟩).2 (Bg p ((Am ⟨s,0⟩).1==0)).length).1 else none
theorem Blk.T9 {w:World}{g b pos:Nat}{T:TypeId}{cs:List Value}{l:List UInt8}(h:Blk w g T cs)(hI:Itr w b l pos):g≠b:=by
 intro e;subst e;unfold Blk at h;unfold Itr at hI;rw[hI]at h;cases h
theorem G0 {α:Type}(P:α->Prop){c:Prop}[Decidable c]{a b:α}(ha:P a)(hb:P b):P (if c then a else b):=by split<;>assumption
theorem As.Qe {w:World}{B e sz:Nat}{v:Value}{rows:List (List Value)}{it:Nat}{l:List UInt8}{pos:Nat}(h:As w B e sz v rows)(hI:Itr w it l pos)(k:Nat)(hk:v.ownBlock=some k):k≠it:=by
 rintro rfl;rcases h.2.2 with ⟨rfl,_⟩|⟨g,cap,cur,rfl,_,hh,_⟩
 ·simp[Value.ownBlock]at hk
 ·obtain rfl:g=k:=by simpa[Value.ownBlock] using hk
  unfold Itr at hI;rw[hI]at hh;cases hh
theorem Pj.setIter {B b it:Nat}{d:Dd}{W:World}{l:List UInt8}{pos:Nat}(h:Pj B b d W)(hI:Itr W it l pos)(p:Nat):Pj B b d (W.setIter it l p):=by
 obtain⟨z,hA,hz,hE,hU⟩:=h;have hT:=(Touch.refl (fun k=>k=it) W).setIter (b:=it) (.inl rfl) l p;exact⟨z,hA.Ql (hA.T9 hI) _ _,hz,As.Ak hE hT (fun k hk hf=>hE.Qe hI k hk hf),As.Ak hU hT (fun k hk hf=>hU.Qe hI k hk hf)⟩
theorem Pj.stays {B b:Nat}{d:Dd}{W W':World}(h:Pj B b d W)(hb:Below W.heap.size W W'):Pj B b d W':=by
 obtain⟨z,hA,hz,hE,hU⟩:=h;exact⟨z,hA.stays hb,hz,As.stays hE hb,As.stays hU hb⟩
theorem Apw (c:Nat)(d:Dd){r:Rs}(h:r.s.length<=9223372036854775807):(pTk c d r).2.s.length<=9223372036854775807:=by
 have ho:=fun n=>Nat.le_trans (M8 (n:=n) h) h
 have hp:=Nu h;have h4:=Nat.le_trans (Em h) h;have h8:=Nat.le_trans (Hx h) h;have hb:=Nat.le_trans (Lj h) h;have hw:(Ei r).2.s.length<=9223372036854775807:=Nu (Nat.le_trans (Rc h) h);have hn:=Sa h4 (Am r).1;have he:=fun b=>Ni (whole:=b) h4 (Am r).1
 unfold pTk;exact(G0 (fun x:Dd × Rs=>x.2.s.length<=9223372036854775807) (ho _) (G0 (fun x:Dd × Rs=>x.2.s.length<=9223372036854775807) hp (G0 (fun x:Dd × Rs=>x.2.s.length<=9223372036854775807) hp (G0 (fun x:Dd × Rs=>x.2.s.length<=9223372036854775807) hw (G0 (fun x:Dd × Rs=>x.2.s.length<=9223372036854775807) hw (G0 (fun x:Dd × Rs=>x.2.s.length<=9223372036854775807) h4 (G0 (fun x:Dd × Rs=>x.2.s.length<=9223372036854775807) h4 (G0 (fun x:Dd × Rs=>x.2.s.length<=9223372036854775807) h4 (G0 (fun x:Dd × Rs=>x.2.s.length<=9223372036854775807) h8 (G0 (fun x:Dd × Rs=>x.2.s.length<=9223372036854775807) hb (G0 (fun x:Dd × Rs=>x.2.s.length<=9223372036854775807) (ho _) (G0 (fun x:Dd × Rs=>x.2.s.length<=9223372036854775807) hn (G0 (fun x:Dd × Rs=>x.2.s.length<=9223372036854775807) (he _) (G0 (fun x:Dd × Rs=>x.2.s.length<=9223372036854775807) (he _) h))))))))))))))
theorem Xp (l:List UInt8)(d:Dd){r:Rs}(h:r.s.length<=9223372036854775807)(k:Nat)(hk:k<=l.length):(pSt l d r k).2.s.length<=9223372036854775807:=by
 induction k with
 |zero=>exact h
 |succ k ih=>rw[Ps _ _ _ _ (by omega)];exact Apw _ _ (ih (by omega))
def Xe (x:Option Dd)(w:World)(e:Ending)(w':World):Prop:=
 (match x with
  |some d=>∃z:Aa,e=.returned (.tuple #[.agg z.vals.toArray,.int .i64 0])/\z.bare=d.f/\As w' w.heap.size 126 15 (.slice z.ea z.en z.ec) (d.es.map Entry.vals)/\As w' w.heap.size 3 1 (.slice z.ua z.un z.uc) (d.us.map Fz)
  |none=>e=.returned (.tuple #[.agg Bt.vals.toArray,.int .i64 14]))/\Below w.heap.size w w'
theorem Xe.no {x:Option Dd}{w w':World}(h:x=none)(hB:Below w.heap.size w w'):Xe x w (.returned (.tuple #[.agg Bt.vals.toArray,.int .i64 14])) w':=by subst h;exact⟨rfl,hB⟩
theorem Amc (p:Int)(hp:0<=p/\p<=21)(s:List UInt8)(w:World)(hl:s.length<=9223372036854775807) :
  Calls Tryz.prog 44 #[.int .i64 p,.string (bs s)] w (Xe (Ok p s) w):=by
 have b0:=Blk.new w 51 Bt.vals;have hB0:Below w.heap.size w (w.alloc (.cells Bt.vals.toArray 51)):=(Below.refl _ _).alloc (Nat.le_refl _) _;have hs0:(w.alloc (.cells Bt.vals.toArray 51)).heap.size=w.heap.size+1:=by simp
 have K:=fun W g (h:Rd W g ⟨s,0⟩)=>G3 g ⟨s,0⟩ W h hl
 have HP:=Zh (show Ok p s=if (Am ⟨s,0⟩).2.e≠0\/Ih (Am ⟨s,0⟩).1=false then none
  else if (∀k,k<(Bg p ((Am ⟨s,0⟩).1==0)).length->Nv (Bg p ((Am ⟨s,0⟩).1==0)) (Ir (Am ⟨s,0⟩).1) (Am ⟨s,0⟩).2 k=true) /\
   Qq (pSt (Bg p ((Am ⟨s,0⟩).1==0)) (Ir (Am ⟨s,0⟩).1) (Am ⟨s,0⟩).2 (Bg p ((Am ⟨s,0⟩).1==0)).length).2=0
  then some (pSt (Bg p ((Am ⟨s,0⟩).1==0)) (Ir (Am ⟨s,0⟩).1) (Am ⟨s,0⟩).2 (Bg p ((Am ⟨s,0⟩).1==0)).length).1 else none from rfl)
 have hq:=Nat.le_trans (Em (r:=⟨s,0⟩) hl) hl;generalize Ok p s=RES at *;generalize Am ⟨s,0⟩=y at *;obtain⟨n,q⟩:=y;simp only at K HP hq
 have K:=Zh K;go_enter Tryz.func44,Tryz.ntmps44
 go_wp2_with fail;change Calls _ _ _ (w.alloc (.cells Bt.vals.toArray 51)) _;generalize w.alloc (.cells Bt.vals.toArray 51)=w0 at *;refine(Agf p _ hp).mono ?_
 rintro e w1 ⟨rfl,rfl⟩;go_wp2_with fail;refine(Vg s _).mono ?_
 rintro e w1 ⟨rfl,hR1,hB1⟩;replace b0:=b0.stays hB1;have hBB1:=Ad hB0 hB1;rw[hs0]at hR1 ⊢;clear hB0 hB1 hs0;go_wp2_with fail;refine(K.out _ _ hR1).mono ?_
 rintro e w2 ⟨rfl,hQ⟩;have hg0:w.heap.size≠w.heap.size+1:=by omega
 replace b0:=b0.Ak hQ.2 hg0;have hlw:=b0.lt;have hB2:=hBB1.trans (hQ.2.below (B:=w.heap.size) (fun k _ hk=>by omega) hBB1.size);obtain⟨z,hz⟩:∃z:Aa,z={ Bt with status:=n }:=⟨_,rfl⟩;have hx:=(Below.refl w2.heap.size w2).alloc (Nat.le_refl _) (.cells z.vals.toArray 51);have x3:=Blk.new w2 51 z.vals;obtain⟨w3,hw3⟩:∃V,V=w2.alloc (.cells z.vals.toArray 51):=⟨_,rfl⟩;rw[<-hw3]at hx x3;have HW3:=Zh hw3;have HZ:=Zh hz;replace b0:=b0.stays hx;have hR3:=hQ.1.stays hx;have HB:=Zh (Ad hB2 hx);have c0:w3.cell? ⟨w2.heap.size,0,none⟩=some (.int .i64 n):=by rw[x3.cell 0,HZ.out];rfl
 clear hQ hB2 hx hw3 hz hBB1 hR1 K
 go_wp2_with (first
  |(refine De (by rfl) 51 _ _ (by rfl) z.vals Bt.vals w2 51 rfl (by rfl) (by rfl) (by rw[HZ.out];rfl) (by kernel_rfl) (Aa.one _) ?_;rw[<-HW3.out])
  |fail)
 refine(Cn _ q _ hR3).mono ?_
 rintro e w4 ⟨rfl,rfl⟩;by_cases he:q.e=0
 case neg=>
  have he2:(q.e != 0)=true:=by simpa using he
  go_wp2_with (first|(refine Ae (by rfl) 51 _ _ (by rfl) w.heap.size Bt.vals _ b0 (by rfl) (by rfl) (by rfl) (by kernel_rfl) (Aa.one _) ?_)|fail)
  refine Ap w.heap.size 0 Bt.vals (.int .i64 14) Tryz.results44 Tryz.underlying51 rfl (by kernel_rfl) rfl rfl (b0.whole (by rfl)).range rfl ?_
  exact Xe.no (by rw[HP.out];grind) (Below.Bf HB.out (Nat.le_refl _) _)
 rw[he];go_wp2_with fail;refine(X9 n _).mono ?_
 rintro e w4 ⟨rfl,hb⟩;replace b0:=b0.stays hb;replace x3:=x3.stays hb;replace hR3:=hR3.stays hb;replace HB:=Zh (Ad HB.out hb);have c0:w4.cell? ⟨w2.heap.size,0,none⟩=some (.int .i64 n):=by rw[x3.cell 0,HZ.out];rfl
 clear hb;cases hk:Ih n
 case false=>
  go_wp2_with (first|(refine Ae (by rfl) 51 _ _ (by rfl) w.heap.size Bt.vals _ b0 (by rfl) (by rfl) (by rfl) (by kernel_rfl) (Aa.one _) ?_)|fail)
  refine Ap w.heap.size 0 Bt.vals (.int .i64 14) Tryz.results44 Tryz.underlying51 rfl (by kernel_rfl) rfl rfl (b0.whole (by rfl)).range rfl ?_
  exact Xe.no (by rw[HP.out,if_pos (.inr hk)]) (Below.Bf HB.out (Nat.le_refl _) _)
 have HP2:=Zh (HP.out.trans (if_neg (show ¬(q.e≠0\/Ih n=false) by simp[he,hk])));obtain⟨l,hlf⟩:∃l,l=Bg p (n==0):=⟨_,rfl⟩;have hlet:∀k (hk:k<l.length),l[k].toNat<128/\Hp l[k].toNat:=by rw[hlf];exact fun k hk=>G5 p _ hk
 have KF:=Xh p (n==0);rw[<-hlf]at HP2 KF;have KF:=Zh KF;have hbe:((n:Int)==0)=(n==0):=by rw[Bool.eq_iff_iff];simp
 have HBE:=Zh hbe;clear hlf HP hk hbe;go_wp2_with fail;rw[HBE.out];refine(KF.out _).mono ?_
 rintro e w5 ⟨rfl,hb⟩;have hD0:Pj w.heap.size w2.heap.size (Ir n) w5:=⟨z,x3.stays hb,by rw[HZ.out];rfl,by rw[HZ.out];exact As.none_,by rw[HZ.out];exact As.none_⟩;replace b0:=b0.stays hb;replace hR3:=hR3.stays hb;replace HB:=Zh (Ad HB.out hb);have hbw:w2.heap.size<w5.heap.size:=Nat.lt_of_lt_of_le x3.lt hb.size;have hI:=Itr.new w5 l;clear hb x3 c0 KF;go_wp2;have hx6:Below w5.heap.size w5 (w5.iter (bs l) 0):=(Below.refl w5.heap.size w5).alloc (Nat.le_refl _) (.stringIter (bs l) 0);replace hD0:=hD0.stays hx6;replace b0:=b0.stays hx6;replace hR3:=hR3.stays hx6;have hwi:w.heap.size<=w5.heap.size:=HB.out.size;replace HB:=Zh (Ad HB.out hx6);clear hx6;generalize w5.iter (bs l) 0=w6 at *;generalize w5.heap.size=it at *;have HST:=Zh (fun k (hk:k<l.length)=>(show Nv l (Ir n) q k=Qr l[k].toNat (pSt l (Ir n) q k).2 by simp[Nv,List.getD,List.getElem?_eq_getElem hk]));have HSS:=Zh (fun k hk=>Ps l (Ir n) q k hk);have HSL:=Zh (fun k hk=>Xp l (Ir n) hq k hk)
 go_loopw [9] (fun _ wr=>∃k:Nat,k<=l.length/\(∀j,j<k->Nv l (Ir n) q j=true)/\Pj w.heap.size w2.heap.size (pSt l (Ir n) q k).1 wr/\Rd wr (w.heap.size+1) (pSt l (Ir n) q k).2/\Blk wr w.heap.size 51 Bt.vals/\Below w.heap.size w wr/\Itr wr it l k) (fun _ wr=>l.length - Acm wr it)
 case atStart=>exact⟨0,Nat.zero_le _,fun _ h=>absurd h (Nat.not_lt_zero _),hD0,hR3,b0,HB.out,hI⟩
 case round=>
  clear hD0 hR3 b0 hI;obtain⟨k,hk,hall,hD,hR,b0,hB,hI⟩:=hrel;by_cases hlk:k<l.length
  ·have hn:=fun ty=>Tz (P:=Tryz.prog) hI hlk (hlet k hlk).1 ty
   have hD2:=hD.setIter hI (k+1);have b2:=b0.Ql (b0.T9 hI) l (k+1);have hR2:Rd (wr.setIter it l (k+1)) (w.heap.size+1) (pSt l (Ir n) q k).2:=⟨hR.1.Ql (hR.1.T9 hI) l (k+1),hR.2⟩;have hI2:=hI.Be (k+1);have hB2:=Below.setIter hB (b:=it) hwi l (k+1);have KT:=Zh (Akc (w.heap.size+1) w2.heap.size w.heap.size _ _ l[k].toNat (hlet k hlk).2 _ hR2 hD2 hB2.size (HSL.out k hk));go_wp2_with fail;refine KT.out.mono ?_
   rintro e w7 ⟨rfl,hok,hT⟩;have hI3:=hI2.Ak hT (fun e=>by
    rcases e with e|e
    ·exact hR2.1.T9 hI2 e.symm
    ·obtain⟨_,hA,_⟩:=hD2
     exact hA.T9 hI2 e.symm)
   have hgb:w2.heap.size≠w.heap.size:=by omega
   have b3:=b2.Ak hT (fun e=>by rcases e with e|e<;>omega);have hB3:=hB2.trans (hT.below (B:=w.heap.size) (fun j _ hf=>by rcases hf with rfl|rfl<;>omega) hB2.size);cases hb:Qr l[k].toNat (pSt l (Ir n) q k).2
   case true=>
    obtain⟨hD3,hR3⟩:=hok hb;rw[<-HSS.out k hlk]at hD3 hR3;have HALL:=Zh (show ∀j,j<k+1->Nv l (Ir n) q j=true from fun j hj=>by
     rcases Nat.lt_or_ge j k with h|h
     ·exact hall j h
     ·obtain rfl:j=k:=by omega
      rw[HST.out j hlk];exact hb)
    have hp1:=hI.Apv;have hp3:=hI3.Apv;clear hn hD hD2 hR hR2 hI hI2 hB hB2 b0 b2 hok hall KT hT;go_wp2;go_roundw
    case rel=>exact⟨k+1,by omega,HALL.out,hD3,hR3,b3,hB3,hI3⟩
    case measure=>rw[hp1,hp3];omega
   case false=>
    have HN:=Zh (show RES=none by
     rw[HP2.out];refine if_neg fun h=>?_
     have:=h.1 k hlk;rw[HST.out k hlk,hb]at this;cases this)
    have b0:=b3;have HB:=Zh hB3;clear hn hD hD2 hR hR2 hI hI2 hI3 hB hB2 b2 hok hall KT hT
    go_wp2_with (first|(refine Ae (by rfl) 51 _ _ (by rfl) w.heap.size Bt.vals _ b0 (by rfl) (by rfl) (by rfl) (by kernel_rfl) (Aa.one _) ?_)|fail)
    refine Ap w.heap.size 0 Bt.vals (.int .i64 14) Tryz.results44 Tryz.underlying51 rfl (by kernel_rfl) rfl rfl (b0.whole (by rfl)).range rfl ?_
    exact Xe.no HN.out (Below.Bf HB.out (Nat.le_refl _) _)
  ·have hn:=fun ty=>Pq (P:=Tryz.prog) hI hlk ty
   obtain rfl:k=l.length:=by omega
   have HB:=Zh hB;have HALL:=Zh hall;have HD:=Zh hD;have HR:=Zh hR;clear hB hall hD hR;go_wp2_with fail;refine(Aka _ _ _ HR.out).mono ?_
   rintro e w7 ⟨rfl,rfl⟩;by_cases hd:Qq (pSt l (Ir n) q l.length).2=0
   case neg=>
    have HN:=Zh (show RES=none by
     rw[HP2.out];exact if_neg fun h=>hd h.2)
    have hd2:(Qq (pSt l (Ir n) q l.length).2 != 0)=true:=by simpa using hd
    go_wp2_with (first|(refine Ae (by rfl) 51 _ _ (by rfl) w.heap.size Bt.vals _ b0 (by rfl) (by rfl) (by rfl) (by kernel_rfl) (Aa.one _) ?_)|fail)
    refine Ap w.heap.size 0 Bt.vals (.int .i64 14) Tryz.results44 Tryz.underlying51 rfl (by kernel_rfl) rfl rfl (b0.whole (by rfl)).range rfl ?_
    exact Xe.no HN.out (Below.Bf HB.out (Nat.le_refl _) _)
   have HS:=Zh (show RES=some (pSt l (Ir n) q l.length).1 by
    rw[HP2.out];exact if_pos ⟨HALL.out,hd⟩)
   rw[hd];obtain⟨z',hA,hz',hE,hU⟩:=HD.out;have r4:=hA.row 0 58 (by simp[Aa.len]);rw[show (z'.vals.drop 0).take 58=z'.vals by rw[List.drop_zero,List.take_of_length_le (by rw[Aa.len];omega)]]at r4;have hTz:=Touch.setCells (F:=fun k=>k=w.heap.size) (g:=w.heap.size) (.inl rfl) z'.vals 0 wr (Touch.refl _ _);have hE2:=As.Ak hE hTz (fun k hk hf=>by subst hf;exact Blk.M1 hE.2 b0 (by decide) hk);have hU2:=As.Ak hU hTz (fun k hk hf=>by subst hf;exact Blk.M1 hU.2 b0 (by decide) hk);have HL:=Zh (And.intro hz' (And.intro hE2 (And.intro hU2 (Below.Bf HB.out (Nat.le_refl _) z'.vals))));clear hz' hE hU hE2 hU2 hTz hA hn hlet
   go_wp2_with (first|(refine Ae (by rfl) 51 _ _ (by rfl) w.heap.size z'.vals _ b0 (by rfl) (by rfl) (by rfl) (by kernel_rfl) (Aa.one _) ?_)|fail)
   refine Ap w.heap.size 0 z'.vals (.int .i64 0) Tryz.results44 Tryz.underlying51 rfl (by kernel_rfl) rfl rfl (b0.whole (by rfl)).range rfl ?_
   rw[HS.out];exact⟨⟨z',rfl,HL.out.1,HL.out.2.1,HL.out.2.2.1⟩,HL.out.2.2.2⟩
end
end Go.Proofs.YtfjflkmhhbhceaaGreatDoor
