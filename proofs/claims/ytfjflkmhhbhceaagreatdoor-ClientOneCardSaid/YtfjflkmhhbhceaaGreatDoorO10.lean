/-
  Layer 1, walks: a writer's number. Conditions: a number from 0 on, in 4 or 8 bytes; at most 2^40 bytes so far.
-/
import Derived.Test.YtfjflkmhhbhceaaGreatDoorO03
import Derived.Deep.RegionLaw
set_option maxRecDepth 20000
set_option maxHeartbeats 40000000
namespace Go.Proofs.YtfjflkmhhbhceaaGreatDoor
open Go.RowKit
attribute [local go_sem ↓] Go.wp_at_zero Go.wp_at_succ
theorem Anj:(Tryz.prog.info? 5).map (fun i=>(i.zero,i.size,i.bytes))=some (some (.int .u8 0),1,1):=by kernel_rfl
theorem Tg (g:Nat)(sv:Value)(l:List UInt8)(n k:Nat)(w:World)(hW:Wr w g sv l)(_hn:(n:Int)<=9223372036854775807)(hk:k<=8)(hl:l.length<=1000000000000) :
  Calls Tryz.prog 181 #[.pointer (some ⟨g,0,none⟩),.int .i64 n,.int .i64 k] w (Jm g sv (l++num n k) (.tuple #[]) w):=by
 obtain⟨i0,hi0,hz0,hz1,hz2⟩:=info_parts Anj;go_enter Tryz.func181,Tryz.ntmps181
 go_wp2
 go_loopg [6] k (fun m i wr=>i=.int .i64 ((m:Int) - 1)/\m<=k/\Kl g sv (l++(num n k).take (k - m)) w wr)
 case atStart=>exact⟨rfl,Nat.le_refl _,by simpa using Kl.refl hW⟩
 case round=>
  obtain⟨rfl,hm,hM⟩:=hrel;by_cases h0:gk=0
  ·subst h0
   have HM:=Zh hM;clear hM;go_wp2;go_end0
   exact⟨rfl,by have:=HM.out;rw[Nat.sub_zero,List.take_of_length_le (by rw[Ce];omega)]at this;exact this⟩
  ·obtain⟨sv1,hW1,hrow,hT⟩:=hM
   have hm1:1<=gk:=by omega
   have hlen:(l++(num n k).take (k - gk)).length<=1000000000100:=by simp[Ce];omega
   have HN:=Zh (Am2 n k gk hm1 hm);generalize hl1:(l++(num n k).take (k - gk))=l1 at *;have HL:=Zh hl1;clear hl1;have HR:=Zh hrow;clear hrow;have hc:=(hW1.1.cell 0);simp only[List.getElem?_cons_zero]at hc;have hf:=hW1.1.frozen 0;have hsh:=Ama n gk hm1 (by omega);generalize n / 256 ^ (gk - 1)=b at *;have hcv:=Aoy b;have hOwn:=Zh hW1.2;have hBlk:=Zh hW1.1;go_wp2_with fail;have hLen:=Zh hlen;have hglt:=hW1.1.lt;clear hlen hW1 hl;go_region_law ((refine step_append_lies _ (by rfl) (.tmp 17) (.tmp 23) 124 (by rfl) 0 5 i0 _ 1 1 Tryz.underlying124 hi0 hz0 hz1 hz2 rfl (by omega) sv1 l1.length (l1.map u8) (by simp[Act.eval]) ((hOwn.out.alloc _).drew) ⟨wr.heap.size,0,none⟩ 1 1 [u8 (UInt8.ofNat b)] (by simp[Act.eval]) rfl (cell_one_new _ _ _) (Al1 [UInt8.ofNat b]) (by omega) (by have:=hLen.out;unfold maxLen;omega) (by have:=hLen.out;omega) (Nat.zero_le _) (wr.heap.size+1) (by simp) ?_;intro g1 cap w1 hown1 hgrow1 hat1 hlt1;have hB1:=(R2 ⟨hBlk.out,hOwn.out⟩ (((Below.refl _ _).alloc (Nat.le_refl _) _).drew) hgrow1 hown1).1;have hc1:w1.cell? ⟨g,0,none⟩=some sv1:=hB1.cell 0;have hf1:=hB1.frozen 0))
   all_goals
    go_wp2;go_roundg (gk - 1)
    case measure=>omega
    case rel=>
     refine⟨by go_num,by omega,?_⟩
     rw[HN.out,<-List.append_assoc];rw[HL.out];exact⟨_,Qf (m:=[UInt8.ofNat b]) ⟨hBlk.out,hOwn.out⟩ HR.out hT (((Below.refl _ _).alloc (Nat.le_refl _) _).drew) hgrow1 hown1 (fun k hk=>by
      have hk':g1=k:=by simpa[Value.ownBlock] using hk
      rcases hat1 with h|h
      ·left;rw[h,hk']
      ·right;simp;omega)⟩
abbrev ptr (g:Nat):Value:=.pointer (some ⟨g,0,none⟩)
theorem Is (g:Nat)(sv:Value)(l:List UInt8)(n:Nat)(w:World)(hW:Wr w g sv l)(hn:n<4294967296)(hl:l.length<=1000000000000) :
  Calls Tryz.prog 162 #[ptr g,.int .i64 n] w (Jm g sv (l++num n 4) (.int .i64 0) w):=by
 have hsh:Op.shift .shr .i64 (n:Int) .u64 32=pure (.int .i64 0):=by
  rw[shift_shr .i64 .u64 _ _ (by omega) (by show (32:Int)<=64;omega)];congr 2
  have:(2:Int) ^ ((32:Int).toNat)=4294967296:=by rfl
  rw[this];omega
 go_enter Tryz.func162,Tryz.ntmps162
 go_wp2_with fail;refine(Tg g sv l n 4 _ hW (by omega) (by omega) hl).mono ?_
 rintro e w1 ⟨rfl,hM⟩;go_wp2;go_ret;exact⟨rfl,hM⟩
theorem Ac6 (g:Nat)(n:Int)(w:World)(hn:n<0\/4294967296<=n)(hi:-9223372036854775808<=n/\n<=9223372036854775807) :
  Calls Tryz.prog 162 #[ptr g,.int .i64 n] w fun e w'=>e=.returned (.int .i64 3)/\w=w':=by
 have hsh:Op.shift .shr .i64 n .u64 32=pure (.int .i64 (n / 4294967296)):=by
  rw[shift_shr .i64 .u64 _ _ (by omega) (by show (32:Int)<=64;omega)];rfl
 have hb:0<=n->((n / 4294967296 != 0)=true):=fun h0=>by rw[bne_iff_ne];omega
 rcases hn with hn|hn
 ·go_enter Tryz.func162,Tryz.ntmps162
  go_wp2;go_ret;exact⟨rfl,rfl⟩
 ·have h0:0<=n:=by omega
  have hb':=hb h0;go_enter Tryz.func162,Tryz.ntmps162
  go_wp2;go_ret;exact⟨rfl,rfl⟩
theorem Pm (g:Nat)(sv:Value)(l:List UInt8)(n:Nat)(w:World)(hW:Wr w g sv l)(hn:(n:Int)<=9223372036854775807)(hl:l.length<=1000000000000) :
  Calls Tryz.prog 161 #[ptr g,.int .i64 n] w (Jm g sv (l++num n 8) (.int .i64 0) w):=by
 go_enter Tryz.func161,Tryz.ntmps161
 go_wp2_with fail;refine(Tg g sv l n 8 _ hW (by omega) (by omega) hl).mono ?_
 rintro e w1 ⟨rfl,hM⟩;go_wp2;go_ret;exact⟨rfl,hM⟩
theorem Ac5 (g:Nat)(n:Int)(w:World)(hn:n<0) :
  Calls Tryz.prog 161 #[ptr g,.int .i64 n] w fun e w'=>e=.returned (.int .i64 3)/\w=w':=by
 go_enter Tryz.func161,Tryz.ntmps161
 go_wp2;go_ret;exact⟨rfl,rfl⟩
theorem Aaj (g:Nat)(sv:Value)(l:List UInt8)(b:Bool)(w:World)(hW:Wr w g sv l)(hl:l.length<=1000000000000) :
  Calls Tryz.prog 183 #[ptr g,.bool b] w (Jm g sv (l++Jo b) (.int .i64 0) w):=by
 cases b
 ·go_enter Tryz.func183,Tryz.ntmps183
  go_wp2_with fail;refine(Is g sv l 0 _ hW (by omega) hl).mono ?_
  rintro e w1 ⟨rfl,hM⟩;go_wp2;go_ret;exact⟨rfl,hM⟩
 ·go_enter Tryz.func183,Tryz.ntmps183
  go_wp2_with fail;refine(Is g sv l 1 _ hW (by omega) hl).mono ?_
  rintro e w1 ⟨rfl,hM⟩;go_wp2;go_ret;exact⟨rfl,hM⟩
theorem Nn (g:Nat)(sv:Value)(l s:List UInt8)(w:World)(hW:Wr w g sv l)(hs:s.length<=1048576)(hl:l.length<=1000000000000) :
  Calls Tryz.prog 165 #[ptr g,.string (bs s)] w (Jm g sv (l++filled s) (.int .i64 0) w):=by
 obtain⟨i0,hi0,hz0,hz1,hz2⟩:=info_parts Anj;have hsz:=Au s;have hc:w.cell? ⟨g,0,none⟩=some sv:=hW.1.cell 0;have hf:=hW.1.frozen 0;have hp:=Qa s.length;go_enter Tryz.func165,Tryz.ntmps165
 go_wp2_with (refine Fy (by rfl) (.tmp 16) (.tmp 17) #[124,9] (by rfl) _ _ (by rfl) (by rfl) (Sf 0 124 9 _ 5 i0 Tryz.underlying124 Tryz.underlying9 hi0 hz0 hz1 hz2 sv l.length (l.map u8) hW.2 s (by omega) (Nat.zero_le _)) ?_;rintro sv1 w1 ⟨hown1,hgrow1,hat1,A1,c1,rfl⟩;have hB1:=(R2 hW (Below.refl _ _) hgrow1 hown1).1;have hc1:w1.cell? ⟨g,0,none⟩=some sv:=hB1.cell 0;have hf1:=hB1.frozen 0)
 have hM:=Qf (sv:=sv) (m:=s) hW (fun _ h=>.inl h) (Touch.refl _ _) (Below.refl _ _) hgrow1 hown1 (fun k hk=>by
  rcases hat1 with h|h
  ·left;rw[<-h];exact hk
  ·right;rw[h]at hk;simp at hk;omega)
 generalize hsv:Value.slice A1 (l.length+s.length) c1=sv1 at *;have HSV:=Zh hsv;generalize w1.setCell ⟨g,0,none⟩ sv1=w2 at *;obtain⟨hW2,hrow2,hT2⟩:=hM;have hc2:w2.cell? ⟨g,0,none⟩=some sv1:=hW2.1.cell 0;have hf2:=hW2.1.frozen 0;clear hown1 hgrow1 hat1 hB1 hc1 hf1 hc hf hsv;have HW2:=Zh hW2;have HR2:=Zh hrow2;clear hW2 hrow2;go_region_law (first|(refine Cp (by rfl) (.tmp 25) (.tmp 28) #[124,3] (by rfl) sv1 (.int .i64 (D7 s.length)) (by simp[Act.eval]) (by simp[Act.eval]) (Se 0 124 3 _ 5 i0 Tryz.underlying124 Tryz.underlying3 hi0 hz0 hz1 hz2 sv1 (l++s).length ((l++s).map u8) HW2.out.2.drew (D7 s.length) (by simp;omega) (Nat.zero_le _)) ?_;rintro sv3 w3 ⟨hown3,hgrow3,hat3,A3,c3,rfl⟩;have hB3:=(R2 HW2.out ((Below.refl _ _).drew) hgrow3 hown3).1;have hc3:w3.cell? ⟨g,0,none⟩=some sv1:=hB3.cell 0;have hf3:=hB3.frozen 0)|(go_simp;go_at_call 184;refine(Ai0 _ _ (by omega)).mono ?_;rintro e w3 ⟨rfl,rfl⟩))
 all_goals
  have hM3:=Qf (sv:=sv) (m:=List.replicate (D7 s.length) 0) HW2.out HR2.out hT2 ((Below.refl _ _).drew) hgrow3 (by rw[<-Ajd,List.length_replicate];exact hown3) (fun k hk=>by
   rcases hat3 with h|h
   ·left;rw[<-h];exact hk
   ·right;rw[h]at hk;simp at hk;simp;omega)
  go_wp2;go_ret;refine⟨rfl,?_⟩
  have e:l++filled s=l++s++List.replicate (D7 s.length) 0:=by unfold filled;simp
  rw[e];simp only[List.length_append]at hM3;exact⟨_,hM3⟩
theorem J7 (g:Nat)(sv:Value)(l s:List UInt8)(w:World)(hW:Wr w g sv l)(hs:s.length<=1048576)(hl:l.length<=999999999990) :
  Calls Tryz.prog 160 #[ptr g,.string (bs s)] w (Jm g sv (l++opq s) (.int .i64 0) w):=by
 have hsz:=Au s;go_enter Tryz.func160,Tryz.ntmps160
 go_wp2_with fail;refine(Tg g sv l s.length 4 _ hW (by omega) (by omega) (by omega)).mono ?_
 rintro e w1 ⟨rfl,sv1,hW1,hr1,hT1⟩;have hR1:=Zh hr1;clear hr1;go_wp2_with fail;refine(Nn g sv1 _ s _ hW1 hs (by simp[Ce];omega)).mono ?_
 rintro e w2 ⟨rfl,hM⟩;have HM:=Zh (Kl.next hR1.out hT1 hM);clear hM;go_wp2;go_ret;exact⟨rfl,by have:=HM.out;rw[List.append_assoc]at this;exact this⟩
theorem Ac7 (g:Nat)(sv:Value)(l:List UInt8)(b:Bool)(n:Int)(w:World)(hW:Wr w g sv l)(hn:b=true->0<=n)(hi:n<=9223372036854775807)(hl:l.length<=999999999990) :
  Calls Tryz.prog 164 #[ptr g,.agg #[.bool b,.int .i64 n]] w (Jm g sv (l++Sg b n) (.int .i64 0) w):=by
 have hW0:=hW.alloc (.cells #[.bool b,.int .i64 n] 32);have hT0:Touch (Xm g sv) w (w.alloc (.cells #[.bool b,.int .i64 n] 32)):=(Touch.refl _ _).alloc _;have hb0:Blk (w.alloc (.cells #[.bool b,.int .i64 n] 32)) w.heap.size 32 [.bool b,.int .i64 n]:=Blk.new _ _ _;cases b
 ·go_enter Tryz.func164,Tryz.ntmps164
  go_wp2_with fail;refine(Aaj g sv l false _ hW0 (by omega)).mono ?_
  rintro e w1 ⟨rfl,sv1,hW1,hr1,hT1⟩;have hb1:=hW0.keeps hb0 (by decide) (by decide) hT1;have hc1:=hb1.cell 0;simp only[List.getElem?_cons_zero]at hc1;have HM:=Zh (Kl.next (fun _ h=>.inl h) hT0 ⟨sv1,hW1,hr1,hT1⟩);clear hr1;go_wp2;go_ret;exact⟨rfl,by unfold Sg;simpa using HM.out⟩
 ·have hn0:=hn rfl
  obtain⟨m,rfl⟩:=Int.eq_ofNat_of_zero_le hn0;go_enter Tryz.func164,Tryz.ntmps164
  go_wp2_with fail;refine(Aaj g sv l true _ hW0 (by omega)).mono ?_
  rintro e w1 ⟨rfl,sv1,hW1,hr1,hT1⟩;have hb1:=hW0.keeps hb0 (by decide) (by decide) hT1;have hc1:=hb1.cell 0;have hc2:=hb1.cell 1;simp only[List.getElem?_cons_zero,List.getElem?_cons_succ]at hc1 hc2;have HR1:=Zh hr1;clear hr1;go_wp2_with fail;refine(Pm g sv1 _ m _ hW1 (by omega) (by simp[Jo,Ce];omega)).mono ?_
  rintro e w2 ⟨rfl,hM⟩;have HM:=Zh (Kl.next (fun _ h=>.inl h) hT0 (Kl.next HR1.out hT1 hM));clear hM;go_wp2;go_ret;exact⟨rfl,by unfold Sg;have:=HM.out;rw[List.append_assoc]at this;simpa using this⟩
theorem Ld (g:Nat)(sv:Value)(l:List UInt8)(w:World)(hW:Wr w g sv l) :
  Calls Tryz.prog 127 #[ptr g] w fun e w'=>e=.returned (.string (bs l))/\w=w':=by
 have hc:w.cell? ⟨g,0,none⟩=some sv:=hW.1.cell 0;have hcv:=X2 (P:=Tryz.prog) (dst:=9) Tryz.underlying124 Tryz.underlying5 Tryz.underlying9 hW.2;go_enter Tryz.func127,Tryz.ntmps127
 go_wp2;go_ret;exact⟨rfl,rfl⟩
end Go.Proofs.YtfjflkmhhbhceaaGreatDoor
