/-
  Layer 7 in plain words: the document's Check is the program's.
-/
import Derived.Test.YtfjflkmhhbhceaaGreatDoorO15
import Derived.Test.YtfjflkmhhbhceaaGreatDoorO13
import Derived.Test.YtfjflkmhhbhceaaGreatDoorO11
import Derived.Test.YtfjflkmhhbhceaaGreatDoorO09
set_option maxRecDepth 20000
set_option maxHeartbeats 40000000
namespace Go.Proofs.YtfjflkmhhbhceaaGreatDoor
open Go.RowKit
theorem Aok {x:Call}(ht:Ij x.proc=true)(hgo:x.offset<=9223372036854775807)(hgk:x.cookie<=9223372036854775807)(hgv:x.verf<=9223372036854775807)(hgg:x.guard.n<=9223372036854775807):cIs x=true ↔ Ev x=0:=by
 have hz:Eg.ok=true:=by decide
 obtain⟨p,fh,name,fh2,name2,offset,count,how,data,set,⟨gi,gn⟩,cookie,verf,text⟩:=x;simp only at ht hgo hgk hgv hgg
 have hc:Ev ⟨p,fh,name,fh2,name2,offset,count,how,data,set,⟨gi,gn⟩,cookie,verf,text⟩=0 ↔ (E2 ⟨p,fh,name,fh2,name2,offset,count,how,data,set,⟨gi,gn⟩,cookie,verf,text⟩ (Al p)=true/\Pg ⟨p,fh,name,fh2,name2,offset,count,how,data,set,⟨gi,gn⟩,cookie,verf,text⟩ (Al p) { Aw with proc:=p } (Al p).length=⟨p,fh,name,fh2,name2,offset,count,how,data,set,⟨gi,gn⟩,cookie,verf,text⟩):=by
  unfold Ev;simp only[ht];split
  ·next h=>cases h
  ·split
   ·next h=>simp[h]
   ·next h=>simp[h]
 rw[hc];clear hc;rcases Fv p with h|h|rfl|rfl|rfl|rfl|rfl|rfl|rfl|rfl|rfl|rfl|rfl|rfl|rfl|rfl|rfl|rfl|rfl|rfl|rfl|rfl|rfl|rfl
 ·simp[Ij]at ht;omega
 ·simp[Ij]at ht;omega
 all_goals
  simp[cIs,Ht,Mz,Oc,Jb,tIs,nIs,inB,Al,F5,E2,C0,Pg,Ga,Aw,Ad4,Opt.ok]
 all_goals
  have hsz:((⟨⟨false,0⟩,⟨false,0⟩,⟨false,0⟩,⟨false,0⟩,⟨false,0⟩⟩:Ac)=set) ↔ set=Eg:=⟨fun h=>h.symm,fun h=>h.symm⟩
  try rw[hsz]
  clear hsz ht;by_cases hs:set=Eg
  all_goals cases gi
  all_goals (try subst hs)
  all_goals simp[okN, *]
  all_goals first|done|omega|grind
attribute [local go_sem ↓] Go.wp_at_zero Go.wp_at_succ
attribute [local go_sem] Ai Ag Af Ab Aj
attribute [local go_sem] Attr.at0 Attr.Bo Attr.at1 Attr.Bk Attr.at2 Attr.Ca Attr.at3 Attr.Cg Attr.at4 Attr.Cx Attr.at5 Attr.Cw Attr.at6 Attr.Cv Attr.at7 Attr.Cu Attr.at8 Attr.Ct Attr.at9 Attr.Cs Attr.Cl Attr.B4 Attr.len Opt.at0 Opt.Bo Opt.at1 Opt.Bk Opt.Ch Opt.Br Opt.len Ah.at0 Ah.Bo Ah.at1 Ah.Bk Ah.at2 Ah.Ca Ah.at3 Ah.Cg Ah.at4 Ah.Cx Ah.at5 Ah.Cw Ah.at6 Ah.Cv Ah.at7 Ah.Cu Ah.at8 Ah.Ct Ah.at9 Ah.Cs Ah.Ee Ah.C4 Ah.Kp Ah.Iy Ah.Kn Ah.Iw Ah.len Wcc.at0 Wcc.Bo Wcc.at1 Wcc.Bk Wcc.at2 Wcc.Ca Wcc.at3 Wcc.Cg Wcc.at4 Wcc.Cx Wcc.at5 Wcc.Cw Wcc.at6 Wcc.Cv Wcc.at7 Wcc.Cu Wcc.at8 Wcc.Ct Wcc.at9 Wcc.Cs Wcc.Ee Wcc.C4 Wcc.Fm Wcc.Dm Wcc.Fl Wcc.Dl Wcc.Ko Wcc.Ix Wcc.Ch Wcc.Br Wcc.Fa Wcc.Ec Wcc.E9 Wcc.Eb Wcc.len
section
attribute [local go_sem ↓] L5 Hz Io Fq Lb
def Ah.bytes (p:Ah):List UInt8:=Jo p.is++(if p.is then p.attr.bytes else [])
def Wcc.bytes (c:Wcc):List UInt8:=c.before.bytes++c.after.bytes
theorem Ah.Dk (p:Ah):p.bytes.length<=60:=by
 unfold Ah.bytes;cases p.is<;>simp[Jo,Ce,Attr.Dk]
theorem Wcc.Dk (c:Wcc):c.bytes.length<=72:=by
 have:=c.after.Dk;have:=c.before.Dk;simp only[Wcc.bytes,List.length_append];omega
end
attribute [local go_sem] Attr.at0 Attr.Bo Attr.at1 Attr.Bk Attr.at2 Attr.Ca Attr.at3 Attr.Cg Attr.at4 Attr.Cx Attr.at5 Attr.Cw Attr.at6 Attr.Cv Attr.at7 Attr.Cu Attr.at8 Attr.Ct Attr.at9 Attr.Cs Attr.Cl Attr.B4 Attr.len Ah.at0 Ah.Bo Ah.at1 Ah.Bk Ah.at2 Ah.Ca Ah.at3 Ah.Cg Ah.at4 Ah.Cx Ah.at5 Ah.Cw Ah.at6 Ah.Cv Ah.at7 Ah.Cu Ah.at8 Ah.Ct Ah.at9 Ah.Cs Ah.Ee Ah.C4 Ah.Kp Ah.Iy Ah.Kn Ah.Iw Ah.len Wcc.at0 Wcc.Bo Wcc.at1 Wcc.Bk Wcc.at2 Wcc.Ca Wcc.at3 Wcc.Cg Wcc.at4 Wcc.Cx Wcc.at5 Wcc.Cw Wcc.at6 Wcc.Cv Wcc.at7 Wcc.Cu Wcc.at8 Wcc.Ct Wcc.at9 Wcc.Cs Wcc.Ee Wcc.C4 Wcc.Fm Wcc.Dm Wcc.Fl Wcc.Dl Wcc.Ko Wcc.Ix Wcc.Ch Wcc.Br Wcc.Fa Wcc.Ec Wcc.E9 Wcc.Eb Wcc.len Opt.at0 Opt.Bo Opt.at1 Opt.Bk Opt.Ch Opt.Br Opt.len
section
attribute [local go_sem ↓] L5 Hz Fq
section
attribute [local go_sem ↓] Aim
attribute [local go_sem] Ce List.length_append
theorem Zp (t m k u g s i n c z:Nat)(w:World)(h4:∀x∈[t,m,k,u,g,i],x<4294967296)(h8:∀x∈[s,n,c,z],(x:Int)<=9223372036854775807) :
  Calls Tryz.prog 116 #[.agg (Attr.mk t m k u g s i n c z).vals.toArray] w fun e w'=>e=.returned (.string (bs (Attr.mk t m k u g s i n c z).bytes))/\Below w.heap.size w w':=by
 have HF:=Zh (show (Attr.mk t m k u g s i n c z).bytes=num t 4++num m 4++num k 4++num u 4++num g 4++num s 8++num i 4++num n 8++num c 8++num z 8 by simp only[Attr.bytes,Int.toNat_natCast]);simp only[List.mem_cons,List.not_mem_nil,or_false,forall_eq_or_imp,forall_eq]at h4 h8;obtain⟨b1,b2,b3,b4,b5,b6⟩:=h4;obtain⟨c1,c2,c3,c4⟩:=h8;have d1:(t:Int)<=9223372036854775807:=by omega
 have d2:(m:Int)<=9223372036854775807:=by omega
 have d3:(k:Int)<=9223372036854775807:=by omega
 have d4:(u:Int)<=9223372036854775807:=by omega
 have d5:(g:Int)<=9223372036854775807:=by omega
 have d6:(i:Int)<=9223372036854775807:=by omega
 clear b1 b2 b3 b4 b5 b6;have hb:=Blk.new w 43 (Attr.mk t m k u g s i n c z).vals;have hB0:Below w.heap.size w (w.alloc (.cells (Attr.mk t m k u g s i n c z).vals.toArray 43)):=(Below.refl _ _).alloc (Nat.le_refl _) _;have hcx:=hb.cell;have hlt:=hb.lt;clear hb;go_enter Tryz.func116,Tryz.ntmps116
 go_wp2_with fail;generalize w.alloc (.cells (Attr.mk t m k u g s i n c z).vals.toArray 43)=w1 at *;go_region_held3 (fun W=>Stb w1 W) (first|exact Stb.start|assumption|(exact Stb.alloc (by assumption) _)|(exact Stb.call (by assumption) (by assumption))) (first
  |(go_at_call_of 60 (t);refine(Bs t 4 _ (by assumption) (by decide)).mono ?_;rintro e w2 ⟨rfl,hb⟩)
  |(go_at_call_of 60 (m);refine(Bs m 4 _ (by assumption) (by decide)).mono ?_;rintro e w2 ⟨rfl,hb⟩)
  |(go_at_call_of 60 (k);refine(Bs k 4 _ (by assumption) (by decide)).mono ?_;rintro e w2 ⟨rfl,hb⟩)
  |(go_at_call_of 60 (u);refine(Bs u 4 _ (by assumption) (by decide)).mono ?_;rintro e w2 ⟨rfl,hb⟩)
  |(go_at_call_of 60 (g);refine(Bs g 4 _ (by assumption) (by decide)).mono ?_;rintro e w2 ⟨rfl,hb⟩)
  |(go_at_call_of 60 (s);refine(Bs s 8 _ (by assumption) (by decide)).mono ?_;rintro e w2 ⟨rfl,hb⟩)
  |(go_at_call_of 60 (i);refine(Bs i 4 _ (by assumption) (by decide)).mono ?_;rintro e w2 ⟨rfl,hb⟩)
  |(go_at_call_of 60 (n);refine(Bs n 8 _ (by assumption) (by decide)).mono ?_;rintro e w2 ⟨rfl,hb⟩)
  |(go_at_call_of 60 (c);refine(Bs c 8 _ (by assumption) (by decide)).mono ?_;rintro e w2 ⟨rfl,hb⟩)
  |(go_at_call_of 60 (z);refine(Bs z 8 _ (by assumption) (by decide)).mono ?_;rintro e w2 ⟨rfl,hb⟩)
  |fail)
 have hs5:Stb w1 w2:=by assumption
 have HB:=Zh (Ad hB0 hs5.below);clear hs5;go_wp2;go_ret;exact⟨D9 (by rw[HF.out];simp only[List.append_assoc]),HB.out⟩
end
theorem Zq (x:Attr)(w:World)(hok:x.ok=true)(hg:x.C9):Calls Tryz.prog 116 #[.agg x.vals.toArray] w fun e w'=>e=.returned (.string (bs x.bytes))/\Below w.heap.size w w':=by
 obtain⟨t,m,k,u,g,s,i,n,c,z,rfl,h1,h2⟩:=Attr.nats hok hg;exact Zp t m k u g s i n c z w h1 h2
theorem Kw (p:Ah)(w:World)(hok:p.ok=true)(hg:p.C9):Calls Tryz.prog 69 #[.agg p.vals.toArray] w fun e w'=>e=.returned (.string (bs p.bytes))/\Below w.heap.size w w':=by
 have hb0:=Blk.new w 45 p.vals;have hB0:Below w.heap.size w (w.alloc (.cells p.vals.toArray 45)):=(Below.refl _ _).alloc (Nat.le_refl _) _;have hca:=hb0.cell;have HO:=Zh hok;clear hok;go_enter Tryz.func69,Tryz.ntmps69
 cases hi:p.is
 ·have HF:=Zh (show Jo false=p.bytes by simp[Ah.bytes,hi])
  go_wp2_with fail;refine(Kt _ _).mono ?_
  rintro e w1 ⟨rfl,hb1⟩;go_wp2;go_ret;exact⟨D9 HF.out,Ad hB0 hb1⟩
 ·have HF:=Zh (show Jo true++p.attr.bytes=p.bytes by simp[Ah.bytes,hi])
  have hao:p.attr.ok=true:=by have:=HO.out;simpa[Ah.ok,hi] using this
  go_wp2_with fail;generalize hw:w.alloc (.cells p.vals.toArray 45)=w1 at *;have r0:rowOf w1 w.heap.size 1 10=some p.attr.vals.toArray:=hb0.row 1 10 (by simp[Ah.len]);have hl1:(Jo true).length=4:=by simp[Jo,Ce]
  have hl2:=p.attr.Dk;have hlt:=hb0.lt;go_region_held3 (fun W=>Stb w1 W) (first|exact Stb.start|assumption|(exact Stb.alloc (by assumption) _)|(exact Stb.call (by assumption) (by assumption))) (first
   |(go_at_call 71;refine(Kt _ _).mono ?_;rintro e w2 ⟨rfl,hb⟩)
   |(go_at_call 116;refine(Zq _ _ (by assumption) (by assumption)).mono ?_;rintro e w2 ⟨rfl,hb⟩)
   |fail)
  have hs5:Stb w1 w2:=by assumption
  have HB:=Zh (Ad hB0 hs5.below);clear hs5;go_wp2;go_ret;exact⟨D9 (by rw[HF.out]),HB.out⟩
theorem Si (c:Wcc)(w:World)(hok:c.ok=true)(hg:c.C9):Calls Tryz.prog 70 #[.agg c.vals.toArray] w fun e w'=>e=.returned (.string (bs c.bytes))/\Below w.heap.size w w':=by
 have hb0:=Blk.new w 47 c.vals;have hB0:Below w.heap.size w (w.alloc (.cells c.vals.toArray 47)):=(Below.refl _ _).alloc (Nat.le_refl _) _;have ho1:c.before.ok 9223372036854775807=true:=by unfold Wcc.ok at hok;simp at hok;exact hok.1
 have ho2:c.after.ok=true:=by unfold Wcc.ok at hok;simp at hok;exact hok.2
 have hp:=Opt.Qb ho1;have hm:=(Go.bounds_i64 hg.1).2;have HF:=Zh (show c.before.bytes++c.after.bytes=c.bytes from rfl);clear hok;go_enter Tryz.func70,Tryz.ntmps70
 go_wp2_with fail;generalize hw:w.alloc (.cells c.vals.toArray 47)=w1 at *;have r0:rowOf w1 w.heap.size 0 2=some c.before.vals.toArray:=hb0.row 0 2 (by simp[Wcc.len]);have r1:rowOf w1 w.heap.size 2 11=some c.after.vals.toArray:=hb0.row 2 11 (by simp[Wcc.len]);have hl1:=c.before.Dk;have hl2:=c.after.Dk;have hl3:¬9223372036854775807<c.before.bytes.length+c.after.bytes.length:=by omega
 have hlt:=hb0.lt;go_region_held3 (fun W=>Stb w1 W) (first|exact Stb.start|assumption|(exact Stb.alloc (by assumption) _)|(exact Stb.call (by assumption) (by assumption))) (first
  |(go_at_call 117;refine(Q9 _ _ (by assumption) (by assumption)).mono ?_;rintro e w2 ⟨rfl,hb⟩)
  |(go_at_call 69;refine(Kw _ _ (by assumption) (by exact hg.2)).mono ?_;rintro e w2 ⟨rfl,hb⟩)
  |fail)
 have hs5:Stb w1 w2:=by assumption
 have HB:=Zh (Ad hB0 hs5.below);clear hs5;go_wp2;go_ret;exact⟨D9 (by rw[HF.out]),HB.out⟩
end
end Go.Proofs.YtfjflkmhhbhceaaGreatDoor
