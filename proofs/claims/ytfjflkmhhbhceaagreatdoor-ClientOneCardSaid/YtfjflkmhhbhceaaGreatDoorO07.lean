/-
  Layers 1 and 5, walks: the reference's reader takes options, attributes, what was and is. Conditions: a reader at a block of its own.
-/
import Derived.Test.YtfjflkmhhbhceaaGreatDoorO06
import Derived.Test.YtfjflkmhhbhceaaGreatDoorO03
import Derived.Test.YtfjflkmhhbhceaaGreatDoorProg
import Derived.Test.YtfjflkmhhbhceaaGreatDoorO02
import Derived.Test.YtfjflkmhhbhceaaGreatDoorO05
import Derived.Deep.Light
set_option maxRecDepth 20000
set_option maxHeartbeats 40000000
namespace Go.Proofs.YtfjflkmhhbhceaaGreatDoor
open Go.RowKit
attribute [local go_sem ↓] Go.wp_at_zero Go.wp_at_succ
attribute [local go_sem] Ai Ag Af Ab Aj
attribute [local go_sem] Attr.at0 Attr.Bo Attr.at1 Attr.Bk Attr.at2 Attr.Ca Attr.at3 Attr.Cg Attr.at4 Attr.Cx Attr.at5 Attr.Cw Attr.at6 Attr.Cv Attr.at7 Attr.Cu Attr.at8 Attr.Ct Attr.at9 Attr.Cs Attr.Cl Attr.B4 Attr.len Opt.at0 Opt.Bo Opt.at1 Opt.Bk Opt.Ch Opt.Br Opt.len Ac.at0 Ac.Bo Ac.at1 Ac.Bk Ac.at2 Ac.Ca Ac.at3 Ac.Cg Ac.at4 Ac.Cx Ac.at5 Ac.Cw Ac.at6 Ac.Cv Ac.at7 Ac.Cu Ac.at8 Ac.Ct Ac.at9 Ac.Cs Ac.Cl Ac.B4 Ac.Ch Ac.Br Ac.Gn Ac.E1 Ac.Gm Ac.E0 Ac.Gl Ac.Ez Ac.Gk Ac.Ey Ac.len Ah.at0 Ah.Bo Ah.at1 Ah.Bk Ah.at2 Ah.Ca Ah.at3 Ah.Cg Ah.at4 Ah.Cx Ah.at5 Ah.Cw Ah.at6 Ah.Cv Ah.at7 Ah.Cu Ah.at8 Ah.Ct Ah.at9 Ah.Cs Ah.Ee Ah.C4 Ah.Kp Ah.Iy Ah.Kn Ah.Iw Ah.len Wcc.at0 Wcc.Bo Wcc.at1 Wcc.Bk Wcc.at2 Wcc.Ca Wcc.at3 Wcc.Cg Wcc.at4 Wcc.Cx Wcc.at5 Wcc.Cw Wcc.at6 Wcc.Cv Wcc.at7 Wcc.Cu Wcc.at8 Wcc.Ct Wcc.at9 Wcc.Cs Wcc.Ee Wcc.C4 Wcc.Fm Wcc.Dm Wcc.Fl Wcc.Dl Wcc.Ko Wcc.Ix Wcc.Ch Wcc.Br Wcc.Fa Wcc.Ec Wcc.E9 Wcc.Eb Wcc.len
section
attribute [local go_sem ↓] L5
theorem It (g:Nat)(r:Rs)(w:World)(hR:RdF w g r) :
  Calls Tryz.prog 56 #[.pointer (some ⟨g,0,none⟩)] w (Oj g (Fp r).2 (.agg (Dj (Fp r).1).toArray) w):=by
 have hb:=Blk.new w 32 [.bool false,.int .i64 0];have hB:Below w.heap.size w (w.alloc (.cells #[.bool false,.int .i64 0] 32)):=(Below.refl _ _).alloc (Nat.le_refl _) _;have hR1:=hR.stays hB;have hne:w.heap.size≠g:=Nat.ne_of_gt hR.lt;clear hR;cases hq:(Bw r).1
 ·have HN:=Zh (show Fp r=((false,0),(Bw r).2) by simp[Fp,hq])
  go_enter Tryz.func56,Tryz.ntmps56
  go_wp2_with fail;generalize w.alloc (.cells #[.bool false,.int .i64 0] 32)=w0 at *;refine(Ie g r _ hR1).mono ?_
  rintro e w1 ⟨rfl,hQ⟩;have hb1:=hQ.keeps hb hne;have HQ:=Zh (A6.lay (cs:=Dj (false,0)) (A6.behind hB hQ) hb1 rfl hne (Nat.le_refl _));clear hQ hb
  go_wp2_with (first|(refine Ae (by rfl) 32 _ _ (by rfl) w.heap.size (Dj (false,0)) _ hb1 (by rfl) (by rfl) (by rfl) (by kernel_rfl) (Iu _) ?_)|fail)
  refine Cz w.heap.size 0 (Dj (false,0)) Tryz.results56 Tryz.underlying32 rfl (by kernel_rfl) rfl HQ.out.2.range rfl ?_
  rw[HN.out];exact⟨rfl,HQ.out.1⟩
 ·by_cases he:(Bn (Bw r).2).2.e=0
  ·have HN:=Zh (show Fp r=((true,(Bn (Bw r).2).1),(Bn (Bw r).2).2) by simp[Fp,hq,he])
   have he':((Bn (Bw r).2).2.e != 0)=false:=by simpa using he
   go_enter Tryz.func56,Tryz.ntmps56
   go_wp2_with fail;generalize w.alloc (.cells #[.bool false,.int .i64 0] 32)=w0 at *;refine(Ie g r _ hR1).mono ?_
   rintro e w1 ⟨rfl,hQ⟩;have hb1:=hQ.keeps hb hne;go_wp2_with fail;refine(Eu g (Bw r).2 _ hQ.1).mono ?_
   rintro e w2 ⟨rfl,hQ2⟩;have hb2:=hQ2.keeps hb1 hne;have hc:=A6.err hQ2.1;have HQ:=Zh (A6.lay (cs:=Dj (true,(Bn (Bw r).2).1)) (A6.behind hB (hQ.trans hQ2)) hb2 rfl hne (Nat.le_refl _));clear hQ hb hb1 hQ2
   go_wp2_with (first|(refine Ae (by rfl) 32 _ _ (by rfl) w.heap.size (Dj (true,(Bn (Bw r).2).1)) _ hb2 (by rfl) (by rfl) (by rfl) (by kernel_rfl) (Iu _) ?_)|fail)
   refine Cz w.heap.size 0 (Dj (true,(Bn (Bw r).2).1)) Tryz.results56 Tryz.underlying32 rfl (by kernel_rfl) rfl HQ.out.2.range rfl ?_
   rw[HN.out];exact⟨rfl,HQ.out.1⟩
  ·have HN:=Zh (show Fp r=((false,0),(Bn (Bw r).2).2) by simp[Fp,hq,he])
   have he':((Bn (Bw r).2).2.e != 0)=true:=by simpa using he
   go_enter Tryz.func56,Tryz.ntmps56
   go_wp2_with fail;generalize w.alloc (.cells #[.bool false,.int .i64 0] 32)=w0 at *;refine(Ie g r _ hR1).mono ?_
   rintro e w1 ⟨rfl,hQ⟩;have hb1:=hQ.keeps hb hne;go_wp2_with fail;refine(Eu g (Bw r).2 _ hQ.1).mono ?_
   rintro e w2 ⟨rfl,hQ2⟩;have hb2:=hQ2.keeps hb1 hne;have hc:=A6.err hQ2.1;have HQ:=Zh (A6.lay (cs:=Dj (false,0)) (A6.behind hB (hQ.trans hQ2)) hb2 rfl hne (Nat.le_refl _));clear hQ hb hb1 hQ2
   go_wp2_with (first|(refine Ae (by rfl) 32 _ _ (by rfl) w.heap.size (Dj (false,0)) _ hb2 (by rfl) (by rfl) (by rfl) (by kernel_rfl) (Iu _) ?_)|fail)
   refine Cz w.heap.size 0 (Dj (false,0)) Tryz.results56 Tryz.underlying32 rfl (by kernel_rfl) rfl HQ.out.2.range rfl ?_
   rw[HN.out];exact⟨rfl,HQ.out.1⟩
structure Qw (g:Nat) (r:Rs) (w:World) (k:Nat) (wx:World):Prop where
 R:A6 g (Dg r k) w wx
 A:Blk wx (w.heap.size+1) 43 (S1 r k)
 Z:Blk wx w.heap.size 43 Gr
 n:g<w.heap.size
theorem Qw.start (g:Nat)(r:Rs)(w:World)(hR:RdF w g r):Qw g r w 0 ((w.alloc (.cells Gr.toArray 43)).alloc (.cells Gr.toArray 43)):=by
 have b0:=Blk.new w 43 Gr;have B0:Below w.heap.size w (w.alloc (.cells Gr.toArray 43)):=(Below.refl _ _).alloc (Nat.le_refl _) _;have e0:(w.alloc (.cells Gr.toArray 43)).heap.size=w.heap.size+1:=by simp
 generalize w.alloc (.cells Gr.toArray 43)=w0 at *;have b1:=Blk.new w0 43 Gr;rw[e0]at b1;exact⟨A6.behind (B0.alloc B0.size _) (A6.refl (hR.stays (B0.alloc B0.size _))),b1,b0.alloc _,hR.lt⟩
theorem Qw.step {g:Nat}{r:Rs}{w wx wy:World}{k:Nat}{b:Bool}(h:Qw g r w k wx)(hk:k<10)(hb:Jd[k]?=some b)(hQ:A6 g (E8 b (Dg r k)).2 wx wy) :
  Qw g r w (k+1) (wy.setCell ⟨w.heap.size+1,k,none⟩ (.int .i64 (E8 b (Dg r k)).1)):=by
 obtain⟨e1,e2⟩:=Zn r hk hb;have hn:=h.n;refine⟨⟨?_,?_⟩,?_,?_,h.n⟩
 ·rw[e2];exact hQ.1.Ak ((Touch.refl (fun i=>i=w.heap.size+1) wy).An (g:=w.heap.size+1) (o:=k) (.inl rfl) _) (by omega)
 ·exact(h.R.2.Ay hQ.2).An (.inr (by omega)) _
 ·have:=(hQ.keeps h.A (by omega)).Be k (.int .i64 (E8 b (Dg r k)).1)
  rw[e1]at this;exact this
 ·exact(hQ.keeps h.Z (by omega)).far (p:=⟨w.heap.size+1,k,none⟩) (by simp) _
theorem Qw.cell {g:Nat}{r:Rs}{w wx wy:World}{k:Nat}{r':Rs}(h:Qw g r w k wx)(hk:k<10)(hQ:A6 g r' wx wy):∃v,wy.cell? ⟨w.heap.size+1,k,none⟩=some v/\wy.frozen? ⟨w.heap.size+1,k,none⟩=false:=by
 have hn:=h.n;have hb:=hQ.keeps h.A (by omega);obtain⟨v,hv⟩:=Zo hb (by omega) hk;exact⟨v,hv,hb.frozen _⟩
theorem Adl (g:Nat)(r:Rs)(w:World)(hR:RdF w g r) :
  Calls Tryz.prog 194 #[.pointer (some ⟨g,0,none⟩)] w (Oj g (Gt r).2 (.agg (Gt r).1.vals.toArray) w):=by
 have hS:=Qw.start g r w hR;have hg:=hR.lt;clear hR;go_enter Tryz.func194,Tryz.ntmps194
 go_wp2_with fail;change Calls _ _ _ ((w.alloc (.cells Gr.toArray 43)).alloc (.cells Gr.toArray 43)) _;generalize (w.alloc (.cells Gr.toArray 43)).alloc (.cells Gr.toArray 43)=W0 at *;refine(Dv g (Dg r 0) _ hS.R.1).mono ?_
 rintro e v0 ⟨rfl,hQ⟩;obtain⟨ov,hc,hf⟩:=hS.cell (by omega) hQ;have hS':=hS.step (by omega) (b:=false) rfl hQ;clear hS hQ;change Qw g r w 1 _ at hS';go_wp2_with fail;change Calls _ _ _ (v0.setCell ⟨w.heap.size+1,0,none⟩ (.int .i64 (E8 false (Dg r 0)).1)) _;generalize v0.setCell ⟨w.heap.size+1,0,none⟩ (.int .i64 (E8 false (Dg r 0)).1)=W1 at *;have hS:=hS';clear hc hf hS';refine(Dv g (Dg r 1) _ hS.R.1).mono ?_
 rintro e v1 ⟨rfl,hQ⟩;obtain⟨ov,hc,hf⟩:=hS.cell (by omega) hQ;have hS':=hS.step (by omega) (b:=false) rfl hQ;clear hS hQ;change Qw g r w 2 _ at hS';go_wp2_with fail;change Calls _ _ _ (v1.setCell ⟨w.heap.size+1,1,none⟩ (.int .i64 (E8 false (Dg r 1)).1)) _;generalize v1.setCell ⟨w.heap.size+1,1,none⟩ (.int .i64 (E8 false (Dg r 1)).1)=W2 at *;have hS:=hS';clear hc hf hS';refine(Dv g (Dg r 2) _ hS.R.1).mono ?_
 rintro e v2 ⟨rfl,hQ⟩;obtain⟨ov,hc,hf⟩:=hS.cell (by omega) hQ;have hS':=hS.step (by omega) (b:=false) rfl hQ;clear hS hQ;change Qw g r w 3 _ at hS';go_wp2_with fail;change Calls _ _ _ (v2.setCell ⟨w.heap.size+1,2,none⟩ (.int .i64 (E8 false (Dg r 2)).1)) _;generalize v2.setCell ⟨w.heap.size+1,2,none⟩ (.int .i64 (E8 false (Dg r 2)).1)=W3 at *;have hS:=hS';clear hc hf hS';refine(Dv g (Dg r 3) _ hS.R.1).mono ?_
 rintro e v3 ⟨rfl,hQ⟩;obtain⟨ov,hc,hf⟩:=hS.cell (by omega) hQ;have hS':=hS.step (by omega) (b:=false) rfl hQ;clear hS hQ;change Qw g r w 4 _ at hS';go_wp2_with fail;change Calls _ _ _ (v3.setCell ⟨w.heap.size+1,3,none⟩ (.int .i64 (E8 false (Dg r 3)).1)) _;generalize v3.setCell ⟨w.heap.size+1,3,none⟩ (.int .i64 (E8 false (Dg r 3)).1)=W4 at *;have hS:=hS';clear hc hf hS';refine(Dv g (Dg r 4) _ hS.R.1).mono ?_
 rintro e v4 ⟨rfl,hQ⟩;obtain⟨ov,hc,hf⟩:=hS.cell (by omega) hQ;have hS':=hS.step (by omega) (b:=false) rfl hQ;clear hS hQ;change Qw g r w 5 _ at hS';go_wp2_with fail;change Calls _ _ _ (v4.setCell ⟨w.heap.size+1,4,none⟩ (.int .i64 (E8 false (Dg r 4)).1)) _;generalize v4.setCell ⟨w.heap.size+1,4,none⟩ (.int .i64 (E8 false (Dg r 4)).1)=W5 at *;have hS:=hS';clear hc hf hS';refine(Eu g (Dg r 5) _ hS.R.1).mono ?_
 rintro e v5 ⟨rfl,hQ⟩;obtain⟨ov,hc,hf⟩:=hS.cell (by omega) hQ;have hS':=hS.step (by omega) (b:=true) rfl hQ;clear hS hQ;change Qw g r w 6 _ at hS';go_wp2_with fail;change Calls _ _ _ (v5.setCell ⟨w.heap.size+1,5,none⟩ (.int .i64 (E8 true (Dg r 5)).1)) _;generalize v5.setCell ⟨w.heap.size+1,5,none⟩ (.int .i64 (E8 true (Dg r 5)).1)=W6 at *;have hS:=hS';clear hc hf hS';refine(Dv g (Dg r 6) _ hS.R.1).mono ?_
 rintro e v6 ⟨rfl,hQ⟩;obtain⟨ov,hc,hf⟩:=hS.cell (by omega) hQ;have hS':=hS.step (by omega) (b:=false) rfl hQ;clear hS hQ;change Qw g r w 7 _ at hS';go_wp2_with fail;change Calls _ _ _ (v6.setCell ⟨w.heap.size+1,6,none⟩ (.int .i64 (E8 false (Dg r 6)).1)) _;generalize v6.setCell ⟨w.heap.size+1,6,none⟩ (.int .i64 (E8 false (Dg r 6)).1)=W7 at *;have hS:=hS';clear hc hf hS';refine(Eu g (Dg r 7) _ hS.R.1).mono ?_
 rintro e v7 ⟨rfl,hQ⟩;obtain⟨ov,hc,hf⟩:=hS.cell (by omega) hQ;have hS':=hS.step (by omega) (b:=true) rfl hQ;clear hS hQ;change Qw g r w 8 _ at hS';go_wp2_with fail;change Calls _ _ _ (v7.setCell ⟨w.heap.size+1,7,none⟩ (.int .i64 (E8 true (Dg r 7)).1)) _;generalize v7.setCell ⟨w.heap.size+1,7,none⟩ (.int .i64 (E8 true (Dg r 7)).1)=W8 at *;have hS:=hS';clear hc hf hS';refine(Eu g (Dg r 8) _ hS.R.1).mono ?_
 rintro e v8 ⟨rfl,hQ⟩;obtain⟨ov,hc,hf⟩:=hS.cell (by omega) hQ;have hS':=hS.step (by omega) (b:=true) rfl hQ;clear hS hQ;change Qw g r w 9 _ at hS';go_wp2_with fail;change Calls _ _ _ (v8.setCell ⟨w.heap.size+1,8,none⟩ (.int .i64 (E8 true (Dg r 8)).1)) _;generalize v8.setCell ⟨w.heap.size+1,8,none⟩ (.int .i64 (E8 true (Dg r 8)).1)=W9 at *;have hS:=hS';clear hc hf hS';refine(Eu g (Dg r 9) _ hS.R.1).mono ?_
 rintro e v9 ⟨rfl,hQ⟩;obtain⟨ov,hc,hf⟩:=hS.cell (by omega) hQ;have hS':=hS.step (by omega) (b:=true) rfl hQ;clear hS hQ;change Qw g r w 10 _ at hS';obtain⟨e1,e2⟩:=Abp r;have hA:=hS'.A;have hR:=hS'.R;rw[e1]at hA;rw[e2]at hR;have hZ:=hS'.Z;have rA:rowOf (v9.setCell ⟨w.heap.size+1,9,none⟩ (.int .i64 (Bn (Dg r 9)).1)) (w.heap.size+1) 0 10=some (Gt r).1.vals.toArray:=hA.row 0 10 (by simp[Attr.len]);have HQ:=Zh (A6.lay (cs:=(Gt r).1.vals) hR hZ rfl (by omega) (Nat.le_refl _));clear hS' hA hR e1 e2
 go_wp2_with (first|(refine Ae (by rfl) 43 _ _ (by rfl) w.heap.size (Gt r).1.vals _ hZ (by rfl) (by rfl) (by rfl) (by kernel_rfl) (Attr.one _) ?_)|fail)
 refine Cz w.heap.size 0 (Gt r).1.vals Tryz.results194 Tryz.underlying43 rfl (by kernel_rfl) rfl HQ.out.2.range rfl ?_
 exact⟨rfl,HQ.out.1⟩
end
section
attribute [local go_sem] Rw
theorem Aqa {l:List UInt8}{k:Nat}(hk:k<l.length):(l.take (k+1)).getLast?=some l[k]:=by
 rw[List.take_succ_eq_append_getElem hk,List.getLast?_append];simp
theorem Ahz {l:List UInt8}{k:Nat}(hk:k<l.length)(h0:l[k]=0)(h:∀x∈l.drop (k+1),x=0):∀x∈l.drop k,x=0:=by
 intro x hx;rw[List.drop_eq_getElem_cons hk]at hx;rcases List.mem_cons.1 hx with rfl|hx
 ·exact h0
 ·exact h x hx
def As8 (l:List UInt8)(w:World)(e:Ending)(w':World):Prop:=∃m z,e=.returned (.string (bs m))/\l=m++z/\(∀x∈z,x=0)/\(∀x,m.getLast?=some x->x≠0)/\w=w'
def As9 (l:List UInt8)(w:World)(e:Ending)(w':World):Prop:=∃m z,e=.returned (.string (bs m))/\l=z++m/\(∀x∈z,x=0)/\(∀x,m.head?=some x->x≠0)/\w=w'
def Agl:Value->Nat
 |.string b=>b.size
 |_=>0
theorem R4 (l:List UInt8):Agl (.string (bs l))=l.length:=rfl
theorem Zy (l:List UInt8)(w:World)(hl:l.length<=9223372036854775807) :
  Calls Tryz.prog 201 #[.string (bs l),.int .u8 0] w (As8 l w):=by
 go_enter Tryz.func201,Tryz.ntmps201
 go_wp2
 go_loop [0] (fun s=>∃k:Nat,k<=l.length/\s=.string (bs (l.take k))/\∀x∈l.drop k,x=0) (fun s=>Agl s)
 case atStart=>exact⟨l.length,Nat.le_refl _,by rw[List.take_length],by simp⟩
 case round=>
  obtain⟨k,hk,rfl,hz⟩:=hrel;have hsz:(bs (l.take k)).size=k:=by rw[Au,List.length_take];omega
  have HZ:=Zh hz;clear hz
  match k,hk,hsz with
  |0,hk,hsz=>
   go_wp2;go_ret;exact⟨[],l,rfl,rfl,by simpa using HZ.out,by simp,rfl⟩
  |k+1,hk,hsz=>
   have hlt:k<l.length:=by omega
   have hb:=l[k].toNat_lt;have hlen:(l.take (k+1)).length=k+1:=by rw[List.length_take];omega
   have hlen2:(l.take k).length=k:=by rw[List.length_take];omega
   have htt:(l.take (k+1)).take k=l.take k:=by rw[List.take_take];congr 1;omega
   have hk1:(0:Int)<((k+1:Nat):Int):=by omega
   have hidx:((k+1:Nat):Int) - 1=(k:Int):=by omega
   by_cases h0:l[k]=0
   ·have h1:((l[k].toNat:Int)==0)=true:=by rw[h0];rfl
    have HS:=Zh (Ahz hlt h0 HZ.out);clear h0 HZ;go_wp2;go_round
    case rel=>exact⟨k,by omega,by rw[Acs,htt],HS.out⟩
    case measure=>rw[Acs,htt,R4,R4,hlen,hlen2];omega
   ·have h1:((l[k].toNat:Int)==0)=false:=by
     rw[beq_eq_false_iff_ne];intro e;apply h0;apply UInt8.toNat_inj.1;simpa using e
    have HS:=Zh (show ∀x,(l.take (k+1)).getLast?=some x->x≠0 from fun x hx=>by
     rw[Aqa hlt]at hx;injection hx with hx;subst hx;exact h0)
    clear h0;go_wp2;go_ret;exact⟨l.take (k+1),l.drop (k+1),rfl,(List.take_append_drop _ _).symm,HZ.out,HS.out,rfl⟩
theorem Agi {l:List UInt8}{k:Nat}(hk:k<l.length)(h0:l[k]=0)(h:∀x∈l.take k,x=0):∀x∈l.take (k+1),x=0:=by
 intro x hx;rw[List.take_succ_eq_append_getElem hk]at hx;rcases List.mem_append.1 hx with hx|hx
 ·exact h x hx
 ·simp at hx;subst hx;exact h0
theorem Abu (l:List UInt8)(w:World)(hl:l.length<=9223372036854775807) :
  Calls Tryz.prog 200 #[.string (bs l),.int .u8 0] w (As9 l w):=by
 go_enter Tryz.func200,Tryz.ntmps200
 go_wp2
 go_loop [0] (fun s=>∃k:Nat,k<=l.length/\s=.string (bs (l.drop k))/\∀x∈l.take k,x=0) (fun s=>Agl s)
 case atStart=>exact⟨0,Nat.zero_le _,rfl,by simp⟩
 case round=>
  obtain⟨k,hk,rfl,hz⟩:=hrel;have HZ:=Zh hz;clear hz;by_cases hlt:k<l.length
  ·have hb:=l[k].toNat_lt
   have hdr:l.drop k=l[k]::l.drop (k+1):=List.drop_eq_getElem_cons hlt;have hlen2:(l.drop (k+1)).length=l.length - (k+1):=List.length_drop;have hlen:(l[k]::l.drop (k+1)).length=l.length - k:=by rw[List.length_cons,hlen2];omega
   have hsz:(bs (l[k]::l.drop (k+1))).size=l.length - k:=hlen;have hpos:(0:Int)<((l.length - k:Nat):Int):=by omega
   have hbig:((l.length - k:Nat):Int)<=9223372036854775807:=by omega
   have HD:=Zh hdr;rw[hdr];by_cases h0:l[k]=0
   ·have h1:((l[k].toNat:Int)==0)=true:=by rw[h0];rfl
    have HS:=Zh (Agi hlt h0 HZ.out);clear h0 HZ hdr;have hcut:(bs (l.drop k)).extract 1 (l.length - k)=bs (l.drop (k+1)):=by
     have:=Xt (l.drop k) 1;rw[List.length_drop,List.drop_drop]at this;exact this
    have HC:=Zh hcut;clear hcut;go_wp2;go_round
    case rel=>exact⟨k+1,by omega,by rw[HC.out],HS.out⟩
    case measure=>rw[HC.out,R4,R4,hlen,hlen2];omega
   ·have h1:((l[k].toNat:Int)==0)=false:=by
     rw[beq_eq_false_iff_ne];intro e;apply h0;apply UInt8.toNat_inj.1;simpa using e
    have HS:=Zh (show ∀x,(l.drop k).head?=some x->x≠0 from fun x hx=>by
     rw[hdr]at hx;simp only[List.head?_cons,Option.some.injEq]at hx;exact fun e=>h0 (hx.trans e))
    clear h0 hdr;go_wp2;go_ret;exact⟨l.drop k,l.take k,rfl,(List.take_append_drop _ _).symm,HZ.out,HS.out,rfl⟩
  ·have hdr:l.drop k=[]:=List.drop_of_length_le (by omega)
   have htk:l.take k=l:=List.take_of_length_le (by omega);rw[htk]at HZ;rw[hdr];clear htk hdr hlt;go_wp2;go_ret;exact⟨[],l,rfl,by simp,HZ.out,by simp,rfl⟩
def Arh (l:List UInt8)(w:World)(e:Ending)(w':World):Prop:=∃m,e=.returned (.string (bs m))/\(m=[] ↔ l.all (·==0)=true)/\Below w.heap.size w w'
theorem Ac9 {l m m1 z1 z2:List UInt8}(h1:l=m1++z1)(h2:m1=z2++m)(hz1:∀x∈z1,x=0)(hz2:∀x∈z2,x=0)(hm:∀x,m.head?=some x->x≠0):m=[] ↔ l.all (·==0)=true:=by
 subst h1 h2;rw[List.all_eq_true];constructor
 ·rintro rfl
  intro x hx;simp only[List.append_nil,List.mem_append]at hx;rcases hx with hx|hx
  ·simpa using hz2 x hx
  ·simpa using hz1 x hx
 ·intro h
  cases m with
  |nil=>rfl
  |cons a m=>
   have:=h a (by simp);exact absurd (by simpa using this) (hm a rfl)
theorem Al2 (l:List UInt8)(w:World)(hl:l.length<=9223372036854775807) :
  Calls Tryz.prog 187 #[.string (bs l),.string (bs [0])] w (Arh l w):=by
 cases l with
 |nil=>
  go_enter Tryz.func187,Tryz.ntmps187
  go_wp2;go_ret;exact⟨[],rfl,by simp,Below.refl _ _⟩
 |cons a t=>
  have hlen:(a::t).length=t.length+1:=rfl;go_enter Tryz.func187,Tryz.ntmps187
  go_wp2_with fail;have HL:=Zh hl;generalize a::t=l at *;go_region_held3 (fun W=>Stb w W) (first|exact Stb.start|assumption) (first
   |(go_at_call 201;refine(Zy l _ HL.out).mono ?_;rintro e w' ⟨m1,z1,rfl,h1,hz1,hm1,rfl⟩;have H1:=Zh h1;clear h1)
   |(go_at_call 200;refine(Abu m1 _ (by have h:=HL.out;rw[H1.out,List.length_append]at h;omega)).mono ?_;rintro e w' ⟨m,z2,rfl,h2,hz2,hm,rfl⟩;have H2:=Zh h2;clear h2))
  all_goals
   have HI:=Zh (Ac9 H1.out H2.out hz1 hz2 hm);clear hz1 hz2 hm hm1 H1 H2;go_wp2;go_ret;exact⟨m,rfl,HI.out,(Below.refl _ _).drew⟩
end
theorem Ae1 (args:Array Value)(w:World):(callFunc 185 args).run Tryz.prog w=.ok (.enter 185 args) w:=by kernel_rfl
theorem Ae0 (args:Array Value)(w:World):(callFunc 186 args).run Tryz.prog w=.ok (.enter 186 args) w:=by kernel_rfl
def J2 (n:Nat)(r:Rs):List UInt8 × Rs:=if r.e≠0 then ([],r) else if r.s.length<n then ([],Rs.fail 10) else (r.s.take n,⟨r.s.drop n,0⟩)
def Lh (p:Nat)(r:Rs):Rs:=if r.e≠0 then r else if r.s.length<p then Rs.fail 10 else if (r.s.take p).all (·==0) then ⟨r.s.drop p,0⟩ else Rs.fail 11
theorem Yh (n:Nat)(r:Rs):En n r=(if (Lh (D7 n) (J2 n r).2).e≠0 then [] else (J2 n r).1,Lh (D7 n) (J2 n r).2):=by
 unfold En J2 Lh;by_cases h1:r.e≠0
 ·simp[h1]
 ·rw[if_neg h1,if_neg h1]
  by_cases h2:r.s.length<n
  ·simp[h2,Rs.fail]
  ·rw[if_neg h2,if_neg h2]
   simp only[ne_eq,not_true_eq_false,if_false];by_cases h3:(r.s.drop n).length<D7 n
   ·rw[if_pos h3,if_pos h3];simp[Rs.fail]
   ·rw[if_neg h3,if_neg h3]
    by_cases h4:((r.s.drop n).take (D7 n)).all (·==0)=true
    ·rw[if_pos h4,if_pos h4];simp
    ·rw[if_neg h4,if_neg h4];simp[Rs.fail]
theorem Ad1 (b:Nat)(s old:List UInt8)(w:World)(hB:Blk w b 9 [.string (bs old)]) :
  Calls Tryz.prog 185 #[.string (bs s),.pointer (some ⟨b,0,none⟩)] w fun e w'=>e=.returned (.tuple #[])/\(Blk w' b 9 [.string (bs s)]/\Touch (fun k=>k=b) w w'):=by
 have hc:=hB.cell;have hf:=hB.frozen;have HS:=Zh (hB.Be 0 (.string (bs s)));have HT:=Zh ((Touch.refl (fun k=>k=b) w).An (g:=b) (o:=0) (.inl rfl) (.string (bs s)));clear hB;go_enter Tryz.func185,Tryz.ntmps185
 go_wp2;go_end0
 exact⟨rfl,HS.out,HT.out⟩
theorem Ad0 (h g:Nat)(s:List UInt8)(r:Rs)(w:World)(hH:Blk w h 167 [.pointer (some ⟨g,0,none⟩)])(hR:Rd w g r)(hl:s.length<=9223372036854775807) :
  Calls Tryz.prog 186 #[.string (bs s),.pointer (some ⟨h,0,none⟩)] w fun e w'=>e=.returned (.tuple #[])/\Reads g (if s.all (·==0)=true then r else Rs.fail 11) w w':=by
 go_enter Tryz.func186,Tryz.ntmps186
 go_wp2_with fail;refine(Al2 s _ hl).mono ?_
 rintro e w1 ⟨m,rfl,hm,hb⟩;have hH1:=hH.stays hb;have hR1:=hR.stays hb;have hc:=hH1.cell;have HB:=Zh hb;clear hH hR hb;cases m with
 |nil=>
  have HA:=Zh (hm.1 rfl);clear hm;go_wp2;go_end0
  exact⟨rfl,by first|exact Reads.behind HB.out (Reads.refl hR1)|(rw[if_pos HA.out];exact Reads.behind HB.out (Reads.refl hR1))⟩
 |cons a m=>
  have HA:=Zh (fun e=>by simpa using hm.2 e:¬s.all (·==0)=true);clear hm;go_wp2_with fail;refine(Ng g r 11 _ hR1).mono ?_
  rintro e w2 ⟨rfl,hQ⟩;have HQ:=Zh (Reads.behind HB.out hQ);clear hQ;go_wp2;go_end0
  exact⟨rfl,by first|exact HQ.out|(rw[if_neg HA.out];exact HQ.out)⟩
theorem Acf (g b n:Nat)(r:Rs)(w:World)(hR:Rd w g r)(hB:Blk w b 9 [.string (bs [])])(hl:r.s.length<=9223372036854775807) :
  Calls Tryz.prog 171 #[.pointer (some ⟨g,0,none⟩),.int .i64 n,.func (.func 185) #[] #[.pointer (some ⟨b,0,none⟩)]] w fun e w'=>
   e=.returned (.tuple #[])/\Rd w' g (J2 n r).2/\Blk w' b 9 [.string (bs (J2 n r).1)]/\Touch (fun k=>k=g\/k=b) w w':=by
 have hne:b≠g:=Blk.ne_ hB hR.1 (by decide);by_cases he:r.e≠0
 ·rw[show J2 n r=([],r) by simp[J2,he]]
  refine(Xz g r n _ w hR he).mono ?_
  rintro e w1 ⟨rfl,rfl⟩;exact⟨rfl,hR,hB,Touch.refl _ _⟩
 ·obtain⟨s,e⟩:=r
  simp only[ne_eq,Decidable.not_not]at he hl;subst he;by_cases hs:s.length<n
  ·rw[show J2 n ⟨s,0⟩=([],Rs.fail 10) by simp[J2,hs]]
   refine(S8 g s n _ w hR hs).mono ?_
   rintro e w1 ⟨rfl,hQ⟩;exact⟨rfl,hQ.1,hQ.keeps hB hne,hQ.2.mono fun _ _ h=>.inl h⟩
  ·rw[show J2 n ⟨s,0⟩=(s.take n,⟨s.drop n,0⟩) by simp[J2,hs]]
   refine(Abx g s n 185 #[.pointer (some ⟨b,0,none⟩)] w hR (by omega) hl Ae1 (fun w1 hQ=>Ad1 b (s.take n) [] w1 (hQ.keeps hB hne))).mono ?_
   rintro e w2 ⟨w1,rfl,hQ,hb2,hT2⟩;exact⟨rfl,hQ.1.Ak hT2 (fun h=>hne h.symm),hb2,(hQ.2.mono fun _ _ h=>.inl h).Ay (hT2.mono fun _ _ h=>.inr h)⟩
theorem Ace (g h n:Nat)(r:Rs)(w:World)(hR:Rd w g r)(hH:Blk w h 167 [.pointer (some ⟨g,0,none⟩)])(hl:r.s.length<=9223372036854775807) :
  Calls Tryz.prog 171 #[.pointer (some ⟨g,0,none⟩),.int .i64 n,.func (.func 186) #[] #[.pointer (some ⟨h,0,none⟩)]] w fun e w'=>
   e=.returned (.tuple #[])/\Reads g (Lh n r) w w':=by
 have hne:h≠g:=Blk.ne_ hH hR.1 (by decide);by_cases he:r.e≠0
 ·rw[show Lh n r=r by simp[Lh,he]]
  refine(Xz g r n _ w hR he).mono ?_
  rintro e w1 ⟨rfl,rfl⟩;exact⟨rfl,Reads.refl hR⟩
 ·obtain⟨s,e⟩:=r
  simp only[ne_eq,Decidable.not_not]at he hl;subst he;by_cases hs:s.length<n
  ·rw[show Lh n ⟨s,0⟩=Rs.fail 10 by simp[Lh,hs]]
   exact S8 g s n _ w hR hs
  ·rw[show Lh n ⟨s,0⟩=if (s.take n).all (·==0)=true then ⟨s.drop n,0⟩ else Rs.fail 11 by simp[Lh,hs]]
   refine(Abx g s n 186 #[.pointer (some ⟨h,0,none⟩)] w hR (by omega) hl Ae0 (fun w1 hQ=>Ad0 h g (s.take n) ⟨s.drop n,0⟩ w1 (hQ.keeps hH hne) hQ.1 (by rw[List.length_take];omega))).mono ?_
   rintro e w2 ⟨w1,rfl,hQ,hQ2⟩;exact⟨rfl,hQ.trans hQ2⟩
theorem Tc {n:Nat}{r:Rs}(_h:r.s.length<=9223372036854775807):(J2 n r).2.s.length<=r.s.length:=by
 unfold J2;split
 ·exact Nat.le_refl _
 ·split
  ·simp[Rs.fail]
  ·simp
theorem Agt {n:Nat}{r:Rs}(_h:r.s.length<=9223372036854775807):(Lh n r).s.length<=r.s.length:=by
 unfold Lh;split
 ·exact Nat.le_refl _
 ·split
  ·simp[Rs.fail]
  ·split
   ·simp
   ·simp[Rs.fail]
theorem Vh {n:Nat}{r:Rs}(h:r.s.length<=9223372036854775807):(En n r).2.s.length<=r.s.length:=by
 rw[Yh];exact Nat.le_trans (Agt (Nat.le_trans (Tc h) h)) (Tc h)
theorem Yn (g n:Nat)(r:Rs)(w:World)(hR:Rd w g r)(hn:(n:Int)<=9223372036854775807)(hl:r.s.length<=9223372036854775807) :
  Calls Tryz.prog 174 #[.pointer (some ⟨g,0,none⟩),.int .i64 n] w (Um g (En n r).2 (.string (bs (En n r).1)) w):=by
 have hH0:=Blk.new w 167 [.pointer (some ⟨g,0,none⟩)];have hB0:=Blk.new (w.alloc (.cells #[.pointer (some ⟨g,0,none⟩)] 167)) 9 [.string (bs [])];have hH1:=hH0.alloc (.cells #[.string (bs [])] 9);have hL0:Below w.heap.size w (w.alloc (.cells #[.pointer (some ⟨g,0,none⟩)] 167)):=(Below.refl _ _).alloc (Nat.le_refl _) _;have hL1:=hL0.alloc hL0.size (.cells #[.string (bs [])] 9);have hs1:(w.alloc (.cells #[.pointer (some ⟨g,0,none⟩)] 167)).heap.size=w.heap.size+1:=by simp
 rw[hs1]at hB0;have hR1:=hR.stays hL1;have hlt:=hR.lt;have hP:=Zh (Yh n r);have hc0:=hH1.cell;clear hH0 hL0 hs1 hR;go_enter Tryz.func174,Tryz.ntmps174
 go_wp2_with fail;refine(Acf g (w.heap.size+1) n r _ hR1 hB0 hl).mono ?_
 rintro e w1 ⟨rfl,hR2,hB2,hT2⟩;have hH2:=hH1.Ak hT2 (by intro h;omega);have hc2:=hH2.cell;have hT0:Touch (fun k=>k=g) w w1:=(Touch.Aq hL1 _).trans hT2 (fun i hi h=>by omega);have hl2:=Nat.le_trans (Tc (n:=n) hl) hl;have HT0:=Zh hT0;clear hT0 hT2 hc0 hH1 hB0 hR1;generalize J2 n r=a at *;have hpad:=Qa n;have hpd:=fun W=>Ai0 n W hn
 simp only[Int.toNat_natCast]at hpd;have HPD:=Zh hpd;clear hpd;go_wp2_with fail;go_region_held3 (fun W=>W.cell? ⟨w.heap.size,0,none⟩=some (.pointer (some ⟨g,0,none⟩))) (first|exact hc2 0|assumption) (first
  |(go_at_call 184;refine(HPD.out _).mono ?_;rintro e w' ⟨rfl,rfl⟩)
  |(go_at_call 171;refine(Ace g w.heap.size (D7 n) a.2 _ (show Rd w1.drew g a.2 from hR2) (show Blk w1.drew _ _ _ from hH2) hl2).mono ?_;rintro e w3 ⟨rfl,hQ⟩;have hH3:=hQ.keeps (show Blk w1.drew _ _ _ from hH2) (by omega);have hc3:=hH3.cell 0))
 all_goals
  have hT3:=HT0.out.drew.Ay hQ.2;have hB3:=hQ.keeps (show Blk w1.drew _ _ _ from hB2) (by omega);have hR3:=hQ.1;have hcB:=hB3.cell;have hcH:=hH3.cell;have HT:=Zh hT3;clear hT3 hQ hB2 hH2 hR2 hc2 hc3 hH3 hB3;generalize Lh (D7 n) a.2=b at *;have HR:=Zh hR3;go_wp2_with fail;refine(Cn g b _ hR3).mono ?_
  rintro e w4 ⟨rfl,rfl⟩;by_cases hb:b.e=0
  ·have hb2:(b.e != 0)=false:=by simpa using hb
   have HF:=Zh (show En n r=(a.1,b) by rw[hP.out,if_neg (by simpa using hb)]);clear hb hR3;go_wp2;go_ret;rw[HF.out];exact⟨rfl,HR.out,HT.out⟩
  ·have hb2:(b.e != 0)=true:=by simpa using hb
   have HF:=Zh (show En n r=([],b) by rw[hP.out,if_pos hb]);clear hb hR3;go_wp2;go_ret;rw[HF.out];exact⟨rfl,HR.out,HT.out⟩
theorem Agy (g:Nat)(n:Int)(r:Rs)(w:World)(hR:Rd w g r)(hn:n<=9223372036854775807)(hl:r.s.length<=9223372036854775807) :
  Calls Tryz.prog 170 #[.pointer (some ⟨g,0,none⟩),.int .i64 n] w (Um g (Ff n r).2 (.string (bs (Ff n r).1)) w):=by
 by_cases he:r.e=0
 ·have he2:(r.e != 0)=false:=by simpa using he
  by_cases hn0:n<0
  ·have HF:=Zh (show Ff n r=([],Rs.fail 2) by simp[Ff,he,hn0])
   have HR:=Zh hR;clear he hR;go_enter Tryz.func170,Tryz.ntmps170
   go_wp2_with fail;refine(Cn g r _ HR.out).mono ?_
   rintro e w1 ⟨rfl,rfl⟩;go_wp2_with fail;refine(Ng g r 2 _ HR.out).mono ?_
   rintro e w2 ⟨rfl,hQ⟩;have HQ:=Zh hQ;clear hQ;go_wp2;go_ret;rw[HF.out];exact⟨rfl,HQ.out⟩
  ·obtain⟨m,rfl⟩:=Int.eq_ofNat_of_zero_le (show 0<=n by omega)
   have HF:=Zh (show Ff m r=En m r by unfold Ff;rw[if_neg (by simpa using he),if_neg hn0];rfl);have HR:=Zh hR;clear he hR;go_enter Tryz.func170,Tryz.ntmps170
   go_wp2_with fail;refine(Cn g r _ HR.out).mono ?_
   rintro e w1 ⟨rfl,rfl⟩;go_wp2_with fail;refine(Yn g m r _ HR.out hn hl).mono ?_
   rintro e w2 ⟨rfl,hQ⟩;have HQ:=Zh hQ;clear hQ;go_wp2;go_ret;rw[HF.out];exact⟨rfl,HQ.out⟩
 ·have he2:(r.e != 0)=true:=by simpa using he
  have HF:=Zh (show Ff n r=([],r) by simp[Ff,he]);have HR:=Zh hR;clear he hR;go_enter Tryz.func170,Tryz.ntmps170
  go_wp2_with fail;refine(Cn g r _ HR.out).mono ?_
  rintro e w1 ⟨rfl,rfl⟩;go_wp2;go_ret;rw[HF.out];exact⟨rfl,Reads.refl HR.out⟩
theorem Apg {r:Rs}(h:r.s.length<=9223372036854775807):(Am r).1<4294967296:=(R6 (k:=4) h).1
theorem Oy (g:Nat)(most:Int)(r:Rs)(w:World)(hR:Rd w g r)(hl:r.s.length<=9223372036854775807) :
  Calls Tryz.prog 142 #[.pointer (some ⟨g,0,none⟩),.int .i64 most] w (Um g (Ao most r).2 (.string (bs (Ao most r).1)) w):=by
 have hl2:=Nat.le_trans (Em hl) hl;have hlt:=Apg hl;have hu:=G3 g r w hR hl;have HO:=Zh (show Ao most r=if (Am r).2.e≠0 then ([],(Am r).2) else if most<((Am r).1:Int) then ([],Rs.fail 4) else En (Am r).1 (Am r).2 from rfl);generalize Am r=x at *;obtain⟨m,r2⟩:=x;simp only at HO hl2 hlt hu
 have HU:=Zh hu;clear hu hR;go_enter Tryz.func142,Tryz.ntmps142
 go_wp2_with fail;refine HU.out.mono ?_
 rintro e w1 ⟨rfl,hQ1⟩;have HQ1:=Zh hQ1;clear hQ1 HU;go_wp2_with fail;refine(Cn g r2 _ HQ1.out.1).mono ?_
 rintro e w2 ⟨rfl,rfl⟩;by_cases he:r2.e=0
 ·have he2:(r2.e != 0)=false:=by simpa using he
  by_cases hm:most<(m:Int)
  ·have HF:=Zh (show Ao most r=([],Rs.fail 4) by rw[HO.out,if_neg (by simpa using he),if_pos hm])
   clear he;go_wp2_with fail;refine(Ng g r2 4 _ HQ1.out.1).mono ?_
   rintro e w3 ⟨rfl,hQ⟩;have HQ:=Zh (HQ1.out.trans hQ);clear hQ;go_wp2;go_ret;rw[HF.out];exact⟨rfl,HQ.out⟩
  ·have HF:=Zh (show Ao most r=En m r2 by rw[HO.out,if_neg (by simpa using he),if_neg hm])
   clear he;go_wp2_with fail;refine(Yn g m r2 _ HQ1.out.1 (by omega) hl2).mono ?_
   rintro e w3 ⟨rfl,hQ⟩;have HQ:=Zh (HQ1.out.trans hQ);clear hQ;go_wp2;go_ret;rw[HF.out];exact⟨rfl,HQ.out⟩
 ·have he2:(r2.e != 0)=true:=by simpa using he
  have HF:=Zh (show Ao most r=([],r2) by rw[HO.out,if_pos he]);clear he;go_wp2;go_ret;rw[HF.out];exact⟨rfl,HQ1.out⟩
theorem Uu (g:Nat)(r:Rs)(w:World)(hR:Rd w g r):Calls Tryz.prog 137 #[.pointer (some ⟨g,0,none⟩)] w fun e w'=>e=.returned (.int .i64 (J9 r))/\w=w':=by
 have hc:=hR.1.cell;have hsz:=Au r.s;by_cases he:r.e=0
 ·have he2:(r.e != 0)=false:=by simpa using he
  have HF:=Zh (show J9 r=r.s.length by simp[J9,he]);have HR:=Zh hR;clear he hR;go_enter Tryz.func137,Tryz.ntmps137
  go_wp2_with fail;refine(Cn g r _ HR.out).mono ?_
  rintro e w1 ⟨rfl,rfl⟩;go_wp2;go_ret;rw[HF.out];exact⟨rfl,rfl⟩
 ·have he2:(r.e != 0)=true:=by simpa using he
  have HF:=Zh (show J9 r=0 by simp[J9,he]);have HR:=Zh hR;clear he hR;go_enter Tryz.func137,Tryz.ntmps137
  go_wp2_with fail;refine(Cn g r _ HR.out).mono ?_
  rintro e w1 ⟨rfl,rfl⟩;go_wp2;go_ret;rw[HF.out];exact⟨rfl,rfl⟩
theorem Aka (g:Nat)(r:Rs)(w:World)(hR:Rd w g r):Calls Tryz.prog 104 #[.pointer (some ⟨g,0,none⟩)] w fun e w'=>e=.returned (.int .i64 (Qq r))/\w=w':=by
 have hc:=hR.1.cell;have hsz:=Au r.s;by_cases he:r.e=0
 ·have he2:(r.e != 0)=false:=by simpa using he
  have HF:=Zh (show Qq r=if 0<r.s.length then 12 else 0 by simp[Qq,he]);have HR:=Zh hR;clear he hR;by_cases hs:0<r.s.length
  all_goals
   go_enter Tryz.func104,Tryz.ntmps104
   go_wp2_with fail;refine(Cn g r _ HR.out).mono ?_
   rintro e w1 ⟨rfl,rfl⟩;go_wp2;go_ret;rw[HF.out]
   first
    |(rw[if_pos hs];exact⟨rfl,rfl⟩)
    |(rw[if_neg hs];exact⟨rfl,rfl⟩)
 ·have he2:(r.e != 0)=true:=by simpa using he
  have HF:=Zh (show Qq r=r.e by simp[Qq,he]);have HR:=Zh hR;clear he hR;go_enter Tryz.func104,Tryz.ntmps104
  go_wp2_with fail;refine(Cn g r _ HR.out).mono ?_
  rintro e w1 ⟨rfl,rfl⟩;go_wp2;go_ret;rw[HF.out];exact⟨rfl,rfl⟩
theorem Vg (s:List UInt8)(w:World):Calls Tryz.prog 94 #[.string (bs s)] w fun e w'=>e=.returned (.pointer (some ⟨w.heap.size,0,none⟩))/\Rd w' w.heap.size ⟨s,0⟩/\Below w.heap.size w w':=by
 have hB:=Blk.new w 200 [.string (bs s),.int .i64 0];have hb:Below w.heap.size w (w.alloc (.cells #[.string (bs s),.int .i64 0] 200)):=(Below.refl _ _).alloc (Nat.le_refl _) _;have HB:=Zh hB;go_enter Tryz.func94,Tryz.ntmps94
 go_wp2;go_ret;exact⟨rfl,⟨HB.out,fun h=>absurd rfl h⟩,hb⟩
section
theorem Vo (n least:Int)(w:World):Calls Tryz.prog 169 #[.int .i64 n,.int .i64 least] w fun e w'=>e=.returned (.bool (Rk n least))/\w=w':=by
 go_enter Tryz.func169,Tryz.ntmps169
 go_wp2
 all_goals
  go_ret;exact⟨A5 (by grind [Rk]),rfl⟩
theorem J0 (n:Int)(w:World):Calls Tryz.prog 135 #[.int .i64 n] w fun e w'=>e=.returned (.bool (O7 n))/\w=w':=by
 go_enter Tryz.func135,Tryz.ntmps135
 go_wp2
 all_goals
  go_ret;exact⟨A5 (by grind [O7]),rfl⟩
theorem Yp (c:A8)(w:World):Calls Tryz.prog 136 #[.agg c.vals.toArray] w fun e w'=>e=.returned (.bool c.ok)/\Below w.heap.size w w':=by
 have hr:=Gd w c.vals 63;have hc0:=hr 0 _ rfl;have hc1:=hr 1 _ rfl;have hc2:=hr 2 _ rfl;have hc3:=hr 3 _ rfl;have hB0:Below w.heap.size w (w.alloc (.cells c.vals.toArray 63)):=(Below.refl _ _).alloc (Nat.le_refl _) _;clear hr;go_enter Tryz.func136,Tryz.ntmps136
 go_wp2_with (first|(go_at_call 169;refine(Vo _ _ _).mono ?_;rintro e w' ⟨rfl,rfl⟩)|fail)
 all_goals
  clear hc0 hc1 hc2 hc3;go_ret;exact⟨A5 (by grind [A8.ok]),hB0⟩
theorem Aa9:Im Tryz.prog 8 63=some (List.replicate 4 (.i .i64)):=by kernel_rfl
theorem Y8 (a:A8):fits (List.replicate 4 (.i .i64)) a.vals=true:=by rfl
theorem Alw {a b:A8}(h:a.vals=b.vals):a=b:=by
 cases a;cases b;simp_all [A8.vals]
theorem Za (a b:A8)(w:World):(binOp .eql 63 (.agg a.vals.toArray) (.agg b.vals.toArray)).run Tryz.prog w=.ok (.bool (decide (a=b))) w:=by
 by_cases h:a=b
 ·subst h
  rw[Px Aa9 (by kernel_rfl) w _ _ (Y8 a) rfl];simp
 ·rw[Sc Aa9 (by kernel_rfl) w _ _ (Y8 a) (Y8 b) fun hh=>h (Alw hh)]
  simp[h]
theorem Xr (a:A8)(w:World):(binOp .eql 63 (.agg a.vals.toArray) (.agg #[.int .i64 0,.int .i64 0,.int .i64 0,.int .i64 0])).run Tryz.prog w=.ok (.bool (decide (a=Av))) w:=Za a Av w
theorem N8 {ρ:Operand->Value}{w:World}{dst:Option Tmp}{ty:TypeId}{pos:String}{after:Array Edge}{g:Option (Nat × Bool)}{x:Operand}(h:(rowAt w 4 (ρ x)).isSome=true) :
  (execOp ρ ⟨dst,.load 63 x,ty,pos,after,g⟩).run Tryz.prog w=.ok (.value (.agg ((rowAt w 4 (ρ x)).getD #[]))) w:=D8 63 4 Tryz.underlying63 rfl (by kernel_rfl) h
theorem G6 {ρ:Operand->Value}{w:World}{dst:Option Tmp}{ty:TypeId}{pos:String}{after:Array Edge}{g:Option (Nat × Bool)}{x:Operand}(h:(rowAt w 10 (ρ x)).isSome=true) :
  (execOp ρ ⟨dst,.load 81 x,ty,pos,after,g⟩).run Tryz.prog w=.ok (.value (.agg ((rowAt w 10 (ρ x)).getD #[]))) w:=D8 81 10 Tryz.underlying81 rfl (by kernel_rfl) h
attribute [local go_sem ↓] Za Xr N8 G6
attribute [local go_sem] Ai Ag Af
theorem Aef (m:Message)(w:World)(hl:m.body.length<=9223372036854775807):Calls Tryz.prog 139 #[.agg m.vals.toArray] w fun e w'=>e=.returned (.bool m.may)/\Below w.heap.size w w':=by
 have hr:=Gd w m.vals 81;have hc0:=hr 0 _ rfl;have hc1:=hr 1 _ rfl;have hc2:=hr 2 _ rfl;have hc3:=hr 3 _ rfl;have hc8:=hr 8 _ rfl;have hc9:=hr 9 _ rfl;have hb0:=Blk.new w 81 m.vals;have h4:rowOf (w.alloc (.cells m.vals.toArray 81)) w.heap.size 4 4=some m.C3.vals.toArray:=hb0.row 4 4 (by simp[Message.len]);have hB0:Below w.heap.size w (w.alloc (.cells m.vals.toArray 81)):=(Below.refl _ _).alloc (Nat.le_refl _) _;have hz:w.heap.size<(w.alloc (.cells m.vals.toArray 81)).heap.size:=by simp
 have hsz:=Au m.body;clear hr hb0;go_enter Tryz.func139,Tryz.ntmps139
 go_wp2_with (first
  |(go_at_call 169;refine(Vo _ _ _).mono ?_;rintro e w' ⟨rfl,rfl⟩)
  |(go_at_call 135;refine(J0 _ _).mono ?_;rintro e w' ⟨rfl,rfl⟩)
  |(go_at_call 136;refine(Yp _ _).mono ?_;rintro e w' ⟨rfl,hb⟩;have hs:=Stb.of hb)|fail)
 all_goals
  go_ret;clear hc0 hc1 hc2 hc3 hc8 hc9 h4 hz hsz;go_light
  refine⟨A5 ?_,by first|exact hB0|exact Ad hB0 (Stb.below (by assumption))⟩
  grind [Message.may]
end
section
attribute [local go_sem] Rw
theorem Ase (s:List UInt8)(a n:Nat):(bs s).extract a (a+n)=bs ((s.drop a).take n):=by
 apply ByteArray.ext
 simp[List.extract]
theorem Akg {m:Nat}(h:m % 4≠0):D7 m=D7 (m+1)+1:=by unfold D7;omega
theorem Akf {m:Nat}(h:m % 4=0):D7 m=0:=by unfold D7;omega
theorem Aca {n:Nat}{s:List UInt8}(h:s.length<n+D7 n):Ff n ⟨s,0⟩=([],Rs.fail 10):=by
 have hn:¬((n:Int)<0):=by omega
 simp only[Ff,ne_eq,not_true_eq_false,if_false,hn,En,Int.toNat_natCast];by_cases h1:s.length<n
 ·rw[if_pos h1]
 ·rw[if_neg h1,if_pos (by rw[List.length_drop];omega)]
theorem Af8 {l:List UInt8}{j:Nat}(hj:j<l.length)(h:(l.take j).all (·==0)=true)(h0:l[j]=0):(l.take (j+1)).all (·==0)=true:=by
 rw[List.take_succ_eq_append_getElem hj,List.all_append,h];simp[h0]
theorem Ajc {l:List UInt8}{j p:Nat}(hj:j<l.length)(hp:j<p)(h0:l[j]≠0):¬(l.take p).all (·==0)=true:=by
 intro h;rw[List.all_eq_true]at h;have:(l.take p)[j]?=some l[j]:=by rw[List.getElem?_take,if_pos hp,List.getElem?_eq_getElem hj]
 exact h0 (by simpa using h _ (List.mem_of_getElem? this))
theorem Adw {n:Nat}{s:List UInt8}(h:n+D7 n<=s.length):Ff n ⟨s,0⟩=if ((s.drop n).take (D7 n)).all (·==0)=true then (s.take n,⟨s.drop (n+D7 n),0⟩) else ([],Rs.fail 11):=by
 have hn:¬((n:Int)<0):=by omega
 simp only[Ff,ne_eq,not_true_eq_false,if_false,hn,En,Int.toNat_natCast];rw[if_neg (by omega),if_neg (by rw[List.length_drop];omega),List.drop_drop]
theorem Ab6 (g n:Nat)(s:List UInt8)(w:World)(hR:RdF w g ⟨s,0⟩)(hn:(n:Int)<=9223372036854775807) :
  Calls Tryz.prog 109 #[.pointer (some ⟨g,0,none⟩),.int .i64 n] w (Oj g (Ff n ⟨s,0⟩).2 (.string (bs (Ff n ⟨s,0⟩).1)) w):=by
 obtain⟨S,a,hB,ha,hS,h0,-⟩:=hR;have h0:=h0 rfl;simp only at h0
 subst h0;have hc:=hB.cell;have hf:=hB.frozen;have hsz:=Au S;have hw1:IntKind.i64.wrap ((S.length:Int) - (a:Int))=(S.length:Int) - a:=IntWalk.i64_in _ (by omega);have HB:=Zh hB;have hp:=Qa n;clear hB;go_enter Tryz.func109,Tryz.ntmps109
 go_wp2
 go_loop [5] (fun v=>∃m:Nat,v=.int .i64 m/\n<=m/\m+D7 m=n+D7 n/\(m=n\/m<=S.length+1)) (fun v=>D7 (intOf v).toNat)
 case atStart=>exact⟨n,rfl,Nat.le_refl _,rfl,.inl rfl⟩
 case round=>
  obtain⟨m,rfl,hnm,hmp,hmS⟩:=hrel;by_cases hc4:m % 4≠0/\m<=S.length
  ·obtain⟨h4,hmL⟩:=hc4
   have ht1:((m:Int) % 4 != 0)=true:=by rw[bne_iff_ne];omega
   have hst:=Akg h4;clear h4;go_wp2;go_round
   case rel=>exact⟨m+1,by go_num,by omega,by omega,.inr (by omega)⟩
   case measure=>simp[intOf];omega
  ·have hall:m=n+D7 n\/S.length<m:=by
    by_cases h4:m % 4=0
    ·left;have:=Akf h4;omega
    ·right;omega
   by_cases hsh:S.length - a<n+D7 n
   ·have HN:=Zh (Aca (n:=n) (s:=S.drop a) (by rw[List.length_drop];omega))
    have hfin:∀W:World,RdF ((W.drewN 0).setCell ⟨g,2,none⟩ (.int .i64 10)) g (Rs.fail 10)->True:=fun _ _=>trivial
    clear hfin;have hcond:(((m:Int) % 4 != 0)=false)\/(((m:Int) % 4 != 0)=true/\¬((m:Int)<=(S.length:Int))):=by
     by_cases h4:m % 4=0
     ·left;simp;omega
     ·right;exact⟨by rw[bne_iff_ne];omega,by omega⟩
    have hm1:(S.length:Int) - a<m:=by rcases hall with h|h<;>omega
    by_cases hn1:(S.length:Int) - a<n
    ·rcases hcond with h4|⟨h4,h5⟩
     all_goals
      go_wp2;go_quiet (fail)
      go_wp2;go_ret;rw[HN.out];exact⟨rfl,⟨S,a,(HB.out.drewN _).Be 2 (.int .i64 10),ha,by assumption,(fun h=>by cases h),fun _=>rfl⟩,((Touch.refl (fun k=>k=g) w).drewN _).An (g:=g) (o:=2) (.inl rfl) (.int .i64 10)⟩
    ·have hd1:decide ((S.length:Int) - a<n)=false:=decide_eq_false hn1
     rcases hcond with h4|⟨h4,h5⟩
     all_goals
      go_wp2;go_quiet (fail)
      go_wp2;go_ret;rw[HN.out];exact⟨rfl,⟨S,a,(HB.out.drewN _).Be 2 (.int .i64 10),ha,by assumption,(fun h=>by cases h),fun _=>rfl⟩,((Touch.refl (fun k=>k=g) w).drewN _).An (g:=g) (o:=2) (.inl rfl) (.int .i64 10)⟩
   ·obtain rfl:m=n+D7 n:=by omega
    have HN:=Zh (Adw (n:=n) (s:=S.drop a) (by rw[List.length_drop];omega));have h4:((((n:Int)+(D7 n:Int)) % 4) != 0)=false:=by
     have:(n+D7 n) % 4=0:=by unfold D7;omega
     simp;omega
    have hn1:decide ((S.length:Int) - a<n)=false:=decide_eq_false (by omega);have hn2:decide ((S.length:Int) - a<(n:Int)+(D7 n:Int))=false:=decide_eq_false (by omega);have hpl:a+n+D7 n<=S.length:=by omega
    have HZ:=Zh (show Ff n ⟨S.drop a,0⟩=if ((S.drop (a+n)).take (D7 n)).all (·==0)=true then ((S.drop a).take n,⟨S.drop (a+n+D7 n),0⟩) else ([],Rs.fail 11) by
     rw[HN.out,List.drop_drop,List.drop_drop,Nat.add_assoc a])
    clear HN hmp hmS hall hc4 hsh hnm;go_wp2;go_quiet (fail)
    go_wp2;have HB2:=Zh (HB.out.drewN nq);have hT2:Touch (fun k=>k=g) w (w.drewN nq):=(Touch.refl (fun k=>k=g) w).drewN _;generalize w.drewN nq=w2 at *;clear hc hf HB hw1 hn1 hn2 h4
    go_loopw [6] (fun v wr=>∃j:Nat,v=.int .i64 ((n+j:Nat):Int)/\j<=D7 n/\((S.drop (a+n)).take j).all (·==0)=true/\Blk wr g 131 [.string (bs S),.int .i64 a,.int .i64 0]/\Touch (fun k=>k=g) w wr) (fun v _=>n+D7 n - (intOf v).toNat)
    case atStart=>exact⟨0,rfl,Nat.zero_le _,rfl,HB2.out,hT2⟩
    case round=>
     obtain⟨j,rfl,hj,hz,hB3,hT3⟩:=hrel;have hc:=hB3.cell;have hf:=hB3.frozen;clear hT2;by_cases hlt:j<D7 n
     ·have hjl:j<(S.drop (a+n)).length:=by rw[List.length_drop];omega
      have hlS:a+(n+j)<S.length:=by omega
      have hget:(S.drop (a+n))[j]=S[a+(n+j)]:=by rw[List.getElem_drop];congr 1;omega
      have hw2:IntKind.i64.wrap ((a:Int)+((n+j:Nat):Int))=((a+(n+j):Nat):Int):=by rw[IntWalk.i64_in _ (by omega)];omega
      have hw3:IntKind.i64.wrap ((a:Int)+((n:Int)+(j:Int)))=(a:Int)+((n:Int)+(j:Int)):=by rw[IntWalk.i64_in _ (by omega)]
      have hi0:(0:Int)<=(a:Int)+((n:Int)+(j:Int)):=by omega
      have hi1:(a:Int)+((n:Int)+(j:Int))<(S.length:Int):=by omega
      have hi2:((a:Int)+((n:Int)+(j:Int))).toNat=a+(n+j):=by omega
      have hbb:=S[a+(n+j)].toNat_lt;by_cases h0:S[a+(n+j)]=0
      ·have ht:((S[a+(n+j)].toNat:Int) != 0)=false:=by rw[h0];rfl
       have HS:=Zh (Af8 hjl hz (by rw[hget];exact h0));have HB3:=Zh hB3;have HT3:=Zh hT3;clear h0 hget hz hB3 hT3;go_wp2;go_quiet (fail)
       go_wp2;go_roundw
       case rel=>exact⟨j+1,by go_num,by omega,HS.out,HB3.out.drewN _,HT3.out.drewN _⟩
       case measure=>simp[intOf];omega
      ·have ht:((S[a+(n+j)].toNat:Int) != 0)=true:=by
        rw[bne_iff_ne];intro e;apply h0;apply UInt8.toNat_inj.1;simpa using e
       have HS:=Zh (HZ.out.trans (if_neg (Ajc hjl hlt (by rw[hget];exact h0))));have HB3:=Zh hB3;have HT3:=Zh hT3;clear h0 hget hz hB3 hT3;go_wp2;go_quiet (fail)
       go_wp2;go_ret;rw[HS.out];exact⟨rfl,⟨S,a,(HB3.out.drewN _).Be 2 (.int .i64 11),ha,by assumption,(fun h=>by cases h),fun _=>rfl⟩,(HT3.out.drewN _).An (g:=g) (o:=2) (.inl rfl) (.int .i64 11)⟩
     ·obtain rfl:j=D7 n:=by omega
      have HS:=Zh (HZ.out.trans (if_pos hz));have HB3:=Zh hB3;have HT3:=Zh hT3;have hw2:IntKind.i64.wrap ((a:Int)+(n:Int))=((a+n:Nat):Int):=by rw[IntWalk.i64_in _ (by omega)];omega
      have hi0:(0:Int)<=((a+n:Nat):Int):=by omega
      have hi1:((a+n:Nat):Int)<=(S.length:Int):=by omega
      have hi2:(a:Int)<=((a+n:Nat):Int):=by omega
      have hi3:(0:Int)<=(a:Int):=by omega
      clear hz hB3 hT3 HZ;have hsum:(a:Int)+((n:Int)+(D7 n:Int))=((a+n+D7 n:Nat):Int):=by omega
      have HSUM:=Zh hsum;have hw4:IntKind.i64.wrap ((a:Int)+((n:Int)+(D7 n:Int)))=(a:Int)+((n:Int)+(D7 n:Int)):=by rw[IntWalk.i64_in _ (by omega)]
      clear hsum;go_wp2;go_quiet (fail)
      go_wp2;go_ret;rw[HS.out];refine⟨?_,⟨S,a+n+D7 n,?_,hpl,by assumption,fun _=>rfl,fun h=>absurd rfl h⟩,?_⟩
      ·show Ending.returned (.string ((bs S).extract a (a+n)))=_
       rw[Ase]
      ·have h:=(HB3.out.drewN nq).Be 1 (.int .i64 ((a:Int)+((n:Int)+(D7 n:Int))))
       simp only[List.set_cons_zero,List.set_cons_succ]at h;rw[HSUM.out]at h ⊢;exact h
      ·exact(HT3.out.drewN nq).An (g:=g) (o:=1) (.inl rfl) _
theorem Ab7 (g:Nat)(n:Int)(r:Rs)(w:World)(hR:RdF w g r)(hn:n<=9223372036854775807) :
  Calls Tryz.prog 109 #[.pointer (some ⟨g,0,none⟩),.int .i64 n] w (Oj g (Ff n r).2 (.string (bs (Ff n r).1)) w):=by
 have hc:=A6.err hR;by_cases he:r.e=0
 ·by_cases hn0:n<0
  ·have HF:=Zh (show Ff n r=([],Rs.fail 2) by simp[Ff,he,hn0])
   have HQ:=Zh (RdF.fail (A6.refl hR) 2 (by decide) (r':=Rs.fail 2) rfl);have hf:w.frozen? ⟨g,2,none⟩=false:=by obtain⟨_,_,h,_⟩:=hR;exact h.frozen 2
   rw[he]at hc;clear he hR;go_enter Tryz.func109,Tryz.ntmps109
   go_wp2;go_ret;rw[HF.out];exact⟨rfl,HQ.out⟩
  ·obtain⟨m,rfl⟩:=Int.eq_ofNat_of_zero_le (show 0<=n by omega)
   obtain⟨s,e⟩:=r;simp only at he
   subst he;exact Ab6 g m s w hR hn
 ·have he2:(r.e != 0)=true:=by simpa using he
  have HF:=Zh (show Ff n r=([],r) by simp[Ff,he]);have HR:=Zh hR;clear he hR;go_enter Tryz.func109,Tryz.ntmps109
  go_wp2;go_ret;rw[HF.out];exact⟨rfl,A6.refl HR.out⟩
theorem El (g:Nat)(most:Int)(r:Rs)(w:World)(hR:RdF w g r)(_hl:r.s.length<=9223372036854775807) :
  Calls Tryz.prog 54 #[.pointer (some ⟨g,0,none⟩),.int .i64 most] w (Oj g (Ao most r).2 (.string (bs (Ao most r).1)) w):=by
 have hu:=Dv g r w hR;have hlt:(Am r).1<4294967296:=by
  unfold Am F3;split
  ·simp
  ·split
   ·simp
   ·have:=Py (r.s.take 4)
    simp only
    have h2:(r.s.take 4).length<=4:=List.length_take_le _ _;have h3:=Nat.pow_le_pow_right (n:=256) (by omega) h2;omega
 have HO:=Zh (show Ao most r=if (Am r).2.e≠0 then ([],(Am r).2) else if most<((Am r).1:Int) then ([],Rs.fail 4) else En (Am r).1 (Am r).2 from rfl);generalize Am r=x at *;obtain⟨m,r2⟩:=x;simp only at HO hu hlt
 have HU:=Zh hu;clear hu hR;go_enter Tryz.func54,Tryz.ntmps54
 go_wp2_with fail;refine HU.out.mono ?_
 rintro e w1 ⟨rfl,hQ1⟩;have hc:=A6.err hQ1.1;have HQ1:=Zh hQ1;have hf:w1.frozen? ⟨g,2,none⟩=false:=by obtain⟨_,_,h,_⟩:=hQ1.1;exact h.frozen 2
 clear hQ1 HU;by_cases he:r2.e=0
 ·rw[he]at hc
  by_cases hm:most<(m:Int)
  ·have HF:=Zh (show Ao most r=([],Rs.fail 4) by rw[HO.out,if_neg (by simpa using he),if_pos hm])
   have HQ:=Zh (RdF.fail HQ1.out 4 (by decide) (r':=Rs.fail 4) rfl);clear he;go_wp2;go_ret;rw[HF.out];exact⟨rfl,HQ.out⟩
  ·have HF:=Zh (show Ao most r=Ff m r2 by
    rw[HO.out,if_neg (by simpa using he),if_neg hm];unfold Ff;rw[if_neg (by simpa using he),if_neg (by omega)];rfl)
   clear he;go_wp2_with fail;refine(Ab7 g m r2 _ HQ1.out.1 (by omega)).mono ?_
   rintro e w3 ⟨rfl,hQ⟩;have HQ:=Zh (HQ1.out.trans hQ);clear hQ;go_wp2;go_ret;rw[HF.out];exact⟨rfl,HQ.out⟩
 ·have he2:(r2.e != 0)=true:=by simpa using he
  have HF:=Zh (show Ao most r=([],r2) by rw[HO.out,if_pos he]);clear he;go_wp2;go_ret;rw[HF.out];exact⟨rfl,HQ1.out⟩
theorem Ra (g:Nat)(r:Rs)(w:World)(hR:RdF w g r):Calls Tryz.prog 58 #[.pointer (some ⟨g,0,none⟩)] w fun e w'=>e=.returned (.int .i64 (J9 r))/\Below w.heap.size w w':=by
 obtain⟨S,a,hB,ha,hS,h0,h1⟩:=hR;have hc:=hB.cell;have hsz:=Au S;have hw1:IntKind.i64.wrap ((S.length:Int) - (a:Int))=(S.length:Int) - a:=IntWalk.i64_in _ (by omega);by_cases he:r.e=0
 ·have HF:=Zh (show (J9 r:Int)=(S.length:Int) - a by simp[J9,he,h0 he];omega)
  rw[he]at hc;clear he hB h0 h1;go_enter Tryz.func58,Tryz.ntmps58
  go_wp2;go_quiet (fail)
  go_wp2;go_ret;rw[HF.out];exact⟨rfl,bdN (Below.refl _ _) _⟩
 ·have he2:(r.e != 0)=true:=by simpa using he
  have HF:=Zh (show J9 r=0 by simp[J9,he]);clear he hB h0 h1;go_enter Tryz.func58,Tryz.ntmps58
  go_wp2;go_ret;rw[HF.out];exact⟨rfl,Below.refl _ _⟩
end
end Go.Proofs.YtfjflkmhhbhceaaGreatDoor
