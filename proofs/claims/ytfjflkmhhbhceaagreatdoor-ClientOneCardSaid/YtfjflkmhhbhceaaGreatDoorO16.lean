/-
  Layer 7, walks: the document's Bytes (written by wip/tools/genbytes7.py). Conditions: the call may be; its numbers are machine numbers.
-/
import Derived.Test.YtfjflkmhhbhceaaGreatDoorO13
import Derived.Test.YtfjflkmhhbhceaaGreatDoorO12
import Derived.Test.YtfjflkmhhbhceaaGreatDoorO11
set_option maxRecDepth 20000
set_option maxHeartbeats 40000000
namespace Go.Proofs.YtfjflkmhhbhceaaGreatDoor
open Go.RowKit
attribute [local go_sem ↓] Go.wp_at_zero Go.wp_at_succ
attribute [local go_sem] Ai Ag Af Ab Aj
attribute [local go_sem] Call.at0 Call.Bo Call.at1 Call.Bk Call.at2 Call.Ca Call.at3 Call.Cg Call.at4 Call.Cx Call.at5 Call.Cw Call.at6 Call.Cv Call.at7 Call.Cu Call.at8 Call.Ct Call.at9 Call.Cs Call.Ee Call.C4 Call.Fm Call.Dm Call.Fl Call.Dl Call.Ia Call.Ep Call.H9 Call.Eo Call.Lx Call.Hg Call.Lw Call.Hf Call.Lv Call.He Call.Lu Call.Hd Call.Lt Call.Hc Call.Ls Call.Ha Call.Lr Call.G9 Call.Lq Call.G8 Call.Lp Call.G7 Call.Gy Call.Fj Call.Gv Call.Fg Call.Jn Call.Gz Call.Gx Call.Fi Call.Gw Call.Fh Call.F9 Call.Et Call.F8 Call.Es Call.F7 Call.Er Call.len Ac.at0 Ac.Bo Ac.at1 Ac.Bk Ac.at2 Ac.Ca Ac.at3 Ac.Cg Ac.at4 Ac.Cx Ac.at5 Ac.Cw Ac.at6 Ac.Cv Ac.at7 Ac.Cu Ac.at8 Ac.Ct Ac.at9 Ac.Cs Ac.Cl Ac.B4 Ac.Ch Ac.Br Ac.Gn Ac.E1 Ac.Gm Ac.E0 Ac.Gl Ac.Ez Ac.Gk Ac.Ey Ac.len Opt.at0 Opt.Bo Opt.at1 Opt.Bk Opt.Ch Opt.Br Opt.len
section
attribute [local go_sem ↓] Io Hz
theorem Z5 (x:Call)(w:World)(hma:E2 x (Al x.proc)=true)(hgo:x.offset<=9223372036854775807)(hgk:x.cookie<=9223372036854775807)(hgv:x.verf<=9223372036854775807)(hgs:x.set.C9)(hgg:x.guard.n<=9223372036854775807) :
  Calls Tryz.prog 92 #[.agg x.vals.toArray] w fun e w'=>e=.returned (.string (bs (M0 x (Al x.proc) (Al x.proc).length)))/\Below w.heap.size w w':=by
 have hb:=Blk.new w 36 x.vals;have hB:Below w.heap.size w (w.alloc (.cells x.vals.toArray 36)):=(Below.refl _ _).alloc (Nat.le_refl _) _;have hc:=hb.cell;go_enter Tryz.func92,Tryz.ntmps92
 go_wp2_with fail;refine(Jp x.proc _).mono ?_
 rintro e w1 ⟨rfl,hb1⟩;have hX:=hb.stays hb1;have HB1:=Zh (Ad hB hb1);have hcx:=hX.cell;have rs:rowOf w1 w.heap.size 9 10=some x.set.vals.toArray:=hX.row 9 10 (by simp[Call.len]);have rg:rowOf w1 w.heap.size 19 2=some x.guard.vals.toArray:=hX.row 19 2 (by simp[Call.len]);have hlt:=hX.lt;have hlet:=fun k (hk:k<(Al x.proc).length)=>Hj x.proc hk
 have hlen:=Sd x (Al x.proc) hma hlet;have hsh:=Ma x.proc;clear hb hB hc hb1 hX;obtain⟨l,hlf⟩:∃l,l=Al x.proc:=⟨_,rfl⟩;rw[<-hlf]at hma hlet hlen hsh ⊢;have HLF:=Zh hlf;clear hlf;have hsz:=Au l;go_wp2
 go_loopw [4,5] (fun sv iv wr=>∃k:Nat,k<=l.length/\sv=.string (bs (M0 x l k))/\iv=.int .i64 k/\Stb w1 wr) (fun _ iv _=>l.length - (intOf iv).toNat)
 case atStart=>exact⟨0,Nat.zero_le _,rfl,rfl,Stb.of (Below.refl _ _)⟩
 case round=>
  obtain⟨k,hk,rfl,rfl,hst⟩:=hrel;by_cases hlt2:k<l.length
  ·have hS:=Tv x l k hlt2
   have hm:C0 x l[k].toNat=true:=by
    rw[E2,List.all_eq_true]at hma;exact hma _ (List.getElem_mem hlt2)
   have hq:((bs l)[k]'(by rw[hsz];exact hlt2)).toNat=l[k].toNat:=rfl;have hl1:=hlen k (Nat.le_of_lt hlt2);have hz1:=Au (M0 x l k);have hz2:=Au (Ci x l[k].toNat);have hl2:=Zj x l[k].toNat hm (hlet k hlt2);have hx:=hlet k hlt2;generalize l[k].toNat=c at *;have HS:=Zh hS;have hl3:600*k<=3000:=by omega
   clear hS hlen hlet hma;generalize M0 x l k=m at *;rcases hx with rfl|rfl|rfl|rfl|rfl|rfl|rfl|rfl|rfl|rfl|rfl|rfl|rfl
   ·have hb3:Ci x 102=opq x.fh:=rfl
    have hml:x.fh.length<=1000000000:=by simp[C0]at hm;omega
    rw[hb3]at hz2 hl2 HS;clear hm hb3;go_wp2_with fail;refine(E6 x.fh _ hml).mono ?_
    rintro e w2 ⟨rfl,hb2⟩;have hst2:=Zh (hst.call hb2);clear hst hb2;go_wp2;go_roundw
    case rel=>exact⟨k+1,by omega,by rw[HS.out,Bl],by go_num,hst2.out⟩
    case measure=>simp[intOf];omega
   ·have hb3:Ci x 70=opq x.fh2:=rfl
    have hml:x.fh2.length<=1000000000:=by simp[C0]at hm;omega
    rw[hb3]at hz2 hl2 HS;clear hm hb3;go_wp2_with fail;refine(E6 x.fh2 _ hml).mono ?_
    rintro e w2 ⟨rfl,hb2⟩;have hst2:=Zh (hst.call hb2);clear hst hb2;go_wp2;go_roundw
    case rel=>exact⟨k+1,by omega,by rw[HS.out,Bl],by go_num,hst2.out⟩
    case measure=>simp[intOf];omega
   ·have hb3:Ci x 110=opq x.name:=rfl
    have hml:x.name.length<=1000000000:=by simp[C0]at hm;omega
    rw[hb3]at hz2 hl2 HS;clear hm hb3;go_wp2_with fail;refine(E6 x.name _ hml).mono ?_
    rintro e w2 ⟨rfl,hb2⟩;have hst2:=Zh (hst.call hb2);clear hst hb2;go_wp2;go_roundw
    case rel=>exact⟨k+1,by omega,by rw[HS.out,Bl],by go_num,hst2.out⟩
    case measure=>simp[intOf];omega
   ·have hb3:Ci x 78=opq x.name2:=rfl
    have hml:x.name2.length<=1000000000:=by simp[C0]at hm;omega
    rw[hb3]at hz2 hl2 HS;clear hm hb3;go_wp2_with fail;refine(E6 x.name2 _ hml).mono ?_
    rintro e w2 ⟨rfl,hb2⟩;have hst2:=Zh (hst.call hb2);clear hst hb2;go_wp2;go_roundw
    case rel=>exact⟨k+1,by omega,by rw[HS.out,Bl],by go_num,hst2.out⟩
    case measure=>simp[intOf];omega
   ·have hb3:Ci x 116=opq x.text:=rfl
    have hml:x.text.length<=1000000000:=by simp[C0]at hm;omega
    rw[hb3]at hz2 hl2 HS;clear hm hb3;go_wp2_with fail;refine(E6 x.text _ hml).mono ?_
    rintro e w2 ⟨rfl,hb2⟩;have hst2:=Zh (hst.call hb2);clear hst hb2;go_wp2;go_roundw
    case rel=>exact⟨k+1,by omega,by rw[HS.out,Bl],by go_num,hst2.out⟩
    case measure=>simp[intOf];omega
   ·have hb3:Ci x 100=opq x.data:=rfl
    have hml:x.data.length<=1000000000:=by simp[C0]at hm;omega
    rw[hb3]at hz2 hl2 HS;clear hm hb3;go_wp2_with fail;refine(E6 x.data _ hml).mono ?_
    rintro e w2 ⟨rfl,hb2⟩;have hst2:=Zh (hst.call hb2);clear hst hb2;go_wp2;go_roundw
    case rel=>exact⟨k+1,by omega,by rw[HS.out,Bl],by go_num,hst2.out⟩
    case measure=>simp[intOf];omega
   ·have hb3:Ci x 111=num x.offset.toNat 8:=rfl
    obtain⟨n,hn⟩:∃n:Nat,x.offset=n:=⟨x.offset.toNat,by simp[C0]at hm;omega⟩;rw[hn,Int.toNat_natCast]at hb3;have hn2:(n:Int)<=9223372036854775807:=by simp[C0]at hm;omega
    rw[hb3]at hz2 hl2 HS;clear hm hb3;go_wp2_with fail;refine(Bs n 8 _ hn2 (by decide)).mono ?_
    rintro e w2 ⟨rfl,hb2⟩;have hst2:=Zh (hst.call hb2);clear hst hb2;go_wp2;go_roundw
    case rel=>exact⟨k+1,by omega,by rw[HS.out,Bl],by go_num,hst2.out⟩
    case measure=>simp[intOf];omega
   ·have hb3:Ci x 107=num x.cookie.toNat 8:=rfl
    obtain⟨n,hn⟩:∃n:Nat,x.cookie=n:=⟨x.cookie.toNat,by simp[C0]at hm;omega⟩;rw[hn,Int.toNat_natCast]at hb3;have hn2:(n:Int)<=9223372036854775807:=by simp[C0]at hm;omega
    rw[hb3]at hz2 hl2 HS;clear hm hb3;go_wp2_with fail;refine(Bs n 8 _ hn2 (by decide)).mono ?_
    rintro e w2 ⟨rfl,hb2⟩;have hst2:=Zh (hst.call hb2);clear hst hb2;go_wp2;go_roundw
    case rel=>exact⟨k+1,by omega,by rw[HS.out,Bl],by go_num,hst2.out⟩
    case measure=>simp[intOf];omega
   ·have hb3:Ci x 118=num x.verf.toNat 8:=rfl
    obtain⟨n,hn⟩:∃n:Nat,x.verf=n:=⟨x.verf.toNat,by simp[C0]at hm;omega⟩;rw[hn,Int.toNat_natCast]at hb3;have hn2:(n:Int)<=9223372036854775807:=by simp[C0]at hm;omega
    rw[hb3]at hz2 hl2 HS;clear hm hb3;go_wp2_with fail;refine(Bs n 8 _ hn2 (by decide)).mono ?_
    rintro e w2 ⟨rfl,hb2⟩;have hst2:=Zh (hst.call hb2);clear hst hb2;go_wp2;go_roundw
    case rel=>exact⟨k+1,by omega,by rw[HS.out,Bl],by go_num,hst2.out⟩
    case measure=>simp[intOf];omega
   ·have hb3:Ci x 99=num x.count.toNat 4:=rfl
    obtain⟨n,hn⟩:∃n:Nat,x.count=n:=⟨x.count.toNat,by simp[C0]at hm;omega⟩;rw[hn,Int.toNat_natCast]at hb3;have hn2:(n:Int)<=9223372036854775807:=by simp[C0]at hm;omega
    rw[hb3]at hz2 hl2 HS;clear hm hb3;go_wp2_with fail;refine(Bs n 4 _ hn2 (by decide)).mono ?_
    rintro e w2 ⟨rfl,hb2⟩;have hst2:=Zh (hst.call hb2);clear hst hb2;go_wp2;go_roundw
    case rel=>exact⟨k+1,by omega,by rw[HS.out,Bl],by go_num,hst2.out⟩
    case measure=>simp[intOf];omega
   ·have hb3:Ci x 104=num x.how.toNat 4:=rfl
    obtain⟨n,hn⟩:∃n:Nat,x.how=n:=⟨x.how.toNat,by simp[C0]at hm;omega⟩;rw[hn,Int.toNat_natCast]at hb3;have hn2:(n:Int)<=9223372036854775807:=by simp[C0]at hm;omega
    rw[hb3]at hz2 hl2 HS;clear hm hb3;go_wp2_with fail;refine(Bs n 4 _ hn2 (by decide)).mono ?_
    rintro e w2 ⟨rfl,hb2⟩;have hst2:=Zh (hst.call hb2);clear hst hb2;go_wp2;go_roundw
    case rel=>exact⟨k+1,by omega,by rw[HS.out,Bl],by go_num,hst2.out⟩
    case measure=>simp[intOf];omega
   ·have hb3:Ci x 115=x.set.bytes:=rfl
    have hml:x.set.ok=true:=hm;rw[hb3]at hz2 hl2 HS;clear hm hb3;go_wp2_with fail;refine(Ab0 x.set _ hml hgs).mono ?_
    rintro e w2 ⟨rfl,hb2⟩;have hst2:=Zh (hst.call hb2);clear hst hb2;go_wp2;go_roundw
    case rel=>exact⟨k+1,by omega,by rw[HS.out,Bl],by go_num,hst2.out⟩
    case measure=>simp[intOf];omega
   ·have hb3:Ci x 103=x.guard.bytes:=rfl
    have hml:x.guard.is=true->0<=x.guard.n:=fun _=>by simp[C0]at hm;omega
    rw[hb3]at hz2 hl2 HS;clear hm hb3;go_wp2_with fail;refine(Q9 x.guard _ hml hgg).mono ?_
    rintro e w2 ⟨rfl,hb2⟩;have hst2:=Zh (hst.call hb2);clear hst hb2;go_wp2;go_roundw
    case rel=>exact⟨k+1,by omega,by rw[HS.out,Bl],by go_num,hst2.out⟩
    case measure=>simp[intOf];omega
  ·obtain rfl:k=l.length:=by omega
   have HBW:=Zh (Ad HB1.out hst.below);clear hlen hlet hma hst;go_wp2;go_ret;exact⟨by rw[<-HLF.out];rfl,HBW.out⟩
end
end Go.Proofs.YtfjflkmhhbhceaaGreatDoor
