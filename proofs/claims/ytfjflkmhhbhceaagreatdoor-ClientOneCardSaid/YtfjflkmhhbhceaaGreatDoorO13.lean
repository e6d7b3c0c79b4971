/-
  Layer 9, walks: a message's bytes. Conditions: a message that may be, of at most 2048 bytes.
-/
import Derived.Test.YtfjflkmhhbhceaaGreatDoorO07
import Derived.Test.YtfjflkmhhbhceaaGreatDoorO11
import Derived.Test.YtfjflkmhhbhceaaGreatDoorO02
import Derived.Outline
import Derived.Test.YtfjflkmhhbhceaaGreatDoorO12
import Derived.Test.YtfjflkmhhbhceaaGreatDoorO06
import Derived.Deep.Cut
import Derived.Test.YtfjflkmhhbhceaaGreatDoorO09
import Derived.Test.YtfjflkmhhbhceaaGreatDoorO10
set_option maxRecDepth 20000
set_option maxHeartbeats 40000000
namespace Go.Proofs.YtfjflkmhhbhceaaGreatDoor
open Go.RowKit
attribute [local go_sem ↓] Go.wp_at_zero Go.wp_at_succ
attribute [local go_sem] Ai Ag Af Ab Aj
attribute [local go_sem] Message.at0 Message.Bo Message.at1 Message.Bk Message.at2 Message.Ca Message.at3 Message.Cg Message.at4 Message.Cx Message.at5 Message.Cw Message.at6 Message.Cv Message.at7 Message.Cu Message.at8 Message.Ct Message.at9 Message.Cs Message.Cl Message.B4 Message.Np Message.Ky Message.len A8.at0 A8.Bo A8.at1 A8.Bk A8.at2 A8.Ca A8.at3 A8.Cg A8.O8 A8.L4 A8.len
section
attribute [local go_sem ↓] Za Xr N8 G6
def Jt (l:List Int):List Value:=l.map fun n=>.int .i64 n
theorem Pu {w:World}{h:Nat}{T:TypeId}{l:List Int}(hB:Blk w h T (Jt l)){k:Nat}(hk:k<l.length):w.cell? ⟨h,k,none⟩=some (.int .i64 l[k]):=by
 rw[hB.cell];simp[Jt,hk]
def Ank (l:List Int):Bool:=l.all fun n=>decide (0<=n) && decide (n<=4294967295)
theorem Ro {l:List Int}(h:Ank l=true){k:Nat}(hk:k<l.length):0<=l[k]/\l[k]<=4294967295:=by
 have:=List.all_eq_true.1 h l[k] (List.getElem_mem hk)
 simpa using this
theorem N5 {l:List Int}{k:Nat}(hk:k<l.length):Jl (l.take (k+1))=Jl (l.take k)++num (l[k]).toNat 4:=by
 unfold Jl;rw[Pn _ _ hk,List.flatMap_append];simp
theorem Ge (l:List Int):(Jl l).length=4*l.length:=by
 induction l with
 |nil=>rfl
 |cons n l ih=>unfold Jl at *;simp only[List.flatMap_cons,List.length_append,Ce,ih,List.length_cons];omega
theorem Aee {m:Message}(h:m.may=true):Ank m.Gi=true:=by
 obtain⟨xid,answer,again,proc,C3,accept,body⟩:=m;cases answer<;>cases again<;>first|(simp[Message.may,Rk,O7,A8.ok,Av]at h;done)|(simp[Message.may,Rk,O7,A8.ok,Av]at h;simp[Message.Gi,Ank];grind)
def Hi (w:World)(m:Message)(l:List Int):World:=
 ((w.alloc (.cells m.vals.toArray 81)).alloc (.cells #[.slice none 0 0] 195)).alloc (.cells (Jt l).toArray 3)
theorem Tu (w:World)(m:Message)(l:List Int):Wr (Hi w m l) (w.heap.size+1) (.slice none 0 0) []/\Blk (Hi w m l) (w.heap.size+1+1) 3 (Jt l)/\Blk (Hi w m l) w.heap.size 81 m.vals/\Below w.heap.size w (Hi w m l):=by
 have b0:=Blk.new w 81 m.vals;have B0:Below w.heap.size w (w.alloc (.cells m.vals.toArray 81)):=(Below.refl _ _).alloc (Nat.le_refl _) _;have e0:(w.alloc (.cells m.vals.toArray 81)).heap.size=w.heap.size+1:=by simp
 unfold Hi;generalize w.alloc (.cells m.vals.toArray 81)=w0 at *;have b1:=Wr.fresh w0;have B1:=B0.alloc B0.size (.cells #[.slice none 0 0] 195);have e1:(w0.alloc (.cells #[.slice none 0 0] 195)).heap.size=w.heap.size+1+1:=by simp[e0]
 have a1:=b0.alloc (.cells #[.slice none 0 0] 195);generalize w0.alloc (.cells #[.slice none 0 0] 195)=w1 at *;have b2:=Blk.new w1 3 (Jt l);have B2:=B1.alloc B1.size (.cells (Jt l).toArray 3);rw[e1]at b2;rw[e0]at b1;exact⟨b1.alloc _,b2,a1.alloc _,B2⟩
theorem Zd (w:World)(m:Message)(l l':List Int):Wr ((Hi w m l).alloc (.cells (Jt l').toArray 3)) (w.heap.size+1) (.slice none 0 0) []/\Blk ((Hi w m l).alloc (.cells (Jt l').toArray 3)) (w.heap.size+1+1+1) 3 (Jt l') /\
  Blk ((Hi w m l).alloc (.cells (Jt l').toArray 3)) w.heap.size 81 m.vals/\Below w.heap.size w ((Hi w m l).alloc (.cells (Jt l').toArray 3)):=by
 obtain⟨a,_,c,d⟩:=Tu w m l;have e:(Hi w m l).heap.size=w.heap.size+1+1+1:=by simp[Hi]
 have b:=Blk.new (Hi w m l) 3 (Jt l');rw[e]at b;exact⟨a.alloc _,b,c.alloc _,d.alloc d.size _⟩
theorem Abd (m:Message)(w:World)(hm:m.may=true)(hl:m.body.length<=2048):Calls Tryz.prog 129 #[.agg m.vals.toArray] w fun e w'=>e=.returned (.string (bs m.bytes))/\Below w.heap.size w w':=by
 have H32:=Zh (Aee hm);have HM:=Zh hm;clear hm;cases ha:m.answer
 ·have HN:=Zh (show m.Gi=[m.xid,0,2,100003,3,m.proc,1,16,m.C3.client,m.C3.seq,m.C3.uid,m.C3.gid,0,0] by simp[Message.Gi,ha])
  have HLen:=Zh (show m.Gi.length=14 by simp[Message.Gi,ha]);cases hg:m.again
  ·have HW:=Zh (Zd w m [m.xid,1,0,0,0,m.accept] m.Gi)
   rw[HN.out]at HW;go_enter Tryz.func129,Tryz.ntmps129
   go_wp2;change Code.wp _ _ _ _ ((Hi w m [m.xid,1,0,0,0,m.accept]).alloc (.cells (Jt [m.xid,0,2,100003,3,m.proc,1,16,m.C3.client,m.C3.seq,m.C3.uid,m.C3.gid,0,0]).toArray 3));rw[<-HN.out]at HW ⊢;generalize ((Hi w m [m.xid,1,0,0,0,m.accept]).alloc (.cells (Jt m.Gi).toArray 3))=W0 at *;clear HN;generalize hl6:m.Gi=l at *;have HL:=Zh hl6;clear hl6
   go_loopw [40] (fun i wr=>∃(k:Nat) (sv':Value),k<=14/\i=.int .i64 k/\Fe (w.heap.size+1) (.slice none 0 0) sv' (Jl (l.take k)) W0 wr/\Blk wr (w.heap.size+1+1+1) 3 (Jt l)/\Blk wr w.heap.size 81 m.vals) (fun i _=>14 - (intOf i).toNat)
   case atStart=>exact⟨0,_,by omega,rfl,⟨HW.out.1,fun _ h=>.inl h,Touch.refl _ _⟩,HW.out.2.1,HW.out.2.2.1⟩
   case round=>
    obtain⟨k,sv',hk,rfl,⟨hW3,hr3,hT3⟩,hI3,hM3⟩:=hrel;have HR3:=Zh hr3;have HT3:=Zh hT3;clear hr3 hT3;by_cases hlt:k<14
    ·have hkl:k<l.length:=by rw[HLen.out];exact hlt
     have hc:=Pu hI3 hkl;have h32:=Ro H32.out hkl;have HS:=Zh (N5 hkl);have hnl:=Ge (l.take k);have htl:(l.take k).length<=k:=List.length_take_le _ _;obtain⟨n,hn⟩:=Int.eq_ofNat_of_zero_le h32.1;rw[hn]at hc h32;have HNN:=Zh hn;clear hn;go_wp2_with fail;refine(Is _ sv' _ n _ hW3 (by omega) (by omega)).mono ?_
     rintro e w4 ⟨rfl,sv4,hM4⟩;have hI4:=hW3.keeps hI3 (by decide) (by decide) hM4.2.2;have hMs4:=hW3.keeps hM3 (by decide) (by decide) hM4.2.2;have HM4:=Zh (Fe.next HR3.out HT3.out hM4);clear hM4 hI3 hM3 hc hW3 hnl;go_wp2;go_roundw
     case rel=>exact⟨k+1,sv4,by omega,by go_num,by rw[HS.out,HNN.out];exact HM4.out,hI4,hMs4⟩
     case measure=>simp[intOf];omega
    ·obtain rfl:k=14:=by omega
     have hnl:=Ge (l.take 14);have htl:(l.take 14).length<=14:=List.length_take_le _ _;have hMc:=hM3.cell;have hsz:=Au m.body;have hlt:=hM3.lt;go_wp2_with fail;refine(Nn _ sv' _ m.body _ hW3 (by omega) (by omega)).mono ?_
     rintro e w5 ⟨rfl,sv5,hM5⟩;have HM5:=Zh (Fe.next HR3.out HT3.out hM5);clear hM5 hI3 hM3 hMc hW3;go_wp2_with fail;refine(Ld _ sv5 _ _ HM5.out.1).mono ?_
     rintro e w6 ⟨rfl,rfl⟩;go_wp2;go_ret;refine⟨D9 (by unfold Message.bytes;rw[HL.out,List.take_of_length_le (by rw[HLen.out];omega)]),HW.out.2.2.2.trans (Kl.below (B:=w.heap.size) ⟨sv5,HM5.out⟩ (by omega) (by simp[Value.ownBlock]) HW.out.2.2.2.size)⟩
  ·have HW:=Zh (Zd w m [m.xid,1,0,1,0,m.accept] m.Gi)
   rw[HN.out]at HW;go_enter Tryz.func129,Tryz.ntmps129
   go_wp2;change Code.wp _ _ _ _ ((Hi w m [m.xid,1,0,1,0,m.accept]).alloc (.cells (Jt [m.xid,0,2,100003,3,m.proc,1,16,m.C3.client,m.C3.seq,m.C3.uid,m.C3.gid,0,0]).toArray 3));rw[<-HN.out]at HW ⊢;generalize ((Hi w m [m.xid,1,0,1,0,m.accept]).alloc (.cells (Jt m.Gi).toArray 3))=W0 at *;clear HN;generalize hl6:m.Gi=l at *;have HL:=Zh hl6;clear hl6
   go_loopw [40] (fun i wr=>∃(k:Nat) (sv':Value),k<=14/\i=.int .i64 k/\Fe (w.heap.size+1) (.slice none 0 0) sv' (Jl (l.take k)) W0 wr/\Blk wr (w.heap.size+1+1+1) 3 (Jt l)/\Blk wr w.heap.size 81 m.vals) (fun i _=>14 - (intOf i).toNat)
   case atStart=>exact⟨0,_,by omega,rfl,⟨HW.out.1,fun _ h=>.inl h,Touch.refl _ _⟩,HW.out.2.1,HW.out.2.2.1⟩
   case round=>
    obtain⟨k,sv',hk,rfl,⟨hW3,hr3,hT3⟩,hI3,hM3⟩:=hrel;have HR3:=Zh hr3;have HT3:=Zh hT3;clear hr3 hT3;by_cases hlt:k<14
    ·have hkl:k<l.length:=by rw[HLen.out];exact hlt
     have hc:=Pu hI3 hkl;have h32:=Ro H32.out hkl;have HS:=Zh (N5 hkl);have hnl:=Ge (l.take k);have htl:(l.take k).length<=k:=List.length_take_le _ _;obtain⟨n,hn⟩:=Int.eq_ofNat_of_zero_le h32.1;rw[hn]at hc h32;have HNN:=Zh hn;clear hn;go_wp2_with fail;refine(Is _ sv' _ n _ hW3 (by omega) (by omega)).mono ?_
     rintro e w4 ⟨rfl,sv4,hM4⟩;have hI4:=hW3.keeps hI3 (by decide) (by decide) hM4.2.2;have hMs4:=hW3.keeps hM3 (by decide) (by decide) hM4.2.2;have HM4:=Zh (Fe.next HR3.out HT3.out hM4);clear hM4 hI3 hM3 hc hW3 hnl;go_wp2;go_roundw
     case rel=>exact⟨k+1,sv4,by omega,by go_num,by rw[HS.out,HNN.out];exact HM4.out,hI4,hMs4⟩
     case measure=>simp[intOf];omega
    ·obtain rfl:k=14:=by omega
     have hnl:=Ge (l.take 14);have htl:(l.take 14).length<=14:=List.length_take_le _ _;have hMc:=hM3.cell;have hsz:=Au m.body;have hlt:=hM3.lt;go_wp2_with fail;refine(Nn _ sv' _ m.body _ hW3 (by omega) (by omega)).mono ?_
     rintro e w5 ⟨rfl,sv5,hM5⟩;have HM5:=Zh (Fe.next HR3.out HT3.out hM5);clear hM5 hI3 hM3 hMc hW3;go_wp2_with fail;refine(Ld _ sv5 _ _ HM5.out.1).mono ?_
     rintro e w6 ⟨rfl,rfl⟩;go_wp2;go_ret;refine⟨D9 (by unfold Message.bytes;rw[HL.out,List.take_of_length_le (by rw[HLen.out];omega)]),HW.out.2.2.2.trans (Kl.below (B:=w.heap.size) ⟨sv5,HM5.out⟩ (by omega) (by simp[Value.ownBlock]) HW.out.2.2.2.size)⟩
 ·cases hg:m.again
  ·have HN:=Zh (show m.Gi=[m.xid,1,0,0,0,m.accept] by simp[Message.Gi,ha,hg])
   have HLen:=Zh (show m.Gi.length=6 by simp[Message.Gi,ha]);have HW:=Zh (Tu w m m.Gi);rw[HN.out]at HW;go_enter Tryz.func129,Tryz.ntmps129
   go_wp2;change Code.wp _ _ _ _ (Hi w m [m.xid,1,0,0,0,m.accept]);rw[<-HN.out]at HW ⊢;generalize Hi w m m.Gi=W0 at *;clear HN;generalize hl6:m.Gi=l at *;have HL:=Zh hl6;clear hl6
   go_loopw [40] (fun i wr=>∃(k:Nat) (sv':Value),k<=6/\i=.int .i64 k/\Fe (w.heap.size+1) (.slice none 0 0) sv' (Jl (l.take k)) W0 wr/\Blk wr (w.heap.size+1+1) 3 (Jt l)/\Blk wr w.heap.size 81 m.vals) (fun i _=>6 - (intOf i).toNat)
   case atStart=>exact⟨0,_,by omega,rfl,⟨HW.out.1,fun _ h=>.inl h,Touch.refl _ _⟩,HW.out.2.1,HW.out.2.2.1⟩
   case round=>
    obtain⟨k,sv',hk,rfl,⟨hW3,hr3,hT3⟩,hI3,hM3⟩:=hrel;have HR3:=Zh hr3;have HT3:=Zh hT3;clear hr3 hT3;by_cases hlt:k<6
    ·have hkl:k<l.length:=by rw[HLen.out];exact hlt
     have hc:=Pu hI3 hkl;have h32:=Ro H32.out hkl;have HS:=Zh (N5 hkl);have hnl:=Ge (l.take k);have htl:(l.take k).length<=k:=List.length_take_le _ _;obtain⟨n,hn⟩:=Int.eq_ofNat_of_zero_le h32.1;rw[hn]at hc h32;have HNN:=Zh hn;clear hn;go_wp2_with fail;refine(Is _ sv' _ n _ hW3 (by omega) (by omega)).mono ?_
     rintro e w4 ⟨rfl,sv4,hM4⟩;have hI4:=hW3.keeps hI3 (by decide) (by decide) hM4.2.2;have hMs4:=hW3.keeps hM3 (by decide) (by decide) hM4.2.2;have HM4:=Zh (Fe.next HR3.out HT3.out hM4);clear hM4 hI3 hM3 hc hW3 hnl;go_wp2;go_roundw
     case rel=>exact⟨k+1,sv4,by omega,by go_num,by rw[HS.out,HNN.out];exact HM4.out,hI4,hMs4⟩
     case measure=>simp[intOf];omega
    ·obtain rfl:k=6:=by omega
     have hnl:=Ge (l.take 6);have htl:(l.take 6).length<=6:=List.length_take_le _ _;have hMc:=hM3.cell;have hsz:=Au m.body;have hlt:=hM3.lt;go_wp2_with fail;refine(Nn _ sv' _ m.body _ hW3 (by omega) (by omega)).mono ?_
     rintro e w5 ⟨rfl,sv5,hM5⟩;have HM5:=Zh (Fe.next HR3.out HT3.out hM5);clear hM5 hI3 hM3 hMc hW3;go_wp2_with fail;refine(Ld _ sv5 _ _ HM5.out.1).mono ?_
     rintro e w6 ⟨rfl,rfl⟩;go_wp2;go_ret;refine⟨D9 (by unfold Message.bytes;rw[HL.out,List.take_of_length_le (by rw[HLen.out];omega)]),HW.out.2.2.2.trans (Kl.below (B:=w.heap.size) ⟨sv5,HM5.out⟩ (by omega) (by simp[Value.ownBlock]) HW.out.2.2.2.size)⟩
  ·have HN:=Zh (show m.Gi=[m.xid,1,0,1,0,m.accept] by simp[Message.Gi,ha,hg])
   have HLen:=Zh (show m.Gi.length=6 by simp[Message.Gi,ha]);have HW:=Zh (Tu w m m.Gi);rw[HN.out]at HW;go_enter Tryz.func129,Tryz.ntmps129
   go_wp2;change Code.wp _ _ _ _ (Hi w m [m.xid,1,0,1,0,m.accept]);rw[<-HN.out]at HW ⊢;generalize Hi w m m.Gi=W0 at *;clear HN;generalize hl6:m.Gi=l at *;have HL:=Zh hl6;clear hl6
   go_loopw [40] (fun i wr=>∃(k:Nat) (sv':Value),k<=6/\i=.int .i64 k/\Fe (w.heap.size+1) (.slice none 0 0) sv' (Jl (l.take k)) W0 wr/\Blk wr (w.heap.size+1+1) 3 (Jt l)/\Blk wr w.heap.size 81 m.vals) (fun i _=>6 - (intOf i).toNat)
   case atStart=>exact⟨0,_,by omega,rfl,⟨HW.out.1,fun _ h=>.inl h,Touch.refl _ _⟩,HW.out.2.1,HW.out.2.2.1⟩
   case round=>
    obtain⟨k,sv',hk,rfl,⟨hW3,hr3,hT3⟩,hI3,hM3⟩:=hrel;have HR3:=Zh hr3;have HT3:=Zh hT3;clear hr3 hT3;by_cases hlt:k<6
    ·have hkl:k<l.length:=by rw[HLen.out];exact hlt
     have hc:=Pu hI3 hkl;have h32:=Ro H32.out hkl;have HS:=Zh (N5 hkl);have hnl:=Ge (l.take k);have htl:(l.take k).length<=k:=List.length_take_le _ _;obtain⟨n,hn⟩:=Int.eq_ofNat_of_zero_le h32.1;rw[hn]at hc h32;have HNN:=Zh hn;clear hn;go_wp2_with fail;refine(Is _ sv' _ n _ hW3 (by omega) (by omega)).mono ?_
     rintro e w4 ⟨rfl,sv4,hM4⟩;have hI4:=hW3.keeps hI3 (by decide) (by decide) hM4.2.2;have hMs4:=hW3.keeps hM3 (by decide) (by decide) hM4.2.2;have HM4:=Zh (Fe.next HR3.out HT3.out hM4);clear hM4 hI3 hM3 hc hW3 hnl;go_wp2;go_roundw
     case rel=>exact⟨k+1,sv4,by omega,by go_num,by rw[HS.out,HNN.out];exact HM4.out,hI4,hMs4⟩
     case measure=>simp[intOf];omega
    ·obtain rfl:k=6:=by omega
     have hnl:=Ge (l.take 6);have htl:(l.take 6).length<=6:=List.length_take_le _ _;have hMc:=hM3.cell;have hsz:=Au m.body;have hlt:=hM3.lt;go_wp2_with fail;refine(Nn _ sv' _ m.body _ hW3 (by omega) (by omega)).mono ?_
     rintro e w5 ⟨rfl,sv5,hM5⟩;have HM5:=Zh (Fe.next HR3.out HT3.out hM5);clear hM5 hI3 hM3 hMc hW3;go_wp2_with fail;refine(Ld _ sv5 _ _ HM5.out.1).mono ?_
     rintro e w6 ⟨rfl,rfl⟩;go_wp2;go_ret;refine⟨D9 (by unfold Message.bytes;rw[HL.out,List.take_of_length_le (by rw[HLen.out];omega)]),HW.out.2.2.2.trans (Kl.below (B:=w.heap.size) ⟨sv5,HM5.out⟩ (by omega) (by simp[Value.ownBlock]) HW.out.2.2.2.size)⟩
end
section
attribute [local go_sem ↓] Za Xr N8 G6
def Ai9 (b:Bool):Int:=if b then 14 else 0
def Message.Aph (m:Message):Value:=if m.bad then .tuple #[.string (bs []),.int .i64 14] else .tuple #[.string (bs m.bytes),.int .i64 0]
theorem Aia (m:Message)(w:World)(hl:m.body.length<=maxLen):Calls Tryz.prog 128 #[.agg m.vals.toArray] w fun e w'=>e=.returned (.int .i64 (Ai9 m.bad))/\Below w.heap.size w w':=by
 unfold maxLen at hl;have hB0:Below w.heap.size w (w.alloc (.cells m.vals.toArray 81)):=(Below.refl _ _).alloc (Nat.le_refl _) _;have hz:w.heap.size<(w.alloc (.cells m.vals.toArray 81)).heap.size:=by simp
 have hsz:=Au m.body;have hsz2:=Au m.bytes;go_enter Tryz.func128,Tryz.ntmps128
 go_wp2_with fail;refine(Aef m _ (by omega)).mono ?_
 rintro e w1 ⟨rfl,hb1⟩;have hs1:=Stb.of hb1;have hB1:=Ad hB0 hb1;clear hb1;cases hm:m.may
 ·have HS:=Zh (show m.bad=true by simp[Message.bad,hm])
  clear hm;go_wp2;go_ret;exact⟨Ov (by rw[HS.out];rfl),hB1⟩
 ·have HM:=Zh hm
  clear hm;by_cases h2:2048<m.body.length
  ·have HS:=Zh (show m.bad=true by simp[Message.bad,h2])
   go_wp2;go_ret;exact⟨Ov (by rw[HS.out];rfl),hB1⟩
  ·have HS:=Zh (show m.bad=decide (2048<m.bytes.length) by simp[Message.bad,HM.out,h2])
   have hz1:w.heap.size<w1.heap.size:=Nat.lt_of_lt_of_le hz hs1.below.size;have hbl:m.bytes.length<=3000:=by
    have:=Ge m.Gi;have hn:m.Gi.length<=14:=by unfold Message.Gi;split<;>simp
    have hp:=Qa m.body.length;simp only[Message.bytes,List.length_append,Qk];omega
   go_wp2_with fail;refine(Abd m _ HM.out (by omega)).mono ?_
   rintro e w2 ⟨rfl,hb2⟩;have hB2:=Ad hB1 hb2;clear hb2;go_wp2
   all_goals
    go_ret;refine⟨Ov ?_,hB2⟩
    rw[HS.out];go_light
    grind [Ai9]
theorem Amk (m:Message)(w:World)(hl:m.body.length<=maxLen):Calls Tryz.prog 87 #[.agg m.vals.toArray] w fun e w'=>e=.returned m.Aph/\Below w.heap.size w w':=by
 have hB0:Below w.heap.size w (w.alloc (.cells m.vals.toArray 81)):=(Below.refl _ _).alloc (Nat.le_refl _) _;have hz:w.heap.size<(w.alloc (.cells m.vals.toArray 81)).heap.size:=by simp
 go_enter Tryz.func87,Tryz.ntmps87
 go_wp2_with fail;refine(Aia m _ hl).mono ?_
 rintro e w1 ⟨rfl,hb1⟩;have hs1:=Stb.of hb1;have hB1:=Ad hB0 hb1;clear hb1;cases hm:m.bad
 ·simp only[Ai9,Bool.false_eq_true,if_false]
  have hm':=hm;simp only[Message.bad,Bool.or_eq_false_iff,Bool.not_eq_false',decide_eq_false_iff_not]at hm';have HM:=Zh hm';have HH:=Zh hm;clear hm hm';have hz1:w.heap.size<w1.heap.size:=Nat.lt_of_lt_of_le hz hs1.below.size;go_wp2_with fail;refine(Abd m _ HM.out.1 (by have:=HM.out.2.1;omega)).mono ?_
  rintro e w2 ⟨rfl,hb2⟩;have hB2:=Ad hB1 hb2;go_wp2;go_ret2
  exact⟨by simp[Message.Aph,HH.out],hB2⟩
 ·simp only[Ai9,if_true]
  have HH:=Zh hm;clear hm;go_wp2;go_ret2
  exact⟨by simp[Message.Aph,HH.out],hB1⟩
def Message.refuse (m:Message)(a:Int):Message:=⟨m.xid,true,false,0,Av,a,[]⟩
def Message.Il (m:Message)(b:List UInt8):Message:=⟨m.xid,true,false,0,Av,0,b⟩
def Aeg:List Oi:=[.i .i64,.b,.b,.i .i64,.i .i64,.i .i64,.i .i64,.i .i64,.i .i64,.s]
theorem Ua:Im Tryz.prog 8 81=some Aeg:=by kernel_rfl
theorem Wu (a:Message):fits Aeg a.vals=true:=by rfl
theorem An4 (m:Message)(a:Int)(w:World):(binOp .eql 81 (.agg (m.refuse a).vals.toArray) (.agg #[.int .i64 m.xid,.bool true,.bool false,.int .i64 0,.int .i64 0,.int .i64 0,.int .i64 0,.int .i64 0,.int .i64 a,.string ⟨#[]⟩])).run Tryz.prog w=.ok (.bool true) w:=
 Px Ua (by kernel_rfl) w _ (m.refuse a).vals (Wu _) rfl
theorem Aqw (m:Message)(b:List UInt8)(w:World):(binOp .eql 81 (.agg (m.Il b).vals.toArray) (.agg #[.int .i64 m.xid,.bool true,.bool false,.int .i64 0,.int .i64 0,.int .i64 0,.int .i64 0,.int .i64 0,.int .i64 0,.string (bs b)])).run Tryz.prog w=.ok (.bool true) w:=
 Px Ua (by kernel_rfl) w _ (m.Il b).vals (Wu _) rfl
attribute [local go_sem ↓] An4 Aqw
end
def Sr:List PanicEntry:=[{ v:=.iface 165 (.agg #[.int .i64 14]),recovered:=false }]
def wd (s:List UInt8):Nat:=Dy (s.take 4)
theorem Ads {s:List UInt8}(h:4<=s.length):Am ⟨s,0⟩=(wd s,⟨s.drop 4,0⟩):=Aiy h
theorem Apf {s:List UInt8}(h:s.length<4):Am ⟨s,0⟩=(0,Rs.fail 10):=Yk h
abbrev StR (g:Nat)(w W:World):Prop:=(∀b o,b<w.heap.size->b≠g->W.cell? ⟨b,o,none⟩=w.cell? ⟨b,o,none⟩)/\(∀b o n,b<w.heap.size->b≠g->rowOf W b o n=rowOf w b o n)/\Touch (fun k=>k=g) w W
theorem StR.of {g:Nat}{w W:World}(h:Touch (fun k=>k=g) w W):StR g w W:=⟨fun _ _ hb hn=>h.cell hb hn,fun _ _ _ hb hn=>h.row hb hn _ _,h⟩
theorem StR.start {g:Nat}{w:World}:StR g w w.drew:=StR.of (Touch.refl _ _).drew
theorem StR.call {g:Nat}{w W W':World}(h:StR g w W)(hb:Touch (fun k=>k=g) W W'):StR g w W':=StR.of (h.2.2.Ay hb)
theorem StR.alloc {g:Nat}{w W:World}(h:StR g w W)(o:Obj):StR g w (W.alloc o):=StR.of (h.2.2.alloc o)
theorem Am3 (g:Nat)(s:List UInt8)(w:World)(hR:Rd w g ⟨s,0⟩)(h:4<=s.length)(hl:s.length<=9223372036854775807) :
  Calls Tryz.prog 95 #[.agg #[.pointer (some ⟨g,0,none⟩)]] w fun e w'=>e=.returned (.int .i64 (wd s))/\Reads g ⟨s.drop 4,0⟩ w w':=by
 have hB:Below w.heap.size w (w.alloc (.cells #[.pointer (some ⟨g,0,none⟩)] 170)):=(Below.refl _ _).alloc (Nat.le_refl _) _;have K:=G3 g ⟨s,0⟩ (w.alloc (.cells #[.pointer (some ⟨g,0,none⟩)] 170)) (hR.stays hB) hl;rw[Ads h]at K;have HB:=Zh hB;have K:=Zh K;have hlt:=hR.lt;clear hR hB;go_enter Tryz.func95,Tryz.ntmps95
 go_wp2_with fail;refine K.out.mono ?_
 rintro e w1 ⟨rfl,hQ⟩;have hc1:w1.cell? ⟨w.heap.size,0,none⟩=some (.pointer (some ⟨g,0,none⟩)):=(hQ.2.cell (p:=⟨w.heap.size,0,none⟩) (by simp) (by simp only;omega)).trans (by simp[go_sem]);have HQ:=Zh hQ;clear hQ;go_wp2_with fail;refine(Cn g ⟨s.drop 4,0⟩ _ HQ.out.1).mono ?_
 rintro e w2 ⟨rfl,rfl⟩;go_wp2;go_ret;exact⟨rfl,Reads.behind HB.out HQ.out⟩
theorem Ap4 (g:Nat)(s:List UInt8)(w:World)(hR:Rd w g ⟨s,0⟩)(h:s.length<4)(hl:s.length<=9223372036854775807) :
  Calls Tryz.prog 95 #[.agg #[.pointer (some ⟨g,0,none⟩)]] w fun e w'=>e=.panicked Sr/\Touch (fun k=>k=g) w w':=by
 have hB:Below w.heap.size w (w.alloc (.cells #[.pointer (some ⟨g,0,none⟩)] 170)):=(Below.refl _ _).alloc (Nat.le_refl _) _;have K:=G3 g ⟨s,0⟩ (w.alloc (.cells #[.pointer (some ⟨g,0,none⟩)] 170)) (hR.stays hB) hl;rw[Apf h]at K;have HB:=Zh hB;have K:=Zh K;have hlt:=hR.lt;clear hR hB;go_enter Tryz.func95,Tryz.ntmps95
 go_wp2_with fail;refine K.out.mono ?_
 rintro e w1 ⟨rfl,hQ⟩;have hc1:w1.cell? ⟨w.heap.size,0,none⟩=some (.pointer (some ⟨g,0,none⟩)):=(hQ.2.cell (p:=⟨w.heap.size,0,none⟩) (by simp) (by simp only;omega)).trans (by simp[go_sem]);have HQ:=Zh hQ;clear hQ;go_wp2_with fail;refine(Cn g (Rs.fail 10) _ HQ.out.1).mono ?_
 rintro e w2 ⟨rfl,rfl⟩;simp only[Rs.fail];go_wp2;exact⟨rfl,rfl,(Reads.behind HB.out HQ.out).2⟩
theorem Mr (b:Bool)(w:World):Calls Tryz.prog 134 #[.bool b] w fun e w'=>(if b then e=.returned (.tuple #[]) else e=.panicked Sr)/\w=w':=by
 cases b
 ·go_enter Tryz.func134,Tryz.ntmps134
  go_wp2;exact⟨rfl,rfl,rfl⟩
 ·go_enter Tryz.func134,Tryz.ntmps134
  go_wp2;go_end0
  exact⟨rfl,rfl⟩
theorem Agz {s:List UInt8}(h:s.length % 4=0):Ff (s.length:Int) ⟨s,0⟩=(s,⟨[],0⟩):=by
 have hp:D7 s.length=0:=by unfold D7;omega
 have h0:¬(s.length:Int)<0:=by omega
 simp[Ff,En,hp,h0]
theorem Adi (g:Nat)(s:List UInt8)(w:World)(hR:Rd w g ⟨s,0⟩)(h:s.length % 4=0)(hl:s.length<=9223372036854775807) :
  Calls Tryz.prog 138 #[.agg #[.pointer (some ⟨g,0,none⟩)]] w fun e w'=>e=.returned (.string (bs s))/\Touch (fun k=>k=g) w w':=by
 have hB:Below w.heap.size w (w.alloc (.cells #[.pointer (some ⟨g,0,none⟩)] 170)):=(Below.refl _ _).alloc (Nat.le_refl _) _;have K0:=Uu g ⟨s,0⟩ (w.alloc (.cells #[.pointer (some ⟨g,0,none⟩)] 170)).drew (hR.stays hB.drew);have K:=Agy g (s.length:Int) ⟨s,0⟩ (w.alloc (.cells #[.pointer (some ⟨g,0,none⟩)] 170)).drew (hR.stays hB.drew) (by omega) hl;rw[Agz h]at K;have HB:=Zh hB.drew;have K0:=Zh K0;have K:=Zh K;have hlt0:=hR.lt;have hne:¬w.heap.size=g:=by omega
 clear hR hB;go_enter Tryz.func138,Tryz.ntmps138
 have hlt:g<(w.alloc (.cells #[.pointer (some ⟨g,0,none⟩)] 170)).heap.size:=by simp;omega
 go_wp2_with fail;go_region_held3 (fun W=>StR g (w.alloc (.cells #[.pointer (some ⟨g,0,none⟩)] 170)) W) (first|exact StR.start|assumption|exact StR.call StR.start hQ.2) (first
  |(go_at_call 137;refine K0.out.mono ?_;rintro e w1 ⟨rfl,rfl⟩)
  |(go_at_call 170;refine K.out.mono ?_;rintro e w2 ⟨rfl,hQ⟩))
 all_goals
  have HQ:=Zh hQ;clear hQ;go_wp2;go_ret;exact⟨rfl,(Reads.behind HB.out HQ.out).2⟩
-- what is refused stays refused
theorem Yj {k:Nat}{r:Rs}(h:r.e≠0):F3 k r=(0,r):=by unfold F3;rw[if_pos h]
theorem Tb {r:Rs}(h:r.e≠0):Am r=(0,r):=Yj h
theorem P4 {r:Rs}(h:r.e≠0):Bn r=(0,r):=by unfold Bn;rw[Yj h];simp
theorem Adx {r:Rs}(h:r.e≠0):Bw r=(false,r):=by unfold Bw;rw[Tb h];simp
theorem Z7 {n:Int}{r:Rs}(h:r.e≠0):Ao n r=([],r):=by unfold Ao;rw[Tb h,if_pos h]
theorem Agu {b:Bool}{r:Rs}(h:r.e≠0):(E8 b r).2=r:=by
 cases b
 ·show (Am r).2=r
  rw[Tb h]
 ·show (Bn r).2=r
  rw[P4 h]
theorem Vi (l:List Bool){r:Rs}(h:r.e≠0):(Gs l r).2=r:=by
 induction l with
 |nil=>rfl
 |cons b l ih=>show (Gs l (E8 b r).2).2=r;rw[Agu h];exact ih
theorem Ape (r:Rs):((Bn r).1:Int)<=9223372036854775807:=by
 unfold Bn;split
 ·exact Int.le_of_lt_add_one (by decide)
 ·omega
theorem Yl {r:Rs}:Qq r=0 ↔ r.e=0/\¬0<J9 r:=by
 unfold Qq J9;by_cases he:r.e≠0
 ·rw[if_pos he,if_pos he];simp[he]
 ·rw[if_neg he,if_neg he]
  have he':r.e=0:=by simpa using he
  by_cases h:0<r.s.length
  ·rw[if_pos h];exact⟨fun h2=>absurd h2 (by decide),fun h2=>absurd h h2.2⟩
  ·rw[if_neg h];exact⟨fun _=>⟨he',h⟩,fun _=>rfl⟩
def wid (b:Bool):Nat:=if b then 8 else 4
theorem Ark:wid true=8:=if_pos rfl
theorem Arl:wid false=4:=if_neg (by simp)
theorem Amh (r:Rs):E8 true r=Bn r:=if_pos rfl
theorem Ami (r:Rs):E8 false r=Am r:=if_neg (by simp)
theorem Aj9 (b:Bool){r:Rs}(h0:r.e=0)(h:(E8 b r).2.e=0):r.s=num (E8 b r).1 (wid b)++(E8 b r).2.s:=by
 cases b
 ·rw[Ami]at h;rw[Arl,Ami];exact(Jg h0 h).1
 ·rw[Amh]at h;rw[Ark,Amh];exact(Nf h0 h).1
def Aa6:List Bool->List Nat->List UInt8
 |b::bs,n::ns=>num n (wid b)++Aa6 bs ns
 |_,_=>[]
theorem Aha (b:Bool)(bs:List Bool)(n:Nat)(ns:List Nat):Aa6 (b::bs) (n::ns)=num n (wid b)++Aa6 bs ns:=rfl
theorem Agx (b:Bool)(bs:List Bool)(r:Rs):Gs (b::bs) r=((E8 b r).1::(Gs bs (E8 b r).2).1,(Gs bs (E8 b r).2).2):=rfl
theorem Agw (ws:List Bool){r:Rs}(h0:r.e=0)(h:(Gs ws r).2.e=0):r.s=Aa6 ws (Gs ws r).1++(Gs ws r).2.s:=by
 induction ws generalizing r with
 |nil=>rfl
 |cons b bs ih=>
  rw[Agx]at h ⊢;have he:(E8 b r).2.e=0:=by
   apply Classical.byContradiction
   intro hc;simp only[Vi bs hc]at h;exact hc h
  have e1:=ih he h;have e2:=Aj9 b h0 he;rw[Aha,List.append_assoc,<-e1];exact e2
attribute [local go_sem] Call.at0 Call.Bo Call.at1 Call.Bk Call.at2 Call.Ca Call.at3 Call.Cg Call.at4 Call.Cx Call.at5 Call.Cw Call.at6 Call.Cv Call.at7 Call.Cu Call.at8 Call.Ct Call.at9 Call.Cs Call.Ee Call.C4 Call.Fm Call.Dm Call.Fl Call.Dl Call.Ia Call.Ep Call.H9 Call.Eo Call.Lx Call.Hg Call.Lw Call.Hf Call.Lv Call.He Call.Lu Call.Hd Call.Lt Call.Hc Call.Ls Call.Ha Call.Lr Call.G9 Call.Lq Call.G8 Call.Lp Call.G7 Call.Gy Call.Fj Call.Gv Call.Fg Call.Jn Call.Gz Call.Gx Call.Fi Call.Gw Call.Fh Call.F9 Call.Et Call.F8 Call.Es Call.F7 Call.Er Call.len Ac.at0 Ac.Bo Ac.at1 Ac.Bk Ac.at2 Ac.Ca Ac.at3 Ac.Cg Ac.at4 Ac.Cx Ac.at5 Ac.Cw Ac.at6 Ac.Cv Ac.at7 Ac.Cu Ac.at8 Ac.Ct Ac.at9 Ac.Cs Ac.Cl Ac.B4 Ac.Ch Ac.Br Ac.Gn Ac.E1 Ac.Gm Ac.E0 Ac.Gl Ac.Ez Ac.Gk Ac.Ey Ac.len Opt.at0 Opt.Bo Opt.at1 Opt.Bk Opt.Ch Opt.Br Opt.len
section
attribute [local go_sem ↓] Io Hz Rn
theorem Aml (x:Call)(w:World)(hgo:x.offset<=9223372036854775807)(hgk:x.cookie<=9223372036854775807)(hgv:x.verf<=9223372036854775807)(hgs:x.set.C9)(hgg:x.guard.n<=9223372036854775807) :
  Calls Tryz.prog 86 #[.agg x.vals.toArray] w fun e w'=>e=.returned (.tuple #[.string (bs (Aaa x).1),.int .i64 (Aaa x).2])/\Below w.heap.size w w':=by
 have hb:=Blk.new w 36 x.vals;have hB:Below w.heap.size w (w.alloc (.cells x.vals.toArray 36)):=(Below.refl _ _).alloc (Nat.le_refl _) _;have rX:rowOf (w.alloc (.cells x.vals.toArray 36)) w.heap.size 0 24=some x.vals.toArray:=hb.row 0 24 (by simp[Call.len]);have hcf:∀args W,(callFunc 125 args).run Tryz.prog W=.ok (.enter 125 args) W:=fun args W=>by kernel_rfl
 by_cases hck:Ev x=0
 ·have HS:=Zh (show Aaa x=(M0 x (Al x.proc) (Al x.proc).length,0) by simp[Aaa,hck])
  have hma:=Xa hck;go_enter Tryz.func86,Tryz.ntmps86
  go_wp2_with fail;refine(Tt x _).mono ?_
  rintro e w1 ⟨rfl,hb1⟩;rw[hck];have hX:=hb.stays hb1;have hB1:=Ad hB hb1;clear rX hb hB;have hW:=Wr.fresh w1;have hX2:=hX.alloc (.cells #[.slice none 0 0] 195);have hB2:=hB1.alloc hB1.size (.cells #[.slice none 0 0] 195);have hs2:(w1.alloc (.cells #[.slice none 0 0] 195)).heap.size=w1.heap.size+1:=by simp
  have hW3:=hW.alloc (.cells #[ptr w1.heap.size] 193);have hX3:=hX2.alloc (.cells #[ptr w1.heap.size] 193);have hB3:=hB2.alloc hB2.size (.cells #[ptr w1.heap.size] 193);have hH3:=Blk.new (w1.alloc (.cells #[.slice none 0 0] 195)) 193 [ptr w1.heap.size];rw[hs2]at hH3;have hlt:w.heap.size<w1.heap.size:=Nat.lt_of_lt_of_le (by simp) hb1.size;have hcX:=hX.cell;have HX:=Zh hX3;have HW3:=Zh hW3;have HB:=Zh hB3;have HH3:=Zh hH3;clear hX3 hW3 hB3 hH3 hX2 hB2 hs2 hW hX hB1 hb1;go_wp2_with fail;have hl:=fun k (hk:k<(Al x.proc).length)=>Hj x.proc hk
  have hlen:=Sd x (Al x.proc) hma hl;have hsh:=Ma x.proc;change Calls _ _ #[_,.func (.func _) #[] [ptr (w1.heap.size+1),ptr w.heap.size].toArray] _ _;refine(Aew x.proc 125 [ptr (w1.heap.size+1),ptr w.heap.size] _ (fun _=>true) (Ac2 w w1.heap.size (w1.heap.size+1) w.heap.size x (Al x.proc)) hcf ?_ ?_ ?_).mono ?_
  ·exact fun W h=>⟨⟨.slice none 0 0,HW3.out.stays h,by simp[Value.ownBlock]⟩,HH3.out.stays h,HX.out.stays h,Ad HB.out h⟩
  ·exact fun k W b l pos pos' hb h hI=>by
    obtain⟨⟨sv,hW,hrow⟩,hH,hX,hB⟩:=h;refine⟨⟨sv,?_,hrow⟩,hH.Ql (hH.Qe hI) _ _,hX.Ql (hX.Qe hI) _ _,Below.setIter hB (Nat.le_trans HB.out.size hb) _ _⟩
    exact hW.Ak ((Touch.refl (fun k=>k=b) W).setIter (.inl rfl) _ _) fun k hf e=>hW.Wt hI (e ▸ hf)
  ·intro k hk W hS
   exact Amm w _ _ _ (Nat.le_of_lt hlt) x _ k hk (hl k hk) (by
    rw[E2,List.all_eq_true]at hma;exact hma _ (List.getElem_mem hk)) hgo hgk hgv hgs hgg (by have:=hlen k (Nat.le_of_lt hk);omega) W hS
  ·rintro e w5 ⟨m,hS,hcase⟩
   rcases hcase with ⟨rfl,hall,rfl⟩|⟨j,rfl,hj,hok,hbad,rfl⟩
   ·obtain⟨⟨sv,hW,hrow⟩,hH,hX,hB⟩:=hS
    have hcH:=hH.cell;clear hX hcX hlen hl hma hH HX HW3 HB HH3 hall hsh;generalize M0 x (Al x.proc) (Al x.proc).length=l at *;go_wp2_with fail;refine(Ld _ sv _ _ hW).mono ?_
    rintro e w6 ⟨rfl,rfl⟩;go_wp2;go_ret2
    rw[HS.out];exact⟨rfl,hB⟩
   ·cases hbad
 ·have HS:=Zh (show Aaa x=([],Ev x) by simp[Aaa,hck])
  have h1:((Ev x != 0)=true):=by simpa using hck
  have hc6:=fun W=>Tt x W
  generalize Ev x=n at *;go_enter Tryz.func86,Tryz.ntmps86
  go_wp2_with fail;refine(hc6 _).mono ?_
  rintro e w1 ⟨rfl,hb1⟩;go_wp2;go_ret2
  rw[HS.out];exact⟨rfl,Ad hB hb1⟩
end
section
attribute [local go_sem ↓] Io Hz
theorem Abf:(Tryz.prog.info? 34).map (fun i=>(i.zero,i.size))=some (some (.agg Eg.vals.toArray),10):=by kernel_rfl
def cTk (c:Nat)(z:Call)(r:Rs):Call × Rs:=
 if c=102 then ({ z with fh:=(Ao 64 r).1 },(Ao 64 r).2) else
 if c=70 then ({ z with fh2:=(Ao 64 r).1 },(Ao 64 r).2) else
 if c=110 then ({ z with name:=(Ao 255 r).1 },(Ao 255 r).2) else
 if c=78 then ({ z with name2:=(Ao 255 r).1 },(Ao 255 r).2) else
 if c=116 then ({ z with text:=(Ao 255 r).1 },(Ao 255 r).2) else
 if c=100 then ({ z with data:=(Ao 256 r).1 },(Ao 256 r).2) else
 if c=111 then ({ z with offset:=(Bn r).1 },(Bn r).2) else
 if c=107 then ({ z with cookie:=(Bn r).1 },(Bn r).2) else
 if c=118 then ({ z with verf:=(Bn r).1 },(Bn r).2) else
 if c=99 then ({ z with count:=(Am r).1 },(Am r).2) else
 if c=104 then ({ z with how:=(Am r).1 },(Am r).2) else
 if c=115 then ({ z with set:=(Cf Ac.ok Eg (Ow r)).1 },(Ow r).2) else
 if c=103 then ({ z with guard:=D1 (Fp r).1 },(Fp r).2) else (z,r)
def Ai7 (c:Nat)(r:Rs):Bool:=if c=115 then (Cf Ac.ok Eg (Ow r)).2==0 else (cTk c Aw r).2.e==0
end
section
attribute [local go_sem ↓] Io Hz Rn
def cSt (l:List UInt8)(z:Call)(r:Rs)(k:Nat):Call × Rs:=(l.take k).foldl (fun x c=>cTk c.toNat x.1 x.2) (z,r)
theorem Ae4 (l:List UInt8)(z:Call)(r:Rs)(k:Nat)(hk:k<l.length):cSt l z r (k+1)=cTk l[k].toNat (cSt l z r k).1 (cSt l z r k).2:=by
 unfold cSt;rw[List.take_add_one,List.getElem?_eq_getElem hk,List.foldl_append];rfl
theorem Ae5 {n:Int}{r:Rs}(h:r.s.length<=9223372036854775807):(Ao n r).2.s.length<=r.s.length:=by
 unfold Ao;split
 ·exact Em h
 ·split
  ·simp[Rs.fail]
  ·exact Nat.le_trans (Vh (Nat.le_trans (Em h) h)) (Em h)
theorem Ll {α:Type}(P:α->Prop){c:Prop}[Decidable c]{a b:α}(ha:P a)(hb:P b):P (if c then a else b):=by split<;>assumption
theorem Asd (c:Nat)(z:Call){r:Rs}{M:Nat}(ho:∀n,(Ao n r).2.s.length<=M)(h8:(Bn r).2.s.length<=M)(h4:(Am r).2.s.length<=M)(hs:(Ow r).2.s.length<=M)(hg:(Fp r).2.s.length<=M)(h:r.s.length<=M):(cTk c z r).2.s.length<=M:=by
 unfold cTk;exact(Ll (fun x:Call × Rs=>x.2.s.length<=M) (ho _) (Ll (fun x:Call × Rs=>x.2.s.length<=M) (ho _) (Ll (fun x:Call × Rs=>x.2.s.length<=M) (ho _) (Ll (fun x:Call × Rs=>x.2.s.length<=M) (ho _) (Ll (fun x:Call × Rs=>x.2.s.length<=M) (ho _) (Ll (fun x:Call × Rs=>x.2.s.length<=M) (ho _) (Ll (fun x:Call × Rs=>x.2.s.length<=M) h8 (Ll (fun x:Call × Rs=>x.2.s.length<=M) h8 (Ll (fun x:Call × Rs=>x.2.s.length<=M) h8 (Ll (fun x:Call × Rs=>x.2.s.length<=M) h4 (Ll (fun x:Call × Rs=>x.2.s.length<=M) h4 (Ll (fun x:Call × Rs=>x.2.s.length<=M) hs (Ll (fun x:Call × Rs=>x.2.s.length<=M) hg h)))))))))))))
theorem Aq9 (c:Nat)(z:Call){r:Rs}(h:r.s.length<=9223372036854775807):(cTk c z r).2.s.length<=9223372036854775807:=
 Asd c z (fun n=>Nat.le_trans (Ae5 (n:=n) h) h) (Nat.le_trans (Hx h) h) (Nat.le_trans (Em h) h) (Ajs r 5 h) (Nat.le_trans (Rc h) h) h
theorem Ara (l:List UInt8)(z:Call){r:Rs}(h:r.s.length<=9223372036854775807)(k:Nat)(hk:k<=l.length):(cSt l z r k).2.s.length<=9223372036854775807:=by
 induction k with
 |zero=>exact h
 |succ k ih=>rw[Ae4 _ _ _ _ (by omega)];exact Aq9 _ _ (ih (by omega))
def Zf (l:List UInt8)(z:Call)(r:Rs)(k:Nat):Bool:=Ai7 (l.getD k 0).toNat (cSt l z r k).2
end
attribute [local go_sem] Attr.at0 Attr.Bo Attr.at1 Attr.Bk Attr.at2 Attr.Ca Attr.at3 Attr.Cg Attr.at4 Attr.Cx Attr.at5 Attr.Cw Attr.at6 Attr.Cv Attr.at7 Attr.Cu Attr.at8 Attr.Ct Attr.at9 Attr.Cs Attr.Cl Attr.B4 Attr.len Opt.at0 Opt.Bo Opt.at1 Opt.Bk Opt.Ch Opt.Br Opt.len Ac.at0 Ac.Bo Ac.at1 Ac.Bk Ac.at2 Ac.Ca Ac.at3 Ac.Cg Ac.at4 Ac.Cx Ac.at5 Ac.Cw Ac.at6 Ac.Cv Ac.at7 Ac.Cu Ac.at8 Ac.Ct Ac.at9 Ac.Cs Ac.Cl Ac.B4 Ac.Ch Ac.Br Ac.Gn Ac.E1 Ac.Gm Ac.E0 Ac.Gl Ac.Ez Ac.Gk Ac.Ey Ac.len Ah.at0 Ah.Bo Ah.at1 Ah.Bk Ah.at2 Ah.Ca Ah.at3 Ah.Cg Ah.at4 Ah.Cx Ah.at5 Ah.Cw Ah.at6 Ah.Cv Ah.at7 Ah.Cu Ah.at8 Ah.Ct Ah.at9 Ah.Cs Ah.Ee Ah.C4 Ah.Kp Ah.Iy Ah.Kn Ah.Iw Ah.len Wcc.at0 Wcc.Bo Wcc.at1 Wcc.Bk Wcc.at2 Wcc.Ca Wcc.at3 Wcc.Cg Wcc.at4 Wcc.Cx Wcc.at5 Wcc.Cw Wcc.at6 Wcc.Cv Wcc.at7 Wcc.Cu Wcc.at8 Wcc.Ct Wcc.at9 Wcc.Cs Wcc.Ee Wcc.C4 Wcc.Fm Wcc.Dm Wcc.Fl Wcc.Dl Wcc.Ko Wcc.Ix Wcc.Ch Wcc.Br Wcc.Fa Wcc.Ec Wcc.E9 Wcc.Eb Wcc.len Dj
section
attribute [local go_sem ↓] L5 Hz Io Fq Lb
theorem Akz:(Tryz.prog.info? 45).map (fun i=>(i.zero,i.size))=some (some (.agg Bb.vals.toArray),11):=by kernel_rfl
theorem A6.drew {g:Nat}{r:Rs}{w wx:World}(h:A6 g r w wx):A6 g r w wx.drew:=by
 obtain⟨⟨S,a,hB,k⟩,hT⟩:=h;exact⟨⟨S,a,hB.drew,k⟩,hT.drew⟩
theorem Ns (g:Nat)(r:Rs)(w:World)(hR:RdF w g r) :
  Calls Tryz.prog 152 #[.pointer (some ⟨g,0,none⟩)] w (Oj g (Bh r).2 (Qu (Cf Ah.ok Bb (Bh r)).1.vals (Cf Ah.ok Bb (Bh r)).2) w):=by
 have hb:=Blk.new w 45 Bb.vals;have hB:Below w.heap.size w (w.alloc (.cells Bb.vals.toArray 45)):=(Below.refl _ _).alloc (Nat.le_refl _) _;have hR1:=hR.stays hB;have hne:w.heap.size≠g:=Nat.ne_of_gt hR.lt;have hgl:=hR.lt;clear hR;go_enter Tryz.func152,Tryz.ntmps152
 go_wp2_with fail;change Calls _ _ _ (w.alloc (.cells Bb.vals.toArray 45)) _;generalize w.alloc (.cells Bb.vals.toArray 45)=w0 at *;refine(Vk g r _ hR1).mono ?_
 rintro e w1 ⟨he,hQ⟩;obtain⟨x,hx⟩:∃x,x=Bh r:=⟨_,rfl⟩;rw[<-hx]at he hQ;have HX:=Zh hx.symm;clear hx;subst he;obtain⟨av,rr⟩:=x;simp only at hQ
 have hbr:=(hQ.keeps hb hne).alloc (.cells av.vals.toArray 45);have hbp:=Blk.new w1 45 av.vals;have hQ1:=(A6.behind hB hQ).new ((Below.refl _ _).alloc (Nat.le_refl _) (.cells av.vals.toArray 45));clear hQ hb;obtain⟨w2,hw2⟩:∃w2,w2=w1.alloc (.cells av.vals.toArray 45):=⟨_,rfl⟩;rw[<-hw2]at hbr hbp hQ1;have HW2:=Zh hw2;clear hw2
 go_upto_region 2 with (first|(refine Dh (by rfl) (by rfl) 45 (by rfl) _ _ (by rfl) av.vals Akz (by rfl) (by rfl) (Ah.one _) (by rfl) (by rfl) ?_;rw[<-HW2.out])|fail)
 have hEc:=A6.err hQ1.1;have rp:rowOf w2 (w1.heap.size) 0 11=some av.vals.toArray:=hbp.row 0 11 (by simp[Ah.len]);by_cases hE:rr.e=0
 ·have hE':(rr.e != 0)=false:=by simpa using hE
  have HE:=Zh hE;clear hE;go_wp2_with fail;refine(Ku av _).mono ?_
  rintro e w7 ⟨rfl,hb⟩;have hs:=Stb.of hb;have hlp:=hbp.lt;have hb7:=hbr.stays hb;have hQ7:=hQ1.new hb;clear hb hQ1;cases ho:av.ok
  ·have HN:=Zh (show Cf Ah.ok Bb (av,rr)=(Bb,14) by simp[Cf,HE.out,ho])
   have HQ:=Zh (A6.lay (cs:=Bb.vals) hQ7 hb7 rfl hne (Nat.le_refl _));clear ho hQ7
   go_wp2_with (first|(refine Ae (by rfl) 45 _ _ (by rfl) w.heap.size Bb.vals _ hb7 (by rfl) (by rfl) (by rfl) (by kernel_rfl) (Ah.one _) ?_)|fail)
   refine Ap w.heap.size 0 Bb.vals (.int .i64 14) Tryz.results152 Tryz.underlying45 rfl (by kernel_rfl) rfl rfl HQ.out.2.range rfl ?_
   rw[HX.out,HN.out];exact⟨rfl,HQ.out.1⟩
  ·have HN:=Zh (show Cf Ah.ok Bb (av,rr)=(av,0) by simp[Cf,HE.out,ho])
   have HQ:=Zh (A6.lay (cs:=av.vals) hQ7 hb7 rfl hne (Nat.le_refl _));clear ho hQ7
   go_wp2_with (first|(refine Ae (by rfl) 45 _ _ (by rfl) w.heap.size av.vals _ hb7 (by rfl) (by rfl) (by rfl) (by kernel_rfl) (Ah.one _) ?_)|fail)
   refine Ap w.heap.size 0 av.vals (.int .i64 0) Tryz.results152 Tryz.underlying45 rfl (by kernel_rfl) rfl rfl HQ.out.2.range rfl ?_
   rw[HX.out,HN.out];exact⟨rfl,HQ.out.1⟩
 ·have hE':(rr.e != 0)=true:=by simpa using hE
  have HN:=Zh (show Cf Ah.ok Bb (av,rr)=(Bb,rr.e) by simp[Cf,hE]);have hc:=hbr.cell;have hf:=hbr.frozen;have HQ:=Zh (A6.lay (cs:=Bb.vals) hQ1 hbr rfl hne (Nat.le_refl _));clear hE hQ1;go_wp2;go_region;change Exit.then _ _ _ _ ((w2.setCells w.heap.size 0 Bb.vals).drew);go_wp2;refine Ap w.heap.size 0 Bb.vals (.int .i64 rr.e) Tryz.results152 Tryz.underlying45 rfl (by kernel_rfl) rfl rfl HQ.out.2.drew.range rfl ?_
  rw[HX.out,HN.out];exact⟨rfl,HQ.out.1.drew⟩
theorem Sn (g:Nat)(r:Rs)(w:World)(hR:RdF w g r) :
  Calls Tryz.prog 153 #[.pointer (some ⟨g,0,none⟩)] w (Oj g (Ei r).2 (Qu (Cf Wcc.ok Df (Ei r)).1.vals (Cf Wcc.ok Df (Ei r)).2) w):=by
 obtain⟨hbr,hbp,hB,hsz⟩:=A7 w Df.vals Df.vals 47 47;have hR1:=hR.stays hB;have hQ1:=A6.behind hB (A6.refl hR1);have hne:w.heap.size≠g:=Nat.ne_of_gt hR.lt;have hne1:w.heap.size+1≠g:=by have:=hR.lt;omega
 clear hR hR1;go_enter Tryz.func153,Tryz.ntmps153
 go_wp2_with fail;change Calls _ _ _ ((w.alloc (.cells Df.vals.toArray 47)).alloc (.cells Df.vals.toArray 47)) _;generalize (w.alloc (.cells Df.vals.toArray 47)).alloc (.cells Df.vals.toArray 47)=W0 at *;refine(It g r _ hQ1.1).mono ?_
 rintro e v0 ⟨he,hQ⟩;obtain⟨x0,hx0⟩:∃x,x=Fp r:=⟨_,rfl⟩;rw[<-hx0]at he hQ;have HX0:=Zh hx0.symm;clear hx0;subst he;obtain⟨a0,r0⟩:=x0;simp only at hQ
 have hbr':=Blk.Fk (g:=w.heap.size) (b:=w.heap.size+1) (by omega) (Dj a0) 0 _ (hQ.keeps hbr hne);have hbp0:=hQ.keeps hbp hne1;have hbp':=hbp0.Ml (Dj a0) _ 0;rw[show setAt _ 0 (Dj a0)=(Wcc.mk (D1 a0) Bb).vals from rfl]at hbp';have hq:=hQ1.trans hQ;have hQ':A6 g r0 w (v0.setCells (w.heap.size+1) 0 (Dj a0)):=⟨hq.1.Ak (Touch.setCells (F:=fun i=>i=w.heap.size+1) (.inl rfl) _ 0 v0 (Touch.refl _ _)) (fun hh=>hne1 hh.symm),Touch.setCells (.inr (by omega)) _ 0 v0 hq.2⟩;obtain⟨W0,hW0⟩:∃W,W=v0.setCells (w.heap.size+1) 0 (Dj a0):=⟨_,rfl⟩;rw[<-hW0]at hbr' hbp' hQ';have HW0:=Zh hW0;clear hbr hbp hQ1 hQ hq hW0;have hbr:=hbr';have hbp:=hbp';have hQ1:=hQ';clear hbr' hbp' hQ'
 go_wp2_with (first|(refine Ax (by rfl) 32 _ _ (by rfl) (w.heap.size+1) 0 (Dj a0) _ hbp0 (by simp[Wcc.len,Dj]) (by rfl) (by rfl) (by kernel_rfl) (Iu _) ?_;rw[<-HW0.out])|fail)
 clear hbp0;refine(Vk g r0 _ hQ1.1).mono ?_
 rintro e v1 ⟨he,hQ⟩;obtain⟨x1,hx1⟩:∃x,x=Bh r0:=⟨_,rfl⟩;rw[<-hx1]at he hQ;have HX1:=Zh hx1.symm;clear hx1;subst he;obtain⟨a1,r1⟩:=x1;simp only at hQ
 have hbr':=Blk.Fk (g:=w.heap.size) (b:=w.heap.size+1) (by omega) a1.vals 2 _ (hQ.keeps hbr hne);have hbp0:=hQ.keeps hbp hne1;have hbp':=hbp0.Ml a1.vals _ 2;rw[show setAt _ 2 a1.vals=(Wcc.mk (D1 a0) a1).vals from rfl]at hbp';have hq:=hQ1.trans hQ;have hQ':A6 g r1 w (v1.setCells (w.heap.size+1) 2 a1.vals):=⟨hq.1.Ak (Touch.setCells (F:=fun i=>i=w.heap.size+1) (.inl rfl) _ 2 v1 (Touch.refl _ _)) (fun hh=>hne1 hh.symm),Touch.setCells (.inr (by omega)) _ 2 v1 hq.2⟩;obtain⟨W1,hW1⟩:∃W,W=v1.setCells (w.heap.size+1) 2 a1.vals:=⟨_,rfl⟩;rw[<-hW1]at hbr' hbp' hQ';have HW1:=Zh hW1;clear hbr hbp hQ1 hQ hq hW1;have hbr:=hbr';have hbp:=hbp';have hQ1:=hQ';clear hbr' hbp' hQ'
 go_upto_region 4 with (first|(refine Ax (by rfl) 45 _ _ (by rfl) (w.heap.size+1) 2 a1.vals _ hbp0 (by simp[Wcc.len,Ah.len]) (by rfl) (by rfl) (by kernel_rfl) (Ah.one _) ?_;rw[<-HW1.out])|fail)
 clear hbp0;have HX:=Zh (show Ei r=(Wcc.mk (D1 a0) a1,r1) by unfold Ei;rw[HX0.out];simp only;rw[HX1.out]);clear HX0 HX1 HW0;obtain⟨cv,hcv⟩:∃c,c=Wcc.mk (D1 a0) a1:=⟨_,rfl⟩;rw[<-hcv]at HX hbp;clear hcv;have hEc:=A6.err hQ1.1;have rp:rowOf W1 (w.heap.size+1) 0 13=some cv.vals.toArray:=hbp.row 0 13 (by simp[Wcc.len]);by_cases hE:r1.e=0
 ·have hE':(r1.e != 0)=false:=by simpa using hE
  have HE:=Zh hE;clear hE;go_wp2_with fail;refine(Q8 cv _).mono ?_
  rintro e w7 ⟨rfl,hb⟩;have hs:=Stb.of hb;have hlp:=hbp.lt;have hb7:=hbr.stays hb;have hQ7:=hQ1.new hb;clear hb hQ1;cases ho:cv.ok
  ·have HN:=Zh (show Cf Wcc.ok Df (cv,r1)=(Df,14) by simp[Cf,HE.out,ho])
   have HQ:=Zh (A6.lay (cs:=Df.vals) hQ7 hb7 rfl hne (Nat.le_refl _));clear ho hQ7
   go_wp2_with (first|(refine Ae (by rfl) 47 _ _ (by rfl) w.heap.size Df.vals _ hb7 (by rfl) (by rfl) (by rfl) (by kernel_rfl) (Wcc.one _) ?_)|fail)
   refine Ap w.heap.size 0 Df.vals (.int .i64 14) Tryz.results153 Tryz.underlying47 rfl (by kernel_rfl) rfl rfl HQ.out.2.range rfl ?_
   rw[HX.out,HN.out];exact⟨rfl,HQ.out.1⟩
  ·have HN:=Zh (show Cf Wcc.ok Df (cv,r1)=(cv,0) by simp[Cf,HE.out,ho])
   have HQ:=Zh (A6.lay (cs:=cv.vals) hQ7 hb7 rfl hne (Nat.le_refl _));clear ho hQ7
   go_wp2_with (first|(refine Ae (by rfl) 47 _ _ (by rfl) w.heap.size cv.vals _ hb7 (by rfl) (by rfl) (by rfl) (by kernel_rfl) (Wcc.one _) ?_)|fail)
   refine Ap w.heap.size 0 cv.vals (.int .i64 0) Tryz.results153 Tryz.underlying47 rfl (by kernel_rfl) rfl rfl HQ.out.2.range rfl ?_
   rw[HX.out,HN.out];exact⟨rfl,HQ.out.1⟩
 ·have hE':(r1.e != 0)=true:=by simpa using hE
  have HN:=Zh (show Cf Wcc.ok Df (cv,r1)=(Df,r1.e) by simp[Cf,hE]);have hc:=hbr.cell;have hf:=hbr.frozen;have HQ:=Zh (A6.lay (cs:=Df.vals) hQ1 hbr rfl hne (Nat.le_refl _));clear hE hQ1;go_wp2;go_region;change Exit.then _ _ _ _ ((W1.setCells w.heap.size 0 Df.vals).drew);go_wp2;refine Ap w.heap.size 0 Df.vals (.int .i64 r1.e) Tryz.results153 Tryz.underlying47 rfl (by kernel_rfl) rfl rfl HQ.out.2.drew.range rfl ?_
  rw[HX.out,HN.out];exact⟨rfl,HQ.out.1.drew⟩
theorem Ye (g:Nat)(r:Rs)(w:World)(hR:RdF w g r) :
  Calls Tryz.prog 57 #[.pointer (some ⟨g,0,none⟩)] w (Oj g (Ow r).2 (Qu (Cf Ac.ok Eg (Ow r)).1.vals (Cf Ac.ok Eg (Ow r)).2) w):=by
 obtain⟨hbr,hbp,hB,hsz⟩:=A7 w Eg.vals Eg.vals 34 34;have hR1:=hR.stays hB;have hQ1:=A6.behind hB (A6.refl hR1);have hne:w.heap.size≠g:=Nat.ne_of_gt hR.lt;have hne1:w.heap.size+1≠g:=by have:=hR.lt;omega
 clear hR hR1;go_enter Tryz.func57,Tryz.ntmps57
 go_wp2_with fail;change Calls _ _ _ ((w.alloc (.cells Eg.vals.toArray 34)).alloc (.cells Eg.vals.toArray 34)) _;generalize (w.alloc (.cells Eg.vals.toArray 34)).alloc (.cells Eg.vals.toArray 34)=W0 at *;refine(It g r _ hQ1.1).mono ?_
 rintro e v0 ⟨he,hQ⟩;obtain⟨x0,hx0⟩:∃x,x=Fp r:=⟨_,rfl⟩;rw[<-hx0]at he hQ;have HX0:=Zh hx0.symm;clear hx0;subst he;obtain⟨a0,r0⟩:=x0;simp only at hQ
 have hbr':=Blk.Fk (g:=w.heap.size) (b:=w.heap.size+1) (by omega) (Dj a0) 0 _ (hQ.keeps hbr hne);have hbp0:=hQ.keeps hbp hne1;have hbp':=hbp0.Ml (Dj a0) _ 0;rw[show setAt _ 0 (Dj a0)=(E3 Eg (D1 a0) 0).vals from rfl]at hbp';have hq:=hQ1.trans hQ;have hQ':A6 g r0 w (v0.setCells (w.heap.size+1) 0 (Dj a0)):=⟨hq.1.Ak (Touch.setCells (F:=fun i=>i=w.heap.size+1) (.inl rfl) _ 0 v0 (Touch.refl _ _)) (fun hh=>hne1 hh.symm),Touch.setCells (.inr (by omega)) _ 0 v0 hq.2⟩;obtain⟨W0,hW0⟩:∃W,W=v0.setCells (w.heap.size+1) 0 (Dj a0):=⟨_,rfl⟩;rw[<-hW0]at hbr' hbp' hQ';have HW0:=Zh hW0;clear hbr hbp hQ1 hQ hq hW0;have hbr:=hbr';have hbp:=hbp';have hQ1:=hQ';clear hbr' hbp' hQ'
 go_wp2_with (first|(refine Ax (by rfl) 32 _ _ (by rfl) (w.heap.size+1) 0 (Dj a0) _ hbp0 (by simp[Ac.len,Dj]) (by rfl) (by rfl) (by kernel_rfl) (Iu _) ?_;rw[<-HW0.out])|fail)
 clear hbp0;refine(It g r0 _ hQ1.1).mono ?_
 rintro e v1 ⟨he,hQ⟩;obtain⟨x1,hx1⟩:∃x,x=Fp r0:=⟨_,rfl⟩;rw[<-hx1]at he hQ;have HX1:=Zh hx1.symm;clear hx1;subst he;obtain⟨a1,r1⟩:=x1;simp only at hQ
 have hbr':=Blk.Fk (g:=w.heap.size) (b:=w.heap.size+1) (by omega) (Dj a1) 2 _ (hQ.keeps hbr hne);have hbp0:=hQ.keeps hbp hne1;have hbp':=hbp0.Ml (Dj a1) _ 2;rw[show setAt _ 2 (Dj a1)=(E3 (E3 Eg (D1 a0) 0) (D1 a1) 1).vals from rfl]at hbp';have hq:=hQ1.trans hQ;have hQ':A6 g r1 w (v1.setCells (w.heap.size+1) 2 (Dj a1)):=⟨hq.1.Ak (Touch.setCells (F:=fun i=>i=w.heap.size+1) (.inl rfl) _ 2 v1 (Touch.refl _ _)) (fun hh=>hne1 hh.symm),Touch.setCells (.inr (by omega)) _ 2 v1 hq.2⟩;obtain⟨W1,hW1⟩:∃W,W=v1.setCells (w.heap.size+1) 2 (Dj a1):=⟨_,rfl⟩;rw[<-hW1]at hbr' hbp' hQ';have HW1:=Zh hW1;clear hbr hbp hQ1 hQ hq hW1;have hbr:=hbr';have hbp:=hbp';have hQ1:=hQ';clear hbr' hbp' hQ'
 go_wp2_with (first|(refine Ax (by rfl) 32 _ _ (by rfl) (w.heap.size+1) 2 (Dj a1) _ hbp0 (by simp[Ac.len,Dj]) (by rfl) (by rfl) (by kernel_rfl) (Iu _) ?_;rw[<-HW1.out])|fail)
 clear hbp0;refine(It g r1 _ hQ1.1).mono ?_
 rintro e v2 ⟨he,hQ⟩;obtain⟨x2,hx2⟩:∃x,x=Fp r1:=⟨_,rfl⟩;rw[<-hx2]at he hQ;have HX2:=Zh hx2.symm;clear hx2;subst he;obtain⟨a2,r2⟩:=x2;simp only at hQ
 have hbr':=Blk.Fk (g:=w.heap.size) (b:=w.heap.size+1) (by omega) (Dj a2) 4 _ (hQ.keeps hbr hne);have hbp0:=hQ.keeps hbp hne1;have hbp':=hbp0.Ml (Dj a2) _ 4;rw[show setAt _ 4 (Dj a2)=(E3 (E3 (E3 Eg (D1 a0) 0) (D1 a1) 1) (D1 a2) 2).vals from rfl]at hbp';have hq:=hQ1.trans hQ;have hQ':A6 g r2 w (v2.setCells (w.heap.size+1) 4 (Dj a2)):=⟨hq.1.Ak (Touch.setCells (F:=fun i=>i=w.heap.size+1) (.inl rfl) _ 4 v2 (Touch.refl _ _)) (fun hh=>hne1 hh.symm),Touch.setCells (.inr (by omega)) _ 4 v2 hq.2⟩;obtain⟨W2,hW2⟩:∃W,W=v2.setCells (w.heap.size+1) 4 (Dj a2):=⟨_,rfl⟩;rw[<-hW2]at hbr' hbp' hQ';have HW2:=Zh hW2;clear hbr hbp hQ1 hQ hq hW2;have hbr:=hbr';have hbp:=hbp';have hQ1:=hQ';clear hbr' hbp' hQ'
 go_wp2_with (first|(refine Ax (by rfl) 32 _ _ (by rfl) (w.heap.size+1) 4 (Dj a2) _ hbp0 (by simp[Ac.len,Dj]) (by rfl) (by rfl) (by kernel_rfl) (Iu _) ?_;rw[<-HW2.out])|fail)
 clear hbp0;refine(It g r2 _ hQ1.1).mono ?_
 rintro e v3 ⟨he,hQ⟩;obtain⟨x3,hx3⟩:∃x,x=Fp r2:=⟨_,rfl⟩;rw[<-hx3]at he hQ;have HX3:=Zh hx3.symm;clear hx3;subst he;obtain⟨a3,r3⟩:=x3;simp only at hQ
 have hbr':=Blk.Fk (g:=w.heap.size) (b:=w.heap.size+1) (by omega) (Dj a3) 6 _ (hQ.keeps hbr hne);have hbp0:=hQ.keeps hbp hne1;have hbp':=hbp0.Ml (Dj a3) _ 6;rw[show setAt _ 6 (Dj a3)=(E3 (E3 (E3 (E3 Eg (D1 a0) 0) (D1 a1) 1) (D1 a2) 2) (D1 a3) 3).vals from rfl]at hbp';have hq:=hQ1.trans hQ;have hQ':A6 g r3 w (v3.setCells (w.heap.size+1) 6 (Dj a3)):=⟨hq.1.Ak (Touch.setCells (F:=fun i=>i=w.heap.size+1) (.inl rfl) _ 6 v3 (Touch.refl _ _)) (fun hh=>hne1 hh.symm),Touch.setCells (.inr (by omega)) _ 6 v3 hq.2⟩;obtain⟨W3,hW3⟩:∃W,W=v3.setCells (w.heap.size+1) 6 (Dj a3):=⟨_,rfl⟩;rw[<-hW3]at hbr' hbp' hQ';have HW3:=Zh hW3;clear hbr hbp hQ1 hQ hq hW3;have hbr:=hbr';have hbp:=hbp';have hQ1:=hQ';clear hbr' hbp' hQ'
 go_wp2_with (first|(refine Ax (by rfl) 32 _ _ (by rfl) (w.heap.size+1) 6 (Dj a3) _ hbp0 (by simp[Ac.len,Dj]) (by rfl) (by rfl) (by kernel_rfl) (Iu _) ?_;rw[<-HW3.out])|fail)
 clear hbp0;refine(It g r3 _ hQ1.1).mono ?_
 rintro e v4 ⟨he,hQ⟩;obtain⟨x4,hx4⟩:∃x,x=Fp r3:=⟨_,rfl⟩;rw[<-hx4]at he hQ;have HX4:=Zh hx4.symm;clear hx4;subst he;obtain⟨a4,r4⟩:=x4;simp only at hQ
 have hbr':=Blk.Fk (g:=w.heap.size) (b:=w.heap.size+1) (by omega) (Dj a4) 8 _ (hQ.keeps hbr hne);have hbp0:=hQ.keeps hbp hne1;have hbp':=hbp0.Ml (Dj a4) _ 8;rw[show setAt _ 8 (Dj a4)=(E3 (E3 (E3 (E3 (E3 Eg (D1 a0) 0) (D1 a1) 1) (D1 a2) 2) (D1 a3) 3) (D1 a4) 4).vals from rfl]at hbp';have hq:=hQ1.trans hQ;have hQ':A6 g r4 w (v4.setCells (w.heap.size+1) 8 (Dj a4)):=⟨hq.1.Ak (Touch.setCells (F:=fun i=>i=w.heap.size+1) (.inl rfl) _ 8 v4 (Touch.refl _ _)) (fun hh=>hne1 hh.symm),Touch.setCells (.inr (by omega)) _ 8 v4 hq.2⟩;obtain⟨W4,hW4⟩:∃W,W=v4.setCells (w.heap.size+1) 8 (Dj a4):=⟨_,rfl⟩;rw[<-hW4]at hbr' hbp' hQ';have HW4:=Zh hW4;clear hbr hbp hQ1 hQ hq hW4;have hbr:=hbr';have hbp:=hbp';have hQ1:=hQ';clear hbr' hbp' hQ'
 go_upto_region 7 with (first|(refine Ax (by rfl) 32 _ _ (by rfl) (w.heap.size+1) 8 (Dj a4) _ hbp0 (by simp[Ac.len,Dj]) (by rfl) (by rfl) (by kernel_rfl) (Iu _) ?_;rw[<-HW4.out])|fail)
 clear hbp0;have HX:=Zh (show Ow r=((E3 (E3 (E3 (E3 (E3 Eg (D1 a0) 0) (D1 a1) 1) (D1 a2) 2) (D1 a3) 3) (D1 a4) 4),r4) by simp only[Ow,Aaq,HX0.out,HX1.out,HX2.out,HX3.out,HX4.out]);clear HX0 HX1 HX2 HX3 HX4 HW0 HW1 HW2 HW3;obtain⟨cv,hcv⟩:∃c,c=(E3 (E3 (E3 (E3 (E3 Eg (D1 a0) 0) (D1 a1) 1) (D1 a2) 2) (D1 a3) 3) (D1 a4) 4):=⟨_,rfl⟩;rw[<-hcv]at HX hbp;clear hcv;have hEc:=A6.err hQ1.1;have rp:rowOf W4 (w.heap.size+1) 0 10=some cv.vals.toArray:=hbp.row 0 10 (by simp[Ac.len]);by_cases hE:r4.e=0
 ·have hE':(r4.e != 0)=false:=by simpa using hE
  have HE:=Zh hE;clear hE;go_wp2_with fail;refine(Yc cv _).mono ?_
  rintro e w7 ⟨rfl,hb⟩;have hs:=Stb.of hb;have hlp:=hbp.lt;have hb7:=hbr.stays hb;have hQ7:=hQ1.new hb;clear hb hQ1;cases ho:cv.ok
  ·have HN:=Zh (show Cf Ac.ok Eg (cv,r4)=(Eg,14) by simp[Cf,HE.out,ho])
   have HQ:=Zh (A6.lay (cs:=Eg.vals) hQ7 hb7 rfl hne (Nat.le_refl _));clear ho hQ7
   go_wp2_with (first|(refine Ae (by rfl) 34 _ _ (by rfl) w.heap.size Eg.vals _ hb7 (by rfl) (by rfl) (by rfl) (by kernel_rfl) (Ac.one _) ?_)|fail)
   refine Ap w.heap.size 0 Eg.vals (.int .i64 14) Tryz.results57 Tryz.underlying34 rfl (by kernel_rfl) rfl rfl HQ.out.2.range rfl ?_
   rw[HX.out,HN.out];exact⟨rfl,HQ.out.1⟩
  ·have HN:=Zh (show Cf Ac.ok Eg (cv,r4)=(cv,0) by simp[Cf,HE.out,ho])
   have HQ:=Zh (A6.lay (cs:=cv.vals) hQ7 hb7 rfl hne (Nat.le_refl _));clear ho hQ7
   go_wp2_with (first|(refine Ae (by rfl) 34 _ _ (by rfl) w.heap.size cv.vals _ hb7 (by rfl) (by rfl) (by rfl) (by kernel_rfl) (Ac.one _) ?_)|fail)
   refine Ap w.heap.size 0 cv.vals (.int .i64 0) Tryz.results57 Tryz.underlying34 rfl (by kernel_rfl) rfl rfl HQ.out.2.range rfl ?_
   rw[HX.out,HN.out];exact⟨rfl,HQ.out.1⟩
 ·have hE':(r4.e != 0)=true:=by simpa using hE
  have HN:=Zh (show Cf Ac.ok Eg (cv,r4)=(Eg,r4.e) by simp[Cf,hE]);have hc:=hbr.cell;have hf:=hbr.frozen;have HQ:=Zh (A6.lay (cs:=Eg.vals) hQ1 hbr rfl hne (Nat.le_refl _));clear hE hQ1;go_wp2;go_region;change Exit.then _ _ _ _ ((W4.setCells w.heap.size 0 Eg.vals).drew);go_wp2;refine Ap w.heap.size 0 Eg.vals (.int .i64 r4.e) Tryz.results57 Tryz.underlying34 rfl (by kernel_rfl) rfl rfl HQ.out.2.drew.range rfl ?_
  rw[HX.out,HN.out];exact⟨rfl,HQ.out.1.drew⟩
end
section
theorem Ea (l:List UInt8)(c:UInt8)(w:World)(hl:l.length<=1000):Calls Tryz.prog 167 #[.string (bs l),.int .u8 c.toNat] w fun e w'=>e=.returned (.bool (l.contains c))/\w=w':=by
 have hsz:=Au l;go_enter Tryz.func167,Tryz.ntmps167
 go_wp2
 go_loopw [5] (fun iv wr=>∃k:Nat,k<=l.length/\iv=.int .i64 k/\(∀j (hj:j<l.length),j<k->l[j]≠c)/\wr=w) (fun iv _=>l.length - (intOf iv).toNat)
 case atStart=>exact⟨0,Nat.zero_le _,rfl,fun _ _ h=>absurd h (Nat.not_lt_zero _),rfl⟩
 case round=>
  obtain⟨k,hk,rfl,hno,rfl⟩:=hrel;by_cases hlt:k<l.length
  ·by_cases he:l[k]=c
   ·have HC:=Zh (show l.contains c=true by rw[List.contains_iff_mem,<-he];exact List.getElem_mem hlt)
    have hq:((((bs l)[k]'(by rw[hsz];exact hlt)).toNat:Int)==(c.toNat:Int))=true:=by rw[Rw,he];simp
    go_wp2;go_ret;rw[HC.out];exact⟨rfl,rfl⟩
   ·have hq:((((bs l)[k]'(by rw[hsz];exact hlt)).toNat:Int)==(c.toNat:Int))=false:=beq_false_of_ne fun h=>he (UInt8.toNat_inj.1 (by rw[Rw]at h;omega))
    have HN:=Zh (show ∀j (hj:j<l.length),j<k+1->l[j]≠c from fun j hj h=>by
     rcases Nat.lt_or_ge j k with h3|h3
     ·exact hno j hj h3
     ·obtain rfl:j=k:=by omega
      exact he)
    clear hno;go_wp2;go_roundw
    case rel=>exact⟨k+1,by omega,by go_num,HN.out,trivial⟩
    case measure=>simp[intOf];omega
  ·obtain rfl:k=l.length:=by omega
   have HC:=Zh (show l.contains c=false by
    rw[<-Bool.not_eq_true,List.contains_iff_mem];intro hm;obtain⟨j,hj,e⟩:=List.getElem_of_mem hm;exact hno j hj hj e)
   clear hno;go_wp2;go_ret;rw[HC.out];exact⟨rfl,rfl⟩
theorem Yb (is:Bool)(l:List UInt8)(most:Int)(w:World):Calls Tryz.prog 166 #[.bool is,.string (bs l),.int .i64 most] w fun e w'=>e=.returned (.bool (if is then decide ((l.length:Int)<=most) else l==[]))/\w=w':=by
 have hsz:=Au l;cases is
 ·by_cases hl:l=[]
  ·subst hl
   go_enter Tryz.func166,Tryz.ntmps166
   go_wp2;go_ret;exact⟨rfl,rfl⟩
  ·have h2:(l==[])=false:=by simpa using hl
   go_enter Tryz.func166,Tryz.ntmps166
   go_wp2;go_ret;simp
 ·go_enter Tryz.func166,Tryz.ntmps166
  go_wp2;go_ret;exact⟨rfl,rfl⟩
theorem Adn (is:Bool)(n most:Int)(w:World):Calls Tryz.prog 168 #[.bool is,.int .i64 n,.int .i64 most] w fun e w'=>e=.returned (.bool (if is then decide (0<=n) && decide (n<=most) else n==0))/\w=w':=by
 cases is
 all_goals
  go_enter Tryz.func168,Tryz.ntmps168
  go_wp2
  all_goals (go_ret;go_light;exact⟨A5 (by grind),rfl⟩)
theorem Ab3 (p:Int)(w:World):Calls Tryz.prog 130 #[.int .i64 p] w fun e w'=>e=.returned (.bool (Ij p))/\w=w':=by
 go_enter Tryz.func130,Tryz.ntmps130
 go_wp2
 all_goals (go_ret;go_light;exact⟨A5 (by grind [Ij]),rfl⟩)
def Acr (x:Call):Bool:=decide (80<x.fh.length) || decide (80<x.fh2.length) || decide (300<x.name.length) || decide (300<x.name2.length) || decide (300<x.text.length) || decide (300<x.data.length)
theorem Z0 (x:Call)(w:World):Calls Tryz.prog 23 #[.agg x.vals.toArray] w fun e w'=>e=.returned (.bool (Acr x))/\Below w.heap.size w w':=by
 have hb:=Blk.new w 36 x.vals;have hc:=hb.cell;have hB:Below w.heap.size w (w.alloc (.cells x.vals.toArray 36)):=(Below.refl _ _).alloc (Nat.le_refl _) _;have h1:=Au x.fh;have h2:=Au x.fh2;have h3:=Au x.name;have h4:=Au x.name2;have h5:=Au x.text;have h6:=Au x.data;have HB:=Zh hB;clear hB hb;go_enter Tryz.func23,Tryz.ntmps23
 go_wp2
 all_goals (go_ret;go_light;exact⟨A5 (by grind [Acr]),HB.out⟩)
end
attribute [local go_sem] Attr.at0 Attr.Bo Attr.at1 Attr.Bk Attr.at2 Attr.Ca Attr.at3 Attr.Cg Attr.at4 Attr.Cx Attr.at5 Attr.Cw Attr.at6 Attr.Cv Attr.at7 Attr.Cu Attr.at8 Attr.Ct Attr.at9 Attr.Cs Attr.Cl Attr.B4 Attr.len Opt.at0 Opt.Bo Opt.at1 Opt.Bk Opt.Ch Opt.Br Opt.len Ah.at0 Ah.Bo Ah.at1 Ah.Bk Ah.at2 Ah.Ca Ah.at3 Ah.Cg Ah.at4 Ah.Cx Ah.at5 Ah.Cw Ah.at6 Ah.Cv Ah.at7 Ah.Cu Ah.at8 Ah.Ct Ah.at9 Ah.Cs Ah.Ee Ah.C4 Ah.Kp Ah.Iy Ah.Kn Ah.Iw Ah.len Wcc.at0 Wcc.Bo Wcc.at1 Wcc.Bk Wcc.at2 Wcc.Ca Wcc.at3 Wcc.Cg Wcc.at4 Wcc.Cx Wcc.at5 Wcc.Cw Wcc.at6 Wcc.Cv Wcc.at7 Wcc.Cu Wcc.at8 Wcc.Ct Wcc.at9 Wcc.Cs Wcc.Ee Wcc.C4 Wcc.Fm Wcc.Dm Wcc.Fl Wcc.Dl Wcc.Ko Wcc.Ix Wcc.Ch Wcc.Br Wcc.Fa Wcc.Ec Wcc.E9 Wcc.Eb Wcc.len
section
def Attr.bytes (a:Attr):List UInt8:=
 num a.type.toNat 4++num a.mode.toNat 4++num a.nlink.toNat 4++num a.uid.toNat 4++num a.gid.toNat 4++num a.size.toNat 8++num a.id.toNat 4++num a.gen.toNat 8++num a.change.toNat 8++num a.time.toNat 8
theorem Attr.Dk (a:Attr):a.bytes.length=56:=by simp[Attr.bytes,Ce]
theorem Attr.nats {a:Attr}(h:a.ok=true)(hg:a.C9):∃t m k u g s i n c z:Nat,a=⟨t,m,k,u,g,s,i,n,c,z⟩/\(∀x∈[t,m,k,u,g,i],x<4294967296)/\∀x∈[s,n,c,z],(x:Int)<=9223372036854775807:=by
 obtain⟨t,m,k,u,g,s,i,n,c,z⟩:=a;simp only[Attr.ok,okN,Bool.and_eq_true,decide_eq_true_eq]at h;obtain⟨g0,g1,g2,g3,g4,g5,g6,g7,g8,g9⟩:=hg;have g5:=Go.bounds_i64 g5;have g7:=Go.bounds_i64 g7;have g8:=Go.bounds_i64 g8;have g9:=Go.bounds_i64 g9;simp only at h g5 g7 g8 g9
 refine⟨t.toNat,m.toNat,k.toNat,u.toNat,g.toNat,s.toNat,i.toNat,n.toNat,c.toNat,z.toNat,?_,?_,?_⟩
 ·simp only[Attr.mk.injEq];omega
 ·intro x hx
  simp only[List.mem_cons,List.not_mem_nil,or_false]at hx;omega
 ·intro x hx
  simp only[List.mem_cons,List.not_mem_nil,or_false]at hx;omega
end
end Go.Proofs.YtfjflkmhhbhceaaGreatDoor
