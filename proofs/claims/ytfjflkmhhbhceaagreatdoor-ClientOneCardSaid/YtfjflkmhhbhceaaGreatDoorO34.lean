/-
  Layer 33, walks: a new client. No condition.
-/
import Derived.Test.YtfjflkmhhbhceaaGreatDoorO28
import Derived.Test.YtfjflkmhhbhceaaGreatDoorO33
import Derived.Deep.RegionWith
set_option maxRecDepth 20000
set_option maxHeartbeats 40000000
namespace Go.Proofs.YtfjflkmhhbhceaaGreatDoor
open Go.RowKit
attribute [local go_sem ↓] Go.wp_at_zero Go.wp_at_succ
attribute [local go_sem] Ai Ag Af Ab Aj
section
attribute [local go_sem ↓] Up
attribute [local go_sem] Bv Bj Cc Bu Cd Cj Cm C2 Bc Dt C8 C7 Dz D5
attribute [local go_sem low] Cr
def Qd (id self server:Int)(k:Nat):Di:=
 ⟨id,self,server,if 0<k then ⟨Mn,1,0,[]⟩ else Rh,if 1<k then ⟨Mn,1,0,[]⟩ else Rh,if 2<k then ⟨Mn,1,0,[]⟩ else Rh,if 3<k then ⟨Mn,1,0,[]⟩ else Rh,none,0,0,T4,false,G4,0,0,none,0,0⟩
theorem Aed (id self server:Int){k:Nat}(hk:k<4):setAt (Qd id self server k).vals (3+k*4) (Hl.mk Mn 1 0 []).vals=(Qd id self server (k+1)).vals:=by
 rcases (show k=0\/k=1\/k=2\/k=3 by omega) with rfl|rfl|rfl|rfl<;>rfl
theorem Aa3 (id self server:Int)(w:World)(hid:1<=id/\id<=4) :
  Calls Tryz.prog 8 #[.int .i64 id,.int .i64 self,.int .i64 server] w fun e w'=>∃g,e=.returned (.tuple #[.pointer (some ⟨g,0,none⟩),.int .i64 0])/\w.heap.size<=g/\g<w'.heap.size/\D3 (fun k=>k=g) w' g (Wz id self server Mn) (Qd id self server 4) []/\Below w.heap.size w w':=by
 have KR:=Zh Ahn;have b0:=Blk.new w 93 (Qd id self server 0).vals;have hB0:Below w.heap.size w (w.alloc (.cells (Qd id self server 0).vals.toArray 93)):=(Below.refl _ _).alloc (Nat.le_refl _) _;obtain⟨w0,hw0⟩:∃V,V=w.alloc (.cells (Qd id self server 0).vals.toArray 93):=⟨_,rfl⟩;rw[<-hw0]at b0 hB0;have HW:=Zh hw0;have HB0:=Zh hB0;have Hb0:=Zh b0;clear hw0 b0 hB0;go_enter Tryz.func8,Tryz.ntmps8
 go_upto_region 4 with fail;change Code.wp _ _ _ _ (w.alloc (.cells (Qd id self server 0).vals.toArray 93));rw[<-HW.out];go_wp2
 go_loopw [21] (fun i wr=>∃k:Nat,k<=4/\i=.int .i64 k/\Blk wr w.heap.size 93 (Qd id self server k).vals/\Below w.heap.size w wr) (fun i _=>4 - (intOf i).toNat)
 case atStart=>exact⟨0,Nat.zero_le _,rfl,Hb0.out,HB0.out⟩
 case round=>
  obtain⟨k,hk,rfl,hb,hB⟩:=hrel;by_cases hlt:k<4
  ·have hk0:(0:Int)<=(k:Int):=Int.natCast_nonneg _
   have hk1:(k:Int)<4:=by omega
   have htB:=fun (W:World) (h:Below wr.heap.size wr W)=>(hb.stays h).Ar (3+k*4) 4 (by show 3+k*4+4<=56;omega)
   have Hb:=Zh hb;have HB:=Zh hB;clear hb hB;go_wp2_with fail;go_region_with (go_at_call 27;refine(KR.out _).mono ?_;rintro e w5 ⟨rfl,hb5⟩;have hb6:=Ad (Below.refl wr.heap.size wr).drew hb5;have t5:=htB _ hb6)
   go_wp2;go_roundw
   case rel=>
    have bw:=(Hb.out.stays hb6).D2 (3+k*4) (Hl.mk Mn 1 0 []).vals;rw[Aed id self server hlt]at bw;refine⟨k+1,by omega,by go_num,bw,?_⟩
    rw[B9];exact Below.setCells (Nat.le_refl _) _ _ _ (Ad HB.out hb6)
   case measure=>simp[intOf];omega
  ·obtain rfl:k=4:=by omega
   have hlt:=hb.lt;have HC:=Zh (show D3 (fun k=>k=w.heap.size) wr w.heap.size (Wz id self server Mn) (Qd id self server 4) [] from
    ⟨hb,⟨rfl,rfl,rfl,rfl,rfl,rfl,rfl,rfl,rfl⟩,Fs.none_ _ _ rfl,⟨As.none_,fun k hk=>(by cases hk),rfl,fun i h=>absurd h (Nat.not_lt_zero _)⟩,rfl,fun k hk=>by subst hk;exact hlt⟩)
   have HB:=Zh hB;clear hb hB;go_wp2;go_ret2
   exact⟨_,rfl,Nat.le_refl _,hlt,HC.out,HB.out⟩
end
end Go.Proofs.YtfjflkmhhbhceaaGreatDoor
