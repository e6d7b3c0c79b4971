/-
  Layer 3, walks of the document's own: a number's digits, which parts may be, their bytes and their text. Condition: machine numbers.
-/
import Derived.Test.YtfjflkmhhbhceaaGreatDoorO33
import Derived.Test.YtfjflkmhhbhceaaGreatDoorO05
import Derived.Test.YtfjflkmhhbhceaaGreatDoorO03
import Derived.Lib.ItoaLen
set_option maxRecDepth 20000
set_option maxHeartbeats 40000000
namespace Go.Proofs.YtfjflkmhhbhceaaGreatDoor
open Go.RowKit
attribute [local go_sem ↓] Go.wp_at_zero Go.wp_at_succ
attribute [local go_sem] Ai Ag Af Ab Aj
attribute [local go_sem] Bx.at0 Bx.Bo Bx.at1 Bx.Bk Bx.at2 Bx.Ca Bx.Aby Bx.Xq Bx.len
section
def Ah0:List UInt8:=[48,49,50,51,52,53,54,55,56,57]
theorem Ald {n:Nat}(h:n<10):(bs Ah0).extract n (n+1)=bs [UInt8.ofNat (48+n)]:=by
 have e:∀n:Fin 10,(Ah0.drop n.val).take 1=[UInt8.ofNat (48+n.val)]:=by decide
 rw[Arb,show n+1 - n=1 by omega];exact congrArg bs (e ⟨n,h⟩)
theorem Z9 {n:Nat}(h:(n:Int)<=9223372036854775807):(Lib.decDigits n).length<=21:=by
 have:=Lib.itoa_length_le (n:Int) (by omega) h
 rwa [Lib.itoa_nonneg]at this
theorem Wx (n:Nat)(w:World)(hn:(n:Int)<=9223372036854775807):Calls Tryz.prog 132 #[.int .i64 (n:Int)] w fun e w'=>e=.returned (.string (bs (Lib.decDigits n)))/\w=w':=by
 have hl:=Z9 hn;obtain⟨D,hD⟩:∃D,D=Lib.decDigits n:=⟨_,rfl⟩;rw[<-hD]at hl ⊢;have H0:=Zh (show Lib.decDigits n++[]=D by rw[hD,List.append_nil]);clear hD;go_enter Tryz.func132,Tryz.ntmps132
 go_wp2
 go_loop [0,3] (fun nv sv=>∃(m:Nat) (acc:List UInt8),m<=n/\nv=.int .i64 (m:Int)/\sv=.string (bs acc)/\Lib.decDigits m++acc=D) (fun nv _=>(intOf nv).toNat)
 case atStart=>exact⟨n,[],Nat.le_refl _,rfl,rfl,H0.out⟩
 case round=>
  clear H0;obtain⟨m,acc,hmn,rfl,rfl,heq⟩:=hrel;have hacc:acc.length<=21:=by have:=congrArg List.length heq;rw[List.length_append]at this;omega
  have hz:=Au acc;obtain⟨r,hr⟩:∃r,r=m % 10:=⟨_,rfl⟩;obtain⟨q,hq⟩:∃q,q=m / 10:=⟨_,rfl⟩;have hm0:(0:Int)<=(m:Int):=Int.natCast_nonneg _;have hm9:(m:Int)<=9223372036854775807:=by omega
  have e1:(m:Int) % 10=(r:Int):=by omega
  have e2:(m:Int) / 10=(q:Int):=by omega
  have hr10:r<10:=by omega
  have e3:IntKind.i64.wrap ((r:Int)+1)=(r:Int)+1:=IntWalk.i64_in _ (by omega);have p1:(0:Int)<=(r:Int)+1:=by omega
  have p2:(r:Int)+1<=10:=by omega
  have p3:(0:Int)<=(r:Int):=by omega
  have p4:(r:Int)<=(r:Int)+1:=by omega
  have HC:=Zh (show (bs Ah0).extract r (r+1)++bs acc=bs ([UInt8.ofNat (48+r)]++acc) by rw[Ald hr10,Bl]);by_cases hq0:q<1
  ·have HV:=Zh (show [UInt8.ofNat (48+r)]++acc=D by
    rw[<-heq,Lib.decDigits,dif_pos (show m<10 by omega),show r=m by omega])
   have hq1:(q:Int)<1:=by omega
   clear heq hr hq;go_wp2;go_ret;exact⟨by rw[<-HV.out,<-HC.out];rfl,rfl⟩
  ·have HV:=Zh (show Lib.decDigits q++([UInt8.ofNat (48+r)]++acc)=D by
    rw[<-heq,Lib.decDigits.eq_def m,dif_neg (show ¬m<10 by omega),<-hr,<-hq,List.append_assoc])
   have hq1:¬(q:Int)<1:=by omega
   have hqm:q<m:=by omega
   clear heq hr hq;go_wp2;go_round
   case rel=>exact⟨q,[UInt8.ofNat (48+r)]++acc,by omega,rfl,by rw[<-HC.out];rfl,HV.out⟩
   case measure=>simp[intOf];omega
end
section
def Ap2:Option Value->Option Value
 |some (.int .u8 x)=>some (.string (bs [UInt8.ofNat x.toNat]))
 |_=>none
def Ap1 (w:World):Value->Option Value
 |.slice (some ⟨b,o,none⟩) 1 _=>Ap2 (w.cell? ⟨b,o,none⟩)
 |_=>none
theorem Yq (w:World)(b o c:Nat):Ap1 w (.slice (some ⟨b,o,none⟩) 1 c)=Ap2 (w.cell? ⟨b,o,none⟩):=rfl
theorem Aea (x:Int):Ap2 (some (.int .u8 x))=some (.string (bs [UInt8.ofNat x.toNat])):=rfl
theorem Arw (y:Int):strOfNums [y]=bs [UInt8.ofNat y.toNat]:=by
 unfold strOfNums bs;congr 1
theorem As5 {ρ:Operand->Value}{w:World}{dst:Option Tmp}{ty:TypeId}{pos:String}{after:Array Edge}{g:Option (Nat × Bool)}{x:Operand}(h:(Ap1 w (ρ x)).isSome=true) :
  (execOp ρ ⟨dst,Acl 124 9 x,ty,pos,after,g⟩).run Tryz.prog w=.ok (.value ((Ap1 w (ρ x)).getD (.bool false))) w:=by
 unfold Acl;generalize hv:ρ x=v at h;unfold Ap1 at h;split at h
 case h_2=>cases h
 rename_i b o c
 unfold Ap2 at h;split at h
 case h_2=>cases h
 rename_i y hy
 have:=run_convert_bytes_arg (P:=Tryz.prog) w 124 5 Tryz.underlying124 Tryz.underlying5 b o 1 c [y] rfl (fun i hi=>by
  obtain rfl:i=0:=by omega
  exact hy) 9 Tryz.underlying9
 rw[Yq,hy,Aea,Option.getD_some];unfold execOp;simp only[hv,Sem.run_bind,Sem.run_pure,Result.andThen_ok,this,Arw]
attribute [local go_sem ↓] As5
attribute [local go_sem] Yq Aea
theorem Anz {k a b:Nat}(hk:k=1\/k=2):bs [UInt8.ofNat k]++bs [0,0,0]++bs (num a 4)++bs (num b 8)=bs (fhB ⟨(k:Int),(a:Int),(b:Int)⟩):=by
 unfold fhB;simp only[Int.toNat_natCast];rw[Akp _ (by omega),Bl,Bl,Bl];simp
theorem Ana {w:World}{o:Obj}{n:Nat}(h:(w.alloc o).drew.heap.size<=n):w.heap.size<n:=Nat.lt_of_lt_of_le (by simp) h
theorem Ab4 (k a b:Nat)(w:World)(hk:k=1\/k=2)(ha:a<=4294967295)(hb:(b:Int)<=9223372036854775807) :
  Calls Tryz.prog 28 #[.int .i64 (k:Int),.int .i64 (a:Int),.int .i64 (b:Int)] w fun e w'=>e=.returned (.string (bs (fhB ⟨(k:Int),(a:Int),(b:Int)⟩)))/\Below w.heap.size w w':=by
 have HR:=Zh (Anz (a:=a) (b:=b) hk);generalize fhB ⟨(k:Int),(a:Int),(b:Int)⟩=R at *;have K1:=Zh (fun W=>Bs a 4 W (by omega) (by omega));have K2:=Zh (fun W=>Bs b 8 W hb (by omega));have l1:=Ce a 4;have l2:=Ce b 8;generalize num a 4=A at *;generalize num b 8=B at *;have hw:IntKind.u8.wrap (k:Int)=(k:Int):=by rw[IntKind.wrap_u8];omega
 have hkn:(k:Int).toNat=k:=rfl;have z1:=Au A;have z2:=Au B;clear hk ha hb;go_enter Tryz.func28,Tryz.ntmps28
 go_upto_region 1 with fail;rw[Ahc 124 9 (.tmp 9)];go_region_held3 (fun W=>Stb w W) (first|exact Stb.start|assumption|(exact Stb.alloc Stb.start _)|(exact Stb.of (((Below.refl _ _).alloc (Nat.le_refl _) _).drew))|(exact Stb.alloc (by assumption) _)|(exact Stb.call (by first|assumption|exact Stb.start|(exact Stb.of (((Below.refl _ _).alloc (Nat.le_refl _) _).drew))) hb1)) (first
  |(go_at_call_of 60 (a);refine(K1.out _).mono ?_;rintro e w2 ⟨rfl,hb1⟩;have hcl2:=@Below.cell _ _ _ hb1;first|(have hs2:=Ana hb1.size)|skip)
  |(go_at_call_of 60 (b);refine(K2.out _).mono ?_;rintro e w2 ⟨rfl,hb1⟩;have hcl3:=@Below.cell _ _ _ hb1))
 all_goals
  go_wp2;go_ret;exact⟨by rw[<-HR.out];rfl,(by assumption:Stb _ _).2.2⟩
end
end Go.Proofs.YtfjflkmhhbhceaaGreatDoor
