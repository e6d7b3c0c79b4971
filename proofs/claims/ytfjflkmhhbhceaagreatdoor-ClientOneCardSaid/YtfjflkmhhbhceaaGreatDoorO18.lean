/-
  Layer 8, walks: results without lists (written by wip/tools/genbare.py). Condition: results at a block of their own.
-/
import Derived.Test.YtfjflkmhhbhceaaGreatDoorO02
import Derived.Test.YtfjflkmhhbhceaaGreatDoorO06
import Derived.Test.YtfjflkmhhbhceaaGreatDoorO09
import Derived.StillTailTactics
import Derived.Test.YtfjflkmhhbhceaaGreatDoorO05
import Derived.Deep.WholeRow
namespace Go.Proofs.YtfjflkmhhbhceaaGreatDoor
open Go.RowKit
attribute [local go_sem ↓] Go.wp_at_zero Go.wp_at_succ
attribute [local go_sem] Ai Ag Af Ab Aj
attribute [local go_sem] Aa.at0 Aa.Bo Aa.at1 Aa.Bk Aa.at2 Aa.Ca Aa.at3 Aa.Cg Aa.at4 Aa.Cx Aa.at5 Aa.Cw Aa.at6 Aa.Cv Aa.at7 Aa.Cu Aa.at8 Aa.Ct Aa.at9 Aa.Cs Aa.Ee Aa.C4 Aa.Fm Aa.Dm Aa.Fl Aa.Dl Aa.Ia Aa.Ep Aa.H9 Aa.Eo Aa.Lx Aa.Hg Aa.Lw Aa.Hf Aa.Lv Aa.He Aa.Lu Aa.Hd Aa.Lt Aa.Hc Aa.Ls Aa.Ha Aa.Lr Aa.G9 Aa.Lq Aa.G8 Aa.Lp Aa.G7 Aa.Aah Aa.Sx Aa.Aag Aa.Sw Aa.Aaf Aa.Sv Aa.Aae Aa.Su Aa.Aad Aa.St Aa.Aac Aa.Ss Aa.Afz Aa.Wn Aa.Afy Aa.Wm Aa.Afx Aa.Wl Aa.Afw Aa.Wk Aa.Afv Aa.Wj Aa.Afu Aa.Wi Aa.Aft Aa.Wh Aa.Afs Aa.Wg Aa.Afr Aa.Wf Aa.Afq Aa.We Aa.Afp Aa.Wd Aa.Afo Aa.Wc Aa.Afn Aa.Wb Aa.Afm Aa.Wa Aa.Afl Aa.V9 Aa.Afk Aa.V8 Aa.Afj Aa.V7 Aa.Afi Aa.V6 Aa.Afh Aa.V0 Aa.Afg Aa.Vz Aa.Aff Aa.Vy Aa.Afe Aa.Vx Aa.Afd Aa.Vw Aa.Afc Aa.Vv Aa.Afb Aa.Vu Aa.Afa Aa.Vt Aa.Ae9 Aa.Vs Aa.Ae8 Aa.Vr Aa.Oq Aa.Mu Aa.Fa Aa.Ec Aa.E9 Aa.Eb Aa.Mj Aa.Kh Aa.Mi Aa.Kg Aa.Mh Aa.Kf Aa.Oo Aa.Mt Aa.Mg Aa.Ke Aa.Mf Aa.Kd Aa.Me Aa.Kc Aa.On Aa.Ms Aa.Md Aa.Kb Aa.Mc Aa.Ka Aa.len Ah.at0 Ah.Bo Ah.at1 Ah.Bk Ah.at2 Ah.Ca Ah.at3 Ah.Cg Ah.at4 Ah.Cx Ah.at5 Ah.Cw Ah.at6 Ah.Cv Ah.at7 Ah.Cu Ah.at8 Ah.Ct Ah.at9 Ah.Cs Ah.Ee Ah.C4 Ah.Kp Ah.Iy Ah.Kn Ah.Iw Ah.len Wcc.at0 Wcc.Bo Wcc.at1 Wcc.Bk Wcc.at2 Wcc.Ca Wcc.at3 Wcc.Cg Wcc.at4 Wcc.Cx Wcc.at5 Wcc.Cw Wcc.at6 Wcc.Cv Wcc.at7 Wcc.Cu Wcc.at8 Wcc.Ct Wcc.at9 Wcc.Cs Wcc.Ee Wcc.C4 Wcc.Fm Wcc.Dm Wcc.Fl Wcc.Dl Wcc.Ko Wcc.Ix Wcc.Ch Wcc.Br Wcc.Fa Wcc.Ec Wcc.E9 Wcc.Eb Wcc.len
section
attribute [local go_sem ↓] Fq Lb
def Aa.bare (r:Aa):Xo:=⟨r.status,r.fh,r.data,r.obj,r.dir,r.wcc,r.wcc2,r.access,r.count,r.stable,r.verf,r.eof⟩
def Anv:Xo:=(Xo.mk 0 [] [] ⟨false,⟨0,0,0,0,0,0,0,0,0,0⟩⟩ ⟨false,⟨0,0,0,0,0,0,0,0,0,0⟩⟩ ⟨⟨false,0⟩,⟨false,⟨0,0,0,0,0,0,0,0,0,0⟩⟩⟩ ⟨⟨false,0⟩,⟨false,⟨0,0,0,0,0,0,0,0,0,0⟩⟩⟩ 0 0 0 0 false)
end
attribute [local go_sem] Aa.at0 Aa.Bo Aa.at1 Aa.Bk Aa.at2 Aa.Ca Aa.at3 Aa.Cg Aa.at4 Aa.Cx Aa.at5 Aa.Cw Aa.at6 Aa.Cv Aa.at7 Aa.Cu Aa.at8 Aa.Ct Aa.at9 Aa.Cs Aa.Ee Aa.C4 Aa.Fm Aa.Dm Aa.Fl Aa.Dl Aa.Ia Aa.Ep Aa.H9 Aa.Eo Aa.Lx Aa.Hg Aa.Lw Aa.Hf Aa.Lv Aa.He Aa.Lu Aa.Hd Aa.Lt Aa.Hc Aa.Ls Aa.Ha Aa.Lr Aa.G9 Aa.Lq Aa.G8 Aa.Lp Aa.G7 Aa.Aah Aa.Sx Aa.Aag Aa.Sw Aa.Aaf Aa.Sv Aa.Aae Aa.Su Aa.Aad Aa.St Aa.Aac Aa.Ss Aa.Afz Aa.Wn Aa.Afy Aa.Wm Aa.Afx Aa.Wl Aa.Afw Aa.Wk Aa.Afv Aa.Wj Aa.Afu Aa.Wi Aa.Aft Aa.Wh Aa.Afs Aa.Wg Aa.Afr Aa.Wf Aa.Afq Aa.We Aa.Afp Aa.Wd Aa.Afo Aa.Wc Aa.Afn Aa.Wb Aa.Afm Aa.Wa Aa.Afl Aa.V9 Aa.Afk Aa.V8 Aa.Afj Aa.V7 Aa.Afi Aa.V6 Aa.Afh Aa.V0 Aa.Afg Aa.Vz Aa.Aff Aa.Vy Aa.Afe Aa.Vx Aa.Afd Aa.Vw Aa.Afc Aa.Vv Aa.Afb Aa.Vu Aa.Afa Aa.Vt Aa.Ae9 Aa.Vs Aa.Ae8 Aa.Vr Aa.Oq Aa.Mu Aa.Fa Aa.Ec Aa.E9 Aa.Eb Aa.Mj Aa.Kh Aa.Mi Aa.Kg Aa.Mh Aa.Kf Aa.Oo Aa.Mt Aa.Mg Aa.Ke Aa.Mf Aa.Kd Aa.Me Aa.Kc Aa.On Aa.Ms Aa.Md Aa.Kb Aa.Mc Aa.Ka Aa.len
section
theorem Qg {ρ:Operand->Value}{w:World}{dst:Option Tmp}{ty:TypeId}{pos:String}{after:Array Edge}{g:Option (Nat × Bool)}{x:Operand}(h:(rowAt w 58 (ρ x)).isSome=true) :
  (execOp ρ ⟨dst,.load 51 x,ty,pos,after,g⟩).run Tryz.prog w=.ok (.value (.agg ((rowAt w 58 (ρ x)).getD #[]))) w:=D8 51 58 Tryz.underlying51 rfl (by kernel_rfl) h
attribute [local go_sem ↓] Qg
def Db:Ah:=⟨false,⟨0,0,0,0,0,0,0,0,0,0⟩⟩
def Bt:Aa:=⟨0,[],Db,Db,⟨⟨false,0⟩,Db⟩,⟨⟨false,0⟩,Db⟩,0,0,false,[],0,0,none,0,0,none,0,0⟩
def Ai2:List Oi:=.b::List.replicate 10 (.i .i64)
def Ar6:List Oi:=.b::.i .i64::Ai2
theorem Agf (p:Int)(w:World)(h:0<=p/\p<=21):Calls Tryz.prog 98 #[.int .i64 p] w fun e w'=>e=.returned (.bool true)/\w=w':=by
 obtain⟨h1,h2⟩:=h;go_enter Tryz.func98,Tryz.ntmps98
 go_wp2
 all_goals (go_ret;go_light;exact⟨A5 (by grind),rfl⟩)
end
structure Dd where
 f:Xo
 es:List Entry
 us:List Int
def B8 (r:Rs):Nat->List Int × Rs
 |0=>([],r)
 |k+1=>((B8 r k).1++[((Bn (B8 r k).2).1:Int)],(Bn (B8 r k).2).2)
def Hr (r:Rs):Entry × Rs:=
 ({ gen:=(Bn r).1,name:=(Ao 255 (Bn r).2).1,cookie:=(Bn (Ao 255 (Bn r).2).2).1,attr:=Db,fh:=[] },(Bn (Ao 255 (Bn r).2).2).2)
def Hq (whole:Bool)(r:Rs):Entry × Rs:=
 if whole then ({ (Hr r).1 with attr:=(Cf Ah.ok Bb (Bh (Hr r).2)).1,fh:=(Ao 64 (Bh (Hr r).2).2).1 },(Ao 64 (Bh (Hr r).2).2).2) else Hr r
def E7 (whole:Bool)(r:Rs):Bool:=(!whole || (Cf Ah.ok Bb (Bh (Hr r).2)).2==0) && ((Hq whole r).2.e==0)
def Bd (whole:Bool)(r:Rs):Nat->List Entry × Rs
 |0=>([],r)
 |k+1=>((Bd whole r k).1++[(Hq whole (Bd whole r k).2).1],(Hq whole (Bd whole r k).2).2)
def pTk (c:Nat)(d:Dd)(r:Rs):Dd × Rs:=
 if c=104 then ({ d with f:={ d.f with fh:=(Ao 64 r).1 } },(Ao 64 r).2)
 else if c=97 then ({ d with f:={ d.f with obj:=(Cf Ah.ok Bb (Bh r)).1 } },(Bh r).2)
 else if c=68 then ({ d with f:={ d.f with dir:=(Cf Ah.ok Bb (Bh r)).1 } },(Bh r).2)
 else if c=119 then ({ d with f:={ d.f with wcc:=(Cf Wcc.ok Df (Ei r)).1 } },(Ei r).2)
 else if c=87 then ({ d with f:={ d.f with wcc2:=(Cf Wcc.ok Df (Ei r)).1 } },(Ei r).2)
 else if c=120 then ({ d with f:={ d.f with access:=(Am r).1 } },(Am r).2)
 else if c=99 then ({ d with f:={ d.f with count:=(Am r).1 } },(Am r).2)
 else if c=115 then ({ d with f:={ d.f with stable:=(Am r).1 } },(Am r).2)
 else if c=118 then ({ d with f:={ d.f with verf:=(Bn r).1 } },(Bn r).2)
 else if c=101 then ({ d with f:={ d.f with eof:=(Bw r).1 } },(Bw r).2)
 else if c=100 then ({ d with f:={ d.f with data:=(Ao 256 r).1 } },(Ao 256 r).2)
 else if c=110 then ({ d with us:=(B8 (Am r).2 (Am r).1).1 },(B8 (Am r).2 (Am r).1).2)
 else if c=108 then ({ d with es:=(Bd false (Am r).2 (Am r).1).1 },(Bd false (Am r).2 (Am r).1).2)
 else if c=112 then ({ d with es:=(Bd true (Am r).2 (Am r).1).1 },(Bd true (Am r).2 (Am r).1).2)
 else (d,r)
def Qr (c:Nat)(r:Rs):Bool:=
 if c=97\/c=68 then (Cf Ah.ok Bb (Bh r)).2==0
 else if c=119\/c=87 then (Cf Wcc.ok Df (Ei r)).2==0
 else if c=110 then decide ((Am r).1<=16) && ((B8 (Am r).2 (Am r).1).2.e==0)
 else if c=108 then decide ((Am r).1<=64) && (((Am r).2.e==0) && (List.range (Am r).1).all fun i=>E7 false (Bd false (Am r).2 i).2)
 else if c=112 then decide ((Am r).1<=64) && (((Am r).2.e==0) && (List.range (Am r).1).all fun i=>E7 true (Bd true (Am r).2 i).2)
 else (pTk c ⟨Anv,[],[]⟩ r).2.e==0
def pSt (l:List UInt8)(d:Dd)(r:Rs)(k:Nat):Dd × Rs:=(l.take k).foldl (fun x c=>pTk c.toNat x.1 x.2) (d,r)
theorem Ps (l:List UInt8)(d:Dd)(r:Rs)(k:Nat)(hk:k<l.length):pSt l d r (k+1)=pTk l[k].toNat (pSt l d r k).1 (pSt l d r k).2:=by
 unfold pSt;rw[List.take_add_one,List.getElem?_eq_getElem hk,List.foldl_append];rfl
def Nv (l:List UInt8)(d:Dd)(r:Rs)(k:Nat):Bool:=Qr (l.getD k 0).toNat (pSt l d r k).2
def Ir (n:Nat):Dd:=⟨{ Anv with status:=n },[],[]⟩
section
attribute [local go_sem ↓] Qg
end
end Go.Proofs.YtfjflkmhhbhceaaGreatDoor
