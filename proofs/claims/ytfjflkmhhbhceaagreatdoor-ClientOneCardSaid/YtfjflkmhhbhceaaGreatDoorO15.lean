/-
  Layer 7, walks: the document's Check (written by wip/tools/gencheck7.py). No condition.
-/
import Derived.Test.YtfjflkmhhbhceaaGreatDoorO13
import Derived.Test.YtfjflkmhhbhceaaGreatDoorO12
import Derived.BigQuiet
set_option maxRecDepth 20000
set_option maxHeartbeats 40000000
namespace Go.Proofs.YtfjflkmhhbhceaaGreatDoor
open Go.RowKit
attribute [local go_sem ↓] Go.wp_at_zero Go.wp_at_succ
attribute [local go_sem] Ai Ag Af Ab Aj
attribute [local go_sem] Call.at0 Call.Bo Call.at1 Call.Bk Call.at2 Call.Ca Call.at3 Call.Cg Call.at4 Call.Cx Call.at5 Call.Cw Call.at6 Call.Cv Call.at7 Call.Cu Call.at8 Call.Ct Call.at9 Call.Cs Call.Ee Call.C4 Call.Fm Call.Dm Call.Fl Call.Dl Call.Ia Call.Ep Call.H9 Call.Eo Call.Lx Call.Hg Call.Lw Call.Hf Call.Lv Call.He Call.Lu Call.Hd Call.Lt Call.Hc Call.Ls Call.Ha Call.Lr Call.G9 Call.Lq Call.G8 Call.Lp Call.G7 Call.Gy Call.Fj Call.Gv Call.Fg Call.Jn Call.Gz Call.Gx Call.Fi Call.Gw Call.Fh Call.F9 Call.Et Call.F8 Call.Es Call.F7 Call.Er Call.len Ac.at0 Ac.Bo Ac.at1 Ac.Bk Ac.at2 Ac.Ca Ac.at3 Ac.Cg Ac.at4 Ac.Cx Ac.at5 Ac.Cw Ac.at6 Ac.Cv Ac.at7 Ac.Cu Ac.at8 Ac.Ct Ac.at9 Ac.Cs Ac.Cl Ac.B4 Ac.Ch Ac.Br Ac.Gn Ac.E1 Ac.Gm Ac.E0 Ac.Gl Ac.Ez Ac.Gk Ac.Ey Ac.len Opt.at0 Opt.Bo Opt.at1 Opt.Bk Opt.Ch Opt.Br Opt.len
section
attribute [local go_sem ↓] Io Hz
theorem Ba {P:Program}{f:FuncId}{args:Array Value}{w:World}{v:Value}(h:Calls P f args w fun e w'=>e=.returned v/\w=w'):Calls P f args w fun e w'=>e=.returned v/\∃n,w'=w.drewN n:=h.mono fun _ _ ⟨h1,h2⟩=>⟨h1,0,h2.symm⟩
theorem Ajo (w:World)(n:Nat):Stb w (w.drewN n):=Stb.of (((Touch.refl (fun _=>False) w).drewN n).below (fun _ _ h=>h.elim) (Nat.le_refl _))
theorem Stb.Lo {w W:World}(h:Stb w W)(n:Nat):Stb w (W.drewN n):=Stb.of (Ad h.2.2 (Ajo W n).2.2)
def inB (l:List UInt8)(c:UInt8):Bool:=l.contains c
def tIs (is:Bool)(l:List UInt8)(most:Int):Bool:=if is then decide ((l.length:Int)<=most) else l==[]
def nIs (is:Bool)(n most:Int):Bool:=if is then decide (0<=n) && decide (n<=most) else n==0
theorem Du (is:Bool)(l:List UInt8)(most:Int)(w:World):Calls Tryz.prog 166 #[.bool is,.string (bs l),.int .i64 most] w fun e w'=>e=.returned (.bool (tIs is l most))/\w=w':=Yb is l most w
theorem Fb (is:Bool)(n most:Int)(w:World):Calls Tryz.prog 168 #[.bool is,.int .i64 n,.int .i64 most] w fun e w'=>e=.returned (.bool (nIs is n most))/\w=w':=Adn is n most w
def Ht (x:Call)(l:List UInt8):Bool:=(tIs (inB l 102) x.fh 64) && (tIs (inB l 70) x.fh2 64) && (tIs (inB l 110) x.name 255) && (tIs (inB l 78) x.name2 255) && (tIs (inB l 116) x.text 255) && (tIs (inB l 100) x.data 256)
def Mz (x:Call)(l:List UInt8):Bool:=(nIs (inB l 111) x.offset 9223372036854775807) && (nIs (inB l 99) x.count 4294967295) && (nIs (inB l 104) x.how 4294967295) && (nIs (inB l 107) x.cookie 9223372036854775807) && (nIs (inB l 118) x.verf 9223372036854775807)
theorem Yy:Im Tryz.prog 8 34=some [.b,.i .i64,.b,.i .i64,.b,.i .i64,.b,.i .i64,.b,.i .i64]:=by kernel_rfl
theorem Aa8:Im Tryz.prog 8 32=some [.b,.i .i64]:=by kernel_rfl
def Ad4:Opt:=⟨false,0⟩
theorem Opt.Ar9 {x y:Opt}(h:x.vals=y.vals):x=y:=by
 obtain⟨_,_⟩:=x;obtain⟨_,_⟩:=y;simp only[Opt.vals,List.cons.injEq,Value.int.injEq,Value.bool.injEq,true_and,and_true]at h;obtain⟨h0,h1⟩:=h
 subst_vars
 rfl
theorem Ac.Ar9 {x y:Ac}(h:x.vals=y.vals):x=y:=by
 obtain⟨⟨_,_⟩,⟨_,_⟩,⟨_,_⟩,⟨_,_⟩,⟨_,_⟩⟩:=x;obtain⟨⟨_,_⟩,⟨_,_⟩,⟨_,_⟩,⟨_,_⟩,⟨_,_⟩⟩:=y;simp only[Ac.vals,Opt.vals,List.cons_append,List.nil_append,List.cons.injEq,Value.int.injEq,Value.bool.injEq,true_and,and_true]at h;obtain⟨h0,h1,h2,h3,h4,h5,h6,h7,h8,h9⟩:=h
 subst_vars
 rfl
theorem An2 (x y:Ac)(w:World):(binOp .eql 34 (.agg x.vals.toArray) (.agg y.vals.toArray)).run Tryz.prog w=.ok (.bool (decide (x=y))) w:=by
 by_cases h:x=y
 ·rw[Px Yy (by kernel_rfl) w _ _ (by rfl) (by rw[h]),decide_eq_true h]
 ·rw[Sc Yy (by kernel_rfl) w _ _ (by rfl) (by rfl) (fun e=>h (Ac.Ar9 e)),decide_eq_false h]
theorem Aqv (x y:Opt)(w:World):(binOp .eql 32 (.agg x.vals.toArray) (.agg y.vals.toArray)).run Tryz.prog w=.ok (.bool (decide (x=y))) w:=by
 by_cases h:x=y
 ·rw[Px Aa8 (by kernel_rfl) w _ _ (by rfl) (by rw[h]),decide_eq_true h]
 ·rw[Sc Aa8 (by kernel_rfl) w _ _ (by rfl) (by rfl) (fun e=>h (Opt.Ar9 e)),decide_eq_false h]
theorem Alc (x:Ac)(w:World):(binOp .eql 34 (.agg x.vals.toArray) (.agg #[.bool false,.int .i64 0,.bool false,.int .i64 0,.bool false,.int .i64 0,.bool false,.int .i64 0,.bool false,.int .i64 0])).run Tryz.prog w=.ok (.bool (decide (x=Eg))) w:=An2 x Eg w
theorem An3 (x:Opt)(w:World):(binOp .eql 32 (.agg x.vals.toArray) (.agg #[.bool false,.int .i64 0])).run Tryz.prog w=.ok (.bool (decide (x=Ad4))) w:=Aqv x Ad4 w
attribute [local go_sem ↓] Alc An3
def Oc (x:Call)(l:List UInt8):Bool:=x.set.ok && (inB l 115 || decide (x.set=Eg))
def Jb (x:Call)(l:List UInt8):Bool:=x.guard.ok 9223372036854775807 && (inB l 103 || decide (x.guard=Ad4))
def cIs (x:Call):Bool:=Ht x (Al x.proc) && Mz x (Al x.proc) && Oc x (Al x.proc) && Jb x (Al x.proc)
theorem Z2 (x:Call)(w:World):Calls Tryz.prog 131 #[.agg x.vals.toArray] w fun e w'=>e=.returned (.bool (cIs x))/\Below w.heap.size w w':=by
 have hb:=Blk.new w 36 x.vals;have hB:Below w.heap.size w (w.alloc (.cells x.vals.toArray 36)):=(Below.refl _ _).alloc (Nat.le_refl _) _;have hc:=hb.cell;have HS:=Zh (show cIs x=(Ht x (Al x.proc) && Mz x (Al x.proc) && Oc x (Al x.proc) && Jb x (Al x.proc)) from rfl);have hsh:(Al x.proc).length<=1000:=Nat.le_trans (Ma _) (by decide);go_enter Tryz.func131,Tryz.ntmps131
 go_wp2_with fail;refine(Jp x.proc _).mono ?_
 rintro e w1 ⟨rfl,hb1⟩;have hX:=hb.stays hb1;have HB1:=Zh (Ad hB hb1);have hcx:=hX.cell;have rs:rowOf w1 w.heap.size 9 10=some x.set.vals.toArray:=hX.row 9 10 (by simp[Call.len]);have rg:rowOf w1 w.heap.size 19 2=some x.guard.vals.toArray:=hX.row 19 2 (by simp[Call.len]);have hlt:=hX.lt;clear hb hB hc hb1 hX;have K102:∀W,Calls Tryz.prog 167 #[.string (bs (Al x.proc)),.int .u8 102] W fun e w'=>e=.returned (.bool (inB (Al x.proc) 102))/\W=w':=fun W=>Ea _ 102 W hsh
 have K70:∀W,Calls Tryz.prog 167 #[.string (bs (Al x.proc)),.int .u8 70] W fun e w'=>e=.returned (.bool (inB (Al x.proc) 70))/\W=w':=fun W=>Ea _ 70 W hsh
 have K110:∀W,Calls Tryz.prog 167 #[.string (bs (Al x.proc)),.int .u8 110] W fun e w'=>e=.returned (.bool (inB (Al x.proc) 110))/\W=w':=fun W=>Ea _ 110 W hsh
 have K78:∀W,Calls Tryz.prog 167 #[.string (bs (Al x.proc)),.int .u8 78] W fun e w'=>e=.returned (.bool (inB (Al x.proc) 78))/\W=w':=fun W=>Ea _ 78 W hsh
 have K116:∀W,Calls Tryz.prog 167 #[.string (bs (Al x.proc)),.int .u8 116] W fun e w'=>e=.returned (.bool (inB (Al x.proc) 116))/\W=w':=fun W=>Ea _ 116 W hsh
 have K100:∀W,Calls Tryz.prog 167 #[.string (bs (Al x.proc)),.int .u8 100] W fun e w'=>e=.returned (.bool (inB (Al x.proc) 100))/\W=w':=fun W=>Ea _ 100 W hsh
 have K111:∀W,Calls Tryz.prog 167 #[.string (bs (Al x.proc)),.int .u8 111] W fun e w'=>e=.returned (.bool (inB (Al x.proc) 111))/\W=w':=fun W=>Ea _ 111 W hsh
 have K99:∀W,Calls Tryz.prog 167 #[.string (bs (Al x.proc)),.int .u8 99] W fun e w'=>e=.returned (.bool (inB (Al x.proc) 99))/\W=w':=fun W=>Ea _ 99 W hsh
 have K104:∀W,Calls Tryz.prog 167 #[.string (bs (Al x.proc)),.int .u8 104] W fun e w'=>e=.returned (.bool (inB (Al x.proc) 104))/\W=w':=fun W=>Ea _ 104 W hsh
 have K107:∀W,Calls Tryz.prog 167 #[.string (bs (Al x.proc)),.int .u8 107] W fun e w'=>e=.returned (.bool (inB (Al x.proc) 107))/\W=w':=fun W=>Ea _ 107 W hsh
 have K118:∀W,Calls Tryz.prog 167 #[.string (bs (Al x.proc)),.int .u8 118] W fun e w'=>e=.returned (.bool (inB (Al x.proc) 118))/\W=w':=fun W=>Ea _ 118 W hsh
 have K115:∀W,Calls Tryz.prog 167 #[.string (bs (Al x.proc)),.int .u8 115] W fun e w'=>e=.returned (.bool (inB (Al x.proc) 115))/\W=w':=fun W=>Ea _ 115 W hsh
 have K103:∀W,Calls Tryz.prog 167 #[.string (bs (Al x.proc)),.int .u8 103] W fun e w'=>e=.returned (.bool (inB (Al x.proc) 103))/\W=w':=fun W=>Ea _ 103 W hsh
 generalize Al x.proc=l at *;clear hsh;have HST3:=Zh (Stb.of (Below.refl w1.heap.size w1))
 go_upto_region 4 with fail
 go_cut [6] from 10 (fun v wx=>v=.bool (Ht x l)/\Stb w1 wx)
 case first=>
  cases h0:tIs (inB l 102) x.fh 64 with
  |false=>
   have HV:=Zh (show Ht x l=false by simp[Ht,h0]);have Q0:∀W,Calls Tryz.prog 166 #[.bool (inB l 102),.string (bs x.fh),.int .i64 64] W fun e w'=>e=.returned (.bool false)/\∃n,w'=W.drewN n:=fun W=>by rw[<-h0];exact Ba (Du _ _ _ _)
   clear h0;go_quiet (first
    |(go_at_call_of 167 (Value.int IntKind.u8 102);refine Calls.quiet_of (Ba (K102 _)))
    |(go_at_call_of 166 (x.fh);refine Calls.quiet_of (Q0 _)))
   all_goals
    go_wp2;go_meet
    case rel=>exact⟨by rw[HV.out],by exact HST3.out.Lo _⟩
  |true=>
   cases h1:tIs (inB l 70) x.fh2 64 with
   |false=>
    have HV:=Zh (show Ht x l=false by simp[Ht,h0,h1]);have Q0:∀W,Calls Tryz.prog 166 #[.bool (inB l 102),.string (bs x.fh),.int .i64 64] W fun e w'=>e=.returned (.bool true)/\∃n,w'=W.drewN n:=fun W=>by rw[<-h0];exact Ba (Du _ _ _ _)
    have Q1:∀W,Calls Tryz.prog 166 #[.bool (inB l 70),.string (bs x.fh2),.int .i64 64] W fun e w'=>e=.returned (.bool false)/\∃n,w'=W.drewN n:=fun W=>by rw[<-h1];exact Ba (Du _ _ _ _)
    clear h0 h1;go_quiet (first
     |(go_at_call_of 167 (Value.int IntKind.u8 102);refine Calls.quiet_of (Ba (K102 _)))
     |(go_at_call_of 166 (x.fh);refine Calls.quiet_of (Q0 _))
     |(go_at_call_of 167 (Value.int IntKind.u8 70);refine Calls.quiet_of (Ba (K70 _)))
     |(go_at_call_of 166 (x.fh2);refine Calls.quiet_of (Q1 _)))
    all_goals
     go_wp2;go_meet
     case rel=>exact⟨by rw[HV.out],by exact HST3.out.Lo _⟩
   |true=>
    cases h2:tIs (inB l 110) x.name 255 with
    |false=>
     have HV:=Zh (show Ht x l=false by simp[Ht,h0,h1,h2]);have Q0:∀W,Calls Tryz.prog 166 #[.bool (inB l 102),.string (bs x.fh),.int .i64 64] W fun e w'=>e=.returned (.bool true)/\∃n,w'=W.drewN n:=fun W=>by rw[<-h0];exact Ba (Du _ _ _ _)
     have Q1:∀W,Calls Tryz.prog 166 #[.bool (inB l 70),.string (bs x.fh2),.int .i64 64] W fun e w'=>e=.returned (.bool true)/\∃n,w'=W.drewN n:=fun W=>by rw[<-h1];exact Ba (Du _ _ _ _)
     have Q2:∀W,Calls Tryz.prog 166 #[.bool (inB l 110),.string (bs x.name),.int .i64 255] W fun e w'=>e=.returned (.bool false)/\∃n,w'=W.drewN n:=fun W=>by rw[<-h2];exact Ba (Du _ _ _ _)
     clear h0 h1 h2;go_quiet (first
      |(go_at_call_of 167 (Value.int IntKind.u8 102);refine Calls.quiet_of (Ba (K102 _)))
      |(go_at_call_of 166 (x.fh);refine Calls.quiet_of (Q0 _))
      |(go_at_call_of 167 (Value.int IntKind.u8 70);refine Calls.quiet_of (Ba (K70 _)))
      |(go_at_call_of 166 (x.fh2);refine Calls.quiet_of (Q1 _))
      |(go_at_call_of 167 (Value.int IntKind.u8 110);refine Calls.quiet_of (Ba (K110 _)))
      |(go_at_call_of 166 (x.name);refine Calls.quiet_of (Q2 _)))
     all_goals
      go_wp2;go_meet
      case rel=>exact⟨by rw[HV.out],by exact HST3.out.Lo _⟩
    |true=>
     cases h3:tIs (inB l 78) x.name2 255 with
     |false=>
      have HV:=Zh (show Ht x l=false by simp[Ht,h0,h1,h2,h3]);have Q0:∀W,Calls Tryz.prog 166 #[.bool (inB l 102),.string (bs x.fh),.int .i64 64] W fun e w'=>e=.returned (.bool true)/\∃n,w'=W.drewN n:=fun W=>by rw[<-h0];exact Ba (Du _ _ _ _)
      have Q1:∀W,Calls Tryz.prog 166 #[.bool (inB l 70),.string (bs x.fh2),.int .i64 64] W fun e w'=>e=.returned (.bool true)/\∃n,w'=W.drewN n:=fun W=>by rw[<-h1];exact Ba (Du _ _ _ _)
      have Q2:∀W,Calls Tryz.prog 166 #[.bool (inB l 110),.string (bs x.name),.int .i64 255] W fun e w'=>e=.returned (.bool true)/\∃n,w'=W.drewN n:=fun W=>by rw[<-h2];exact Ba (Du _ _ _ _)
      have Q3:∀W,Calls Tryz.prog 166 #[.bool (inB l 78),.string (bs x.name2),.int .i64 255] W fun e w'=>e=.returned (.bool false)/\∃n,w'=W.drewN n:=fun W=>by rw[<-h3];exact Ba (Du _ _ _ _)
      clear h0 h1 h2 h3;go_quiet (first
       |(go_at_call_of 167 (Value.int IntKind.u8 102);refine Calls.quiet_of (Ba (K102 _)))
       |(go_at_call_of 166 (x.fh);refine Calls.quiet_of (Q0 _))
       |(go_at_call_of 167 (Value.int IntKind.u8 70);refine Calls.quiet_of (Ba (K70 _)))
       |(go_at_call_of 166 (x.fh2);refine Calls.quiet_of (Q1 _))
       |(go_at_call_of 167 (Value.int IntKind.u8 110);refine Calls.quiet_of (Ba (K110 _)))
       |(go_at_call_of 166 (x.name);refine Calls.quiet_of (Q2 _))
       |(go_at_call_of 167 (Value.int IntKind.u8 78);refine Calls.quiet_of (Ba (K78 _)))
       |(go_at_call_of 166 (x.name2);refine Calls.quiet_of (Q3 _)))
      all_goals
       go_wp2;go_meet
       case rel=>exact⟨by rw[HV.out],by exact HST3.out.Lo _⟩
     |true=>
      cases h4:tIs (inB l 116) x.text 255 with
      |false=>
       have HV:=Zh (show Ht x l=false by simp[Ht,h0,h1,h2,h3,h4]);have Q0:∀W,Calls Tryz.prog 166 #[.bool (inB l 102),.string (bs x.fh),.int .i64 64] W fun e w'=>e=.returned (.bool true)/\∃n,w'=W.drewN n:=fun W=>by rw[<-h0];exact Ba (Du _ _ _ _)
       have Q1:∀W,Calls Tryz.prog 166 #[.bool (inB l 70),.string (bs x.fh2),.int .i64 64] W fun e w'=>e=.returned (.bool true)/\∃n,w'=W.drewN n:=fun W=>by rw[<-h1];exact Ba (Du _ _ _ _)
       have Q2:∀W,Calls Tryz.prog 166 #[.bool (inB l 110),.string (bs x.name),.int .i64 255] W fun e w'=>e=.returned (.bool true)/\∃n,w'=W.drewN n:=fun W=>by rw[<-h2];exact Ba (Du _ _ _ _)
       have Q3:∀W,Calls Tryz.prog 166 #[.bool (inB l 78),.string (bs x.name2),.int .i64 255] W fun e w'=>e=.returned (.bool true)/\∃n,w'=W.drewN n:=fun W=>by rw[<-h3];exact Ba (Du _ _ _ _)
       have Q4:∀W,Calls Tryz.prog 166 #[.bool (inB l 116),.string (bs x.text),.int .i64 255] W fun e w'=>e=.returned (.bool false)/\∃n,w'=W.drewN n:=fun W=>by rw[<-h4];exact Ba (Du _ _ _ _)
       clear h0 h1 h2 h3 h4;go_quiet (first
        |(go_at_call_of 167 (Value.int IntKind.u8 102);refine Calls.quiet_of (Ba (K102 _)))
        |(go_at_call_of 166 (x.fh);refine Calls.quiet_of (Q0 _))
        |(go_at_call_of 167 (Value.int IntKind.u8 70);refine Calls.quiet_of (Ba (K70 _)))
        |(go_at_call_of 166 (x.fh2);refine Calls.quiet_of (Q1 _))
        |(go_at_call_of 167 (Value.int IntKind.u8 110);refine Calls.quiet_of (Ba (K110 _)))
        |(go_at_call_of 166 (x.name);refine Calls.quiet_of (Q2 _))
        |(go_at_call_of 167 (Value.int IntKind.u8 78);refine Calls.quiet_of (Ba (K78 _)))
        |(go_at_call_of 166 (x.name2);refine Calls.quiet_of (Q3 _))
        |(go_at_call_of 167 (Value.int IntKind.u8 116);refine Calls.quiet_of (Ba (K116 _)))
        |(go_at_call_of 166 (x.text);refine Calls.quiet_of (Q4 _)))
       all_goals
        go_wp2;go_meet
        case rel=>exact⟨by rw[HV.out],by exact HST3.out.Lo _⟩
      |true=>
       cases h5:tIs (inB l 100) x.data 256 with
       |false=>
        have HV:=Zh (show Ht x l=false by simp[Ht,h0,h1,h2,h3,h4,h5]);have Q0:∀W,Calls Tryz.prog 166 #[.bool (inB l 102),.string (bs x.fh),.int .i64 64] W fun e w'=>e=.returned (.bool true)/\∃n,w'=W.drewN n:=fun W=>by rw[<-h0];exact Ba (Du _ _ _ _)
        have Q1:∀W,Calls Tryz.prog 166 #[.bool (inB l 70),.string (bs x.fh2),.int .i64 64] W fun e w'=>e=.returned (.bool true)/\∃n,w'=W.drewN n:=fun W=>by rw[<-h1];exact Ba (Du _ _ _ _)
        have Q2:∀W,Calls Tryz.prog 166 #[.bool (inB l 110),.string (bs x.name),.int .i64 255] W fun e w'=>e=.returned (.bool true)/\∃n,w'=W.drewN n:=fun W=>by rw[<-h2];exact Ba (Du _ _ _ _)
        have Q3:∀W,Calls Tryz.prog 166 #[.bool (inB l 78),.string (bs x.name2),.int .i64 255] W fun e w'=>e=.returned (.bool true)/\∃n,w'=W.drewN n:=fun W=>by rw[<-h3];exact Ba (Du _ _ _ _)
        have Q4:∀W,Calls Tryz.prog 166 #[.bool (inB l 116),.string (bs x.text),.int .i64 255] W fun e w'=>e=.returned (.bool true)/\∃n,w'=W.drewN n:=fun W=>by rw[<-h4];exact Ba (Du _ _ _ _)
        have Q5:∀W,Calls Tryz.prog 166 #[.bool (inB l 100),.string (bs x.data),.int .i64 256] W fun e w'=>e=.returned (.bool false)/\∃n,w'=W.drewN n:=fun W=>by rw[<-h5];exact Ba (Du _ _ _ _)
        clear h0 h1 h2 h3 h4 h5;go_quiet (first
         |(go_at_call_of 167 (Value.int IntKind.u8 102);refine Calls.quiet_of (Ba (K102 _)))
         |(go_at_call_of 166 (x.fh);refine Calls.quiet_of (Q0 _))
         |(go_at_call_of 167 (Value.int IntKind.u8 70);refine Calls.quiet_of (Ba (K70 _)))
         |(go_at_call_of 166 (x.fh2);refine Calls.quiet_of (Q1 _))
         |(go_at_call_of 167 (Value.int IntKind.u8 110);refine Calls.quiet_of (Ba (K110 _)))
         |(go_at_call_of 166 (x.name);refine Calls.quiet_of (Q2 _))
         |(go_at_call_of 167 (Value.int IntKind.u8 78);refine Calls.quiet_of (Ba (K78 _)))
         |(go_at_call_of 166 (x.name2);refine Calls.quiet_of (Q3 _))
         |(go_at_call_of 167 (Value.int IntKind.u8 116);refine Calls.quiet_of (Ba (K116 _)))
         |(go_at_call_of 166 (x.text);refine Calls.quiet_of (Q4 _))
         |(go_at_call_of 167 (Value.int IntKind.u8 100);refine Calls.quiet_of (Ba (K100 _)))
         |(go_at_call_of 166 (x.data);refine Calls.quiet_of (Q5 _)))
        all_goals
         go_wp2;go_meet
         case rel=>exact⟨by rw[HV.out],by exact HST3.out.Lo _⟩
       |true=>
        have HV:=Zh (show Ht x l=true by simp[Ht,h0,h1,h2,h3,h4,h5]);have Q0:∀W,Calls Tryz.prog 166 #[.bool (inB l 102),.string (bs x.fh),.int .i64 64] W fun e w'=>e=.returned (.bool true)/\∃n,w'=W.drewN n:=fun W=>by rw[<-h0];exact Ba (Du _ _ _ _)
        have Q1:∀W,Calls Tryz.prog 166 #[.bool (inB l 70),.string (bs x.fh2),.int .i64 64] W fun e w'=>e=.returned (.bool true)/\∃n,w'=W.drewN n:=fun W=>by rw[<-h1];exact Ba (Du _ _ _ _)
        have Q2:∀W,Calls Tryz.prog 166 #[.bool (inB l 110),.string (bs x.name),.int .i64 255] W fun e w'=>e=.returned (.bool true)/\∃n,w'=W.drewN n:=fun W=>by rw[<-h2];exact Ba (Du _ _ _ _)
        have Q3:∀W,Calls Tryz.prog 166 #[.bool (inB l 78),.string (bs x.name2),.int .i64 255] W fun e w'=>e=.returned (.bool true)/\∃n,w'=W.drewN n:=fun W=>by rw[<-h3];exact Ba (Du _ _ _ _)
        have Q4:∀W,Calls Tryz.prog 166 #[.bool (inB l 116),.string (bs x.text),.int .i64 255] W fun e w'=>e=.returned (.bool true)/\∃n,w'=W.drewN n:=fun W=>by rw[<-h4];exact Ba (Du _ _ _ _)
        have Q5:∀W,Calls Tryz.prog 166 #[.bool (inB l 100),.string (bs x.data),.int .i64 256] W fun e w'=>e=.returned (.bool true)/\∃n,w'=W.drewN n:=fun W=>by rw[<-h5];exact Ba (Du _ _ _ _)
        clear h0 h1 h2 h3 h4 h5;go_quiet (first
         |(go_at_call_of 167 (Value.int IntKind.u8 102);refine Calls.quiet_of (Ba (K102 _)))
         |(go_at_call_of 166 (x.fh);refine Calls.quiet_of (Q0 _))
         |(go_at_call_of 167 (Value.int IntKind.u8 70);refine Calls.quiet_of (Ba (K70 _)))
         |(go_at_call_of 166 (x.fh2);refine Calls.quiet_of (Q1 _))
         |(go_at_call_of 167 (Value.int IntKind.u8 110);refine Calls.quiet_of (Ba (K110 _)))
         |(go_at_call_of 166 (x.name);refine Calls.quiet_of (Q2 _))
         |(go_at_call_of 167 (Value.int IntKind.u8 78);refine Calls.quiet_of (Ba (K78 _)))
         |(go_at_call_of 166 (x.name2);refine Calls.quiet_of (Q3 _))
         |(go_at_call_of 167 (Value.int IntKind.u8 116);refine Calls.quiet_of (Ba (K116 _)))
         |(go_at_call_of 166 (x.text);refine Calls.quiet_of (Q4 _))
         |(go_at_call_of 167 (Value.int IntKind.u8 100);refine Calls.quiet_of (Ba (K100 _)))
         |(go_at_call_of 166 (x.data);refine Calls.quiet_of (Q5 _)))
        all_goals
         go_wp2;go_meet
         case rel=>exact⟨by rw[HV.out],by exact HST3.out.Lo _⟩
 obtain⟨rfl,hst4⟩:=hcut;have HST4:=Zh hst4;have hcy:∀i,wc.cell? ⟨w.heap.size,i,none⟩=x.vals[i]?:=fun i=>(HST4.out.1 _ _ hlt).trans (hcx i)
 clear hst4
 go_upto_region 5 with fail
 go_cut [7] from 10 (fun v wx=>v=.bool (Mz x l)/\Stb w1 wx)
 case first=>
  cases h0:nIs (inB l 111) x.offset 9223372036854775807 with
  |false=>
   have HV:=Zh (show Mz x l=false by simp[Mz,h0]);have Q0:∀W,Calls Tryz.prog 168 #[.bool (inB l 111),.int .i64 x.offset,.int .i64 9223372036854775807] W fun e w'=>e=.returned (.bool false)/\∃n,w'=W.drewN n:=fun W=>by rw[<-h0];exact Ba (Fb _ _ _ _)
   clear h0;go_quiet (first
    |(go_at_call_of 167 (Value.int IntKind.u8 111);refine Calls.quiet_of (Ba (K111 _)))
    |(go_at_call_of 168 (x.offset);refine Calls.quiet_of (Q0 _)))
   all_goals
    go_wp2;go_meet
    case rel=>exact⟨by rw[HV.out],by exact HST4.out.Lo _⟩
  |true=>
   cases h1:nIs (inB l 99) x.count 4294967295 with
   |false=>
    have HV:=Zh (show Mz x l=false by simp[Mz,h0,h1]);have Q0:∀W,Calls Tryz.prog 168 #[.bool (inB l 111),.int .i64 x.offset,.int .i64 9223372036854775807] W fun e w'=>e=.returned (.bool true)/\∃n,w'=W.drewN n:=fun W=>by rw[<-h0];exact Ba (Fb _ _ _ _)
    have Q1:∀W,Calls Tryz.prog 168 #[.bool (inB l 99),.int .i64 x.count,.int .i64 4294967295] W fun e w'=>e=.returned (.bool false)/\∃n,w'=W.drewN n:=fun W=>by rw[<-h1];exact Ba (Fb _ _ _ _)
    clear h0 h1;go_quiet (first
     |(go_at_call_of 167 (Value.int IntKind.u8 111);refine Calls.quiet_of (Ba (K111 _)))
     |(go_at_call_of 168 (x.offset);refine Calls.quiet_of (Q0 _))
     |(go_at_call_of 167 (Value.int IntKind.u8 99);refine Calls.quiet_of (Ba (K99 _)))
     |(go_at_call_of 168 (x.count);refine Calls.quiet_of (Q1 _)))
    all_goals
     go_wp2;go_meet
     case rel=>exact⟨by rw[HV.out],by exact HST4.out.Lo _⟩
   |true=>
    cases h2:nIs (inB l 104) x.how 4294967295 with
    |false=>
     have HV:=Zh (show Mz x l=false by simp[Mz,h0,h1,h2]);have Q0:∀W,Calls Tryz.prog 168 #[.bool (inB l 111),.int .i64 x.offset,.int .i64 9223372036854775807] W fun e w'=>e=.returned (.bool true)/\∃n,w'=W.drewN n:=fun W=>by rw[<-h0];exact Ba (Fb _ _ _ _)
     have Q1:∀W,Calls Tryz.prog 168 #[.bool (inB l 99),.int .i64 x.count,.int .i64 4294967295] W fun e w'=>e=.returned (.bool true)/\∃n,w'=W.drewN n:=fun W=>by rw[<-h1];exact Ba (Fb _ _ _ _)
     have Q2:∀W,Calls Tryz.prog 168 #[.bool (inB l 104),.int .i64 x.how,.int .i64 4294967295] W fun e w'=>e=.returned (.bool false)/\∃n,w'=W.drewN n:=fun W=>by rw[<-h2];exact Ba (Fb _ _ _ _)
     clear h0 h1 h2;go_quiet (first
      |(go_at_call_of 167 (Value.int IntKind.u8 111);refine Calls.quiet_of (Ba (K111 _)))
      |(go_at_call_of 168 (x.offset);refine Calls.quiet_of (Q0 _))
      |(go_at_call_of 167 (Value.int IntKind.u8 99);refine Calls.quiet_of (Ba (K99 _)))
      |(go_at_call_of 168 (x.count);refine Calls.quiet_of (Q1 _))
      |(go_at_call_of 167 (Value.int IntKind.u8 104);refine Calls.quiet_of (Ba (K104 _)))
      |(go_at_call_of 168 (x.how);refine Calls.quiet_of (Q2 _)))
     all_goals
      go_wp2;go_meet
      case rel=>exact⟨by rw[HV.out],by exact HST4.out.Lo _⟩
    |true=>
     cases h3:nIs (inB l 107) x.cookie 9223372036854775807 with
     |false=>
      have HV:=Zh (show Mz x l=false by simp[Mz,h0,h1,h2,h3]);have Q0:∀W,Calls Tryz.prog 168 #[.bool (inB l 111),.int .i64 x.offset,.int .i64 9223372036854775807] W fun e w'=>e=.returned (.bool true)/\∃n,w'=W.drewN n:=fun W=>by rw[<-h0];exact Ba (Fb _ _ _ _)
      have Q1:∀W,Calls Tryz.prog 168 #[.bool (inB l 99),.int .i64 x.count,.int .i64 4294967295] W fun e w'=>e=.returned (.bool true)/\∃n,w'=W.drewN n:=fun W=>by rw[<-h1];exact Ba (Fb _ _ _ _)
      have Q2:∀W,Calls Tryz.prog 168 #[.bool (inB l 104),.int .i64 x.how,.int .i64 4294967295] W fun e w'=>e=.returned (.bool true)/\∃n,w'=W.drewN n:=fun W=>by rw[<-h2];exact Ba (Fb _ _ _ _)
      have Q3:∀W,Calls Tryz.prog 168 #[.bool (inB l 107),.int .i64 x.cookie,.int .i64 9223372036854775807] W fun e w'=>e=.returned (.bool false)/\∃n,w'=W.drewN n:=fun W=>by rw[<-h3];exact Ba (Fb _ _ _ _)
      clear h0 h1 h2 h3;go_quiet (first
       |(go_at_call_of 167 (Value.int IntKind.u8 111);refine Calls.quiet_of (Ba (K111 _)))
       |(go_at_call_of 168 (x.offset);refine Calls.quiet_of (Q0 _))
       |(go_at_call_of 167 (Value.int IntKind.u8 99);refine Calls.quiet_of (Ba (K99 _)))
       |(go_at_call_of 168 (x.count);refine Calls.quiet_of (Q1 _))
       |(go_at_call_of 167 (Value.int IntKind.u8 104);refine Calls.quiet_of (Ba (K104 _)))
       |(go_at_call_of 168 (x.how);refine Calls.quiet_of (Q2 _))
       |(go_at_call_of 167 (Value.int IntKind.u8 107);refine Calls.quiet_of (Ba (K107 _)))
       |(go_at_call_of 168 (x.cookie);refine Calls.quiet_of (Q3 _)))
      all_goals
       go_wp2;go_meet
       case rel=>exact⟨by rw[HV.out],by exact HST4.out.Lo _⟩
     |true=>
      cases h4:nIs (inB l 118) x.verf 9223372036854775807 with
      |false=>
       have HV:=Zh (show Mz x l=false by simp[Mz,h0,h1,h2,h3,h4]);have Q0:∀W,Calls Tryz.prog 168 #[.bool (inB l 111),.int .i64 x.offset,.int .i64 9223372036854775807] W fun e w'=>e=.returned (.bool true)/\∃n,w'=W.drewN n:=fun W=>by rw[<-h0];exact Ba (Fb _ _ _ _)
       have Q1:∀W,Calls Tryz.prog 168 #[.bool (inB l 99),.int .i64 x.count,.int .i64 4294967295] W fun e w'=>e=.returned (.bool true)/\∃n,w'=W.drewN n:=fun W=>by rw[<-h1];exact Ba (Fb _ _ _ _)
       have Q2:∀W,Calls Tryz.prog 168 #[.bool (inB l 104),.int .i64 x.how,.int .i64 4294967295] W fun e w'=>e=.returned (.bool true)/\∃n,w'=W.drewN n:=fun W=>by rw[<-h2];exact Ba (Fb _ _ _ _)
       have Q3:∀W,Calls Tryz.prog 168 #[.bool (inB l 107),.int .i64 x.cookie,.int .i64 9223372036854775807] W fun e w'=>e=.returned (.bool true)/\∃n,w'=W.drewN n:=fun W=>by rw[<-h3];exact Ba (Fb _ _ _ _)
       have Q4:∀W,Calls Tryz.prog 168 #[.bool (inB l 118),.int .i64 x.verf,.int .i64 9223372036854775807] W fun e w'=>e=.returned (.bool false)/\∃n,w'=W.drewN n:=fun W=>by rw[<-h4];exact Ba (Fb _ _ _ _)
       clear h0 h1 h2 h3 h4;go_quiet (first
        |(go_at_call_of 167 (Value.int IntKind.u8 111);refine Calls.quiet_of (Ba (K111 _)))
        |(go_at_call_of 168 (x.offset);refine Calls.quiet_of (Q0 _))
        |(go_at_call_of 167 (Value.int IntKind.u8 99);refine Calls.quiet_of (Ba (K99 _)))
        |(go_at_call_of 168 (x.count);refine Calls.quiet_of (Q1 _))
        |(go_at_call_of 167 (Value.int IntKind.u8 104);refine Calls.quiet_of (Ba (K104 _)))
        |(go_at_call_of 168 (x.how);refine Calls.quiet_of (Q2 _))
        |(go_at_call_of 167 (Value.int IntKind.u8 107);refine Calls.quiet_of (Ba (K107 _)))
        |(go_at_call_of 168 (x.cookie);refine Calls.quiet_of (Q3 _))
        |(go_at_call_of 167 (Value.int IntKind.u8 118);refine Calls.quiet_of (Ba (K118 _)))
        |(go_at_call_of 168 (x.verf);refine Calls.quiet_of (Q4 _)))
       all_goals
        go_wp2;go_meet
        case rel=>exact⟨by rw[HV.out],by exact HST4.out.Lo _⟩
      |true=>
       have HV:=Zh (show Mz x l=true by simp[Mz,h0,h1,h2,h3,h4]);have Q0:∀W,Calls Tryz.prog 168 #[.bool (inB l 111),.int .i64 x.offset,.int .i64 9223372036854775807] W fun e w'=>e=.returned (.bool true)/\∃n,w'=W.drewN n:=fun W=>by rw[<-h0];exact Ba (Fb _ _ _ _)
       have Q1:∀W,Calls Tryz.prog 168 #[.bool (inB l 99),.int .i64 x.count,.int .i64 4294967295] W fun e w'=>e=.returned (.bool true)/\∃n,w'=W.drewN n:=fun W=>by rw[<-h1];exact Ba (Fb _ _ _ _)
       have Q2:∀W,Calls Tryz.prog 168 #[.bool (inB l 104),.int .i64 x.how,.int .i64 4294967295] W fun e w'=>e=.returned (.bool true)/\∃n,w'=W.drewN n:=fun W=>by rw[<-h2];exact Ba (Fb _ _ _ _)
       have Q3:∀W,Calls Tryz.prog 168 #[.bool (inB l 107),.int .i64 x.cookie,.int .i64 9223372036854775807] W fun e w'=>e=.returned (.bool true)/\∃n,w'=W.drewN n:=fun W=>by rw[<-h3];exact Ba (Fb _ _ _ _)
       have Q4:∀W,Calls Tryz.prog 168 #[.bool (inB l 118),.int .i64 x.verf,.int .i64 9223372036854775807] W fun e w'=>e=.returned (.bool true)/\∃n,w'=W.drewN n:=fun W=>by rw[<-h4];exact Ba (Fb _ _ _ _)
       clear h0 h1 h2 h3 h4;go_quiet (first
        |(go_at_call_of 167 (Value.int IntKind.u8 111);refine Calls.quiet_of (Ba (K111 _)))
        |(go_at_call_of 168 (x.offset);refine Calls.quiet_of (Q0 _))
        |(go_at_call_of 167 (Value.int IntKind.u8 99);refine Calls.quiet_of (Ba (K99 _)))
        |(go_at_call_of 168 (x.count);refine Calls.quiet_of (Q1 _))
        |(go_at_call_of 167 (Value.int IntKind.u8 104);refine Calls.quiet_of (Ba (K104 _)))
        |(go_at_call_of 168 (x.how);refine Calls.quiet_of (Q2 _))
        |(go_at_call_of 167 (Value.int IntKind.u8 107);refine Calls.quiet_of (Ba (K107 _)))
        |(go_at_call_of 168 (x.cookie);refine Calls.quiet_of (Q3 _))
        |(go_at_call_of 167 (Value.int IntKind.u8 118);refine Calls.quiet_of (Ba (K118 _)))
        |(go_at_call_of 168 (x.verf);refine Calls.quiet_of (Q4 _)))
       all_goals
        go_wp2;go_meet
        case rel=>exact⟨by rw[HV.out],by exact HST4.out.Lo _⟩
 obtain⟨rfl,hst5⟩:=hcut;have HST5:=Zh hst5;clear hst5;have r6:rowOf wc w.heap.size 9 10=some x.set.vals.toArray:=(HST5.out.2.1 _ _ _ hlt).trans rs
 go_upto_region 6 with fail
 go_cut [8] from 10 (fun v wx=>v=.bool (Oc x l)/\Stb w1 wx)
 case first=>
  go_wp2_with fail;refine(Yc x.set _).mono ?_
  rintro e w5 ⟨rfl,hb5⟩;have HST5:=Zh (HST5.out.call hb5);have r5:rowOf w5 w.heap.size 9 10=some x.set.vals.toArray:=(HST5.out.2.1 _ _ _ hlt).trans rs;clear hb5;cases hs:x.set.ok with
  |false=>
   have HV:=Zh (show Oc x l=false by simp[Oc,hs]);clear hs;go_wp2;go_meet
   case rel=>exact⟨by rw[HV.out],HST5.out⟩
  |true=>
   go_wp2_with fail;refine(K115 _).mono ?_
   rintro e w6 ⟨rfl,rfl⟩;cases hi:inB l 115 with
   |true=>
    have HV:=Zh (show Oc x l=true by simp[Oc,hs,hi]);clear hs hi;go_wp2;go_meet
    case rel=>exact⟨by rw[HV.out],HST5.out⟩
   |false=>
    have HV:=Zh (show Oc x l=decide (x.set=Eg) by simp[Oc,hs,hi]);clear hs hi;go_wp2;go_meet
    case rel=>exact⟨by rw[HV.out],HST5.out⟩
 obtain⟨rfl,hst6⟩:=hcut;have HST6:=Zh hst6;clear hst6;have r7:rowOf wc w.heap.size 19 2=some x.guard.vals.toArray:=(HST6.out.2.1 _ _ _ hlt).trans rg
 go_upto_region 7 with fail
 go_cut [9] from 10 (fun v wx=>v=.bool (Jb x l)/\Stb w1 wx)
 case first=>
  go_wp2_with fail;refine(Gp x.guard _ _).mono ?_
  rintro e w5 ⟨rfl,hb5⟩;have HST5:=Zh (HST6.out.call hb5);have r5:rowOf w5 w.heap.size 19 2=some x.guard.vals.toArray:=(HST5.out.2.1 _ _ _ hlt).trans rg;clear hb5;cases hs:x.guard.ok 9223372036854775807 with
  |false=>
   have HV:=Zh (show Jb x l=false by simp[Jb,hs]);clear hs;go_wp2;go_meet
   case rel=>exact⟨by rw[HV.out],HST5.out⟩
  |true=>
   go_wp2_with fail;refine(K103 _).mono ?_
   rintro e w6 ⟨rfl,rfl⟩;cases hi:inB l 103 with
   |true=>
    have HV:=Zh (show Jb x l=true by simp[Jb,hs,hi]);clear hs hi;go_wp2;go_meet
    case rel=>exact⟨by rw[HV.out],HST5.out⟩
   |false=>
    have HV:=Zh (show Jb x l=decide (x.guard=Ad4) by simp[Jb,hs,hi]);clear hs hi;go_wp2;go_meet
    case rel=>exact⟨by rw[HV.out],HST5.out⟩
 obtain⟨rfl,hst7⟩:=hcut;have HST7:=Zh hst7;clear hst7;have HBW:=Zh (Ad HB1.out HST7.out.below);generalize Ht x l=b1 at *;generalize Mz x l=b2 at *;generalize Oc x l=b3 at *;generalize Jb x l=b4 at *;go_wp2
 all_goals (go_ret;go_light;exact⟨A5 (by rw[HS.out];simp_all),HBW.out⟩)
end
end Go.Proofs.YtfjflkmhhbhceaaGreatDoor
