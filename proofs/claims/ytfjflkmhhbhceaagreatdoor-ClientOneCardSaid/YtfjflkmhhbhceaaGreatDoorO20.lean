/-
  Layer 20, walks: is an entry's Cookie at most one; slices.IndexFunc with that. Conditions: machine lists.
-/
import Derived.Test.YtfjflkmhhbhceaaGreatDoorO19
import Derived.BigGuardPart
import Derived.Test.YtfjflkmhhbhceaaGreatDoorO05
import Derived.Test.YtfjflkmhhbhceaaGreatDoorO13
import Derived.Test.YtfjflkmhhbhceaaGreatDoorO09
import Derived.Test.YtfjflkmhhbhceaaGreatDoorO06
set_option maxRecDepth 20000
set_option maxHeartbeats 40000000
namespace Go.Proofs.YtfjflkmhhbhceaaGreatDoor
open Go.RowKit
attribute [local go_sem ↓] Go.wp_at_zero Go.wp_at_succ
attribute [local go_sem] Ai Ag Af Ab Aj
attribute [local go_sem] Entry.at0 Entry.Bo Entry.at1 Entry.Bk Entry.at2 Entry.Ca Entry.at3 Entry.Cg Entry.at4 Entry.Cx Entry.at5 Entry.Cw Entry.at6 Entry.Cv Entry.at7 Entry.Cu Entry.at8 Entry.Ct Entry.at9 Entry.Cs Entry.Ee Entry.C4 Entry.Fm Entry.Dm Entry.Fl Entry.Dl Entry.Ia Entry.Ep Entry.H9 Entry.Eo Entry.L3 Entry.Js Entry.L2 Entry.Jr Entry.L1 Entry.Jq Entry.len
section
attribute [local go_sem ↓] Jx
theorem Ahe:(Tryz.prog.info? 126).map (fun i=>(i.zero,i.size))=some (some (.agg (Entry.mk 0 [] 0 Db []).vals.toArray),15):=by kernel_rfl
end
section
section
variable {w w':World} {B:Nat} {e:TypeId} {sz:Nat}
theorem As.Ao2 {g cap n:Nat}{rows:List (List Value)}(h:As w B e sz (.slice (some ⟨g,0,none⟩) n cap) rows)(hn:n=rows.length)(o k:Nat)(hk:o+k<=n*sz):w.there g o k:=by
 intro j hj;have hown:=h.2;rw[<-hn]at hown;refine⟨?_,hown.frozenAt _⟩
 rw[hown.cellAt _ (by omega)];rw[List.getElem?_eq_getElem (by have:=hown.1;omega)];rfl
theorem As.Td {g n cap:Nat}{pre post:List (List Value)}{a m b r:List Value}(h:As w B e sz (.slice (some ⟨g,0,none⟩) n cap) (pre++(a++(m++b))::post))(hr:m.length=r.length)(hn:n=(pre++(a++(m++b))::post).length) :
  As (w.setCells g (pre.length*sz+a.length) r) B e sz (.slice (some ⟨g,0,none⟩) n cap) (pre++(a++(r++b))::post):=by
 obtain⟨hl,hown⟩:=h;have hm:(a++(m++b)).length=sz:=hl _ (by simp);have hlp:∀q∈pre,q.length=sz:=fun q hq=>hl q (by simp[hq])
 have hpl:pre.flatten.length=pre.length*sz:=by
  clear hown hl hn
  induction pre with
  |nil=>simp
  |cons q pre ih=>
   rw[List.flatten_cons,List.length_append,hlp q (by simp),ih (fun q hq=>hlp q (List.mem_cons_of_mem _ hq)),List.length_cons,Nat.succ_mul];omega
 refine⟨fun q hq=>?_,?_⟩
 ·rcases List.mem_append.1 hq with hq|hq
  ·exact hlp q hq
  ·rcases List.mem_cons.1 hq with rfl|hq
   ·simp only[List.length_append]at hm ⊢;omega
   ·exact hl q (by simp[hq])
 ·rw[<-hn]at hown
  have:=T5 r _ (pre.length*sz+a.length) hown;have e1:(pre++(a++(r++b))::post).length=n:=by rw[hn];simp
  have e2:setAt (pre++(a++(m++b))::post).flatten (pre.length*sz+a.length) r=(pre++(a++(r++b))::post).flatten:=by
   have e3:∀x:List Value,(pre++(a++(x++b))::post).flatten=(pre.flatten++a)++(x++(b++post.flatten)):=fun x=>by
    rw[List.flatten_append,List.flatten_cons];simp only[List.append_assoc]
   have e4:pre.length*sz+a.length=(pre.flatten++a).length:=by rw[List.length_append,hpl]
   rw[e3,e3,e4,J8 r m _ _ hr]
  rw[e2]at this;rw[e1];exact this
theorem As.le {v:Value}{rows:List (List Value)}(h:As w B e sz v rows):rows.length<=maxLen:=by
 rcases h.2.2 with ⟨_,h2⟩|⟨g,cap,cur,_,_,_,h3,h4,_⟩
 ·omega
 ·omega
variable {P:Program}
theorem Ta (w:World)(b o:Nat)(ty:TypeId)(v:Value)(cs:List Value)(hv:v.cells=cs.toArray)(ht:w.there b o cs.length)(hi:(P.info? ty).map (·.size)=some cs.length)(h1:∀u∈cs,u.oneCell'=true) :
  (storeVar ty ⟨b,o,none⟩ v).run P w=.ok () (w.setCells b o cs):=by
 have:=run_storeCells_cells (P:=P) b o cs 0 w (fun j hj=>by simpa using (ht j hj).1) (fun j hj=>by simpa using (ht j hj).2) h1;cases hq:P.info? ty with
 |none=>simp[hq]at hi
 |some i=>
  have hs:cs.length=i.size:=by simp[hq]at hi;omega
  simp only[Nat.add_zero]at this;simp[storeVar,sizeOf,typeInfo,hq,hv,hs,this]
end
def Dt:Value->Bool
 |.pointer (some ⟨_,_,none⟩)=>true
 |_=>false
def C8:Value->Nat
 |.pointer (some ⟨b,_,_⟩)=>b
 |_=>0
def C7:Value->Nat
 |.pointer (some ⟨_,o,_⟩)=>o
 |_=>0
theorem Amn {v:Value}(h:Dt v=true):v=.pointer (some ⟨C8 v,C7 v,none⟩):=by
 unfold Dt at h;split at h
 ·rfl
 ·cases h
def Arn (n:Nat)(v:Value):Prop:=v.cells.toList.length=n/\∀u∈v.cells.toList,u.oneCell'=true
@[irreducible] def putsW (w:World) (b o:Nat) (cs:List Value):World:=w.setCells b o cs
theorem B9 (w:World)(b o:Nat)(cs:List Value):putsW w b o cs=w.setCells b o cs:=by unfold putsW;rfl
theorem Abk {P:Program}{T:TypeId}{n:Nat}(hi:(P.info? T).map (·.size)=some n){ρ:Operand->Value}{w:World}{dst:Option Tmp}{ty:TypeId}{pos:String}{after:Array Edge}{g:Option (Nat × Bool)}{x y:Operand}(hx:Dt (ρ x)=true)(hy:Arn n (ρ y))(ht:w.there (C8 (ρ x)) (C7 (ρ x)) n) :
  (execOp ρ ⟨dst,.store T x y,ty,pos,after,g⟩).run P w=.ok .skip (putsW w (C8 (ρ x)) (C7 (ρ x)) (ρ y).cells.toList):=by
 rw[B9];have hp:=Amn hx;generalize C8 (ρ x)=b at *;generalize C7 (ρ x)=o at *;unfold execOp;simp only[hp,Instr.storeAt,Instr.sureAddr,Sem.run_bind,Sem.run_pure,Result.andThen_ok,Ta (P:=P) w b o T (ρ y) (ρ y).cells.toList (by simp) (by rw[hy.1];exact ht) (by rw[hy.1];exact hi) hy.2]
end
section
attribute [local go_sem ↓] Jx
end
attribute [local go_sem] Entry.at0 Entry.Bo Entry.at1 Entry.Bk Entry.at2 Entry.Ca Entry.at3 Entry.Cg Entry.at4 Entry.Cx Entry.at5 Entry.Cw Entry.at6 Entry.Cv Entry.at7 Entry.Cu Entry.at8 Entry.Ct Entry.at9 Entry.Cs Entry.Ee Entry.C4 Entry.Fm Entry.Dm Entry.Fl Entry.Dl Entry.Ia Entry.Ep Entry.H9 Entry.Eo Entry.L3 Entry.Js Entry.L2 Entry.Jr Entry.L1 Entry.Jq Entry.len Ai Ag Af
section
attribute [local go_sem ↓] Jx
theorem Ap9 {ρ:Operand->Value}{w:World}{dst:Option Tmp}{ty:TypeId}{pos:String}{after:Array Edge}{g:Option (Nat × Bool)}{x:Operand} :
  (execOp ρ ⟨dst,.load 45 x,ty,pos,after,g⟩).run Tryz.prog w=Ar8 Tryz.prog w (rowAt w 11 (ρ x)) ρ ⟨dst,.load 45 x,ty,pos,after,g⟩:=As3 45 11 Tryz.underlying45 rfl (by kernel_rfl)
attribute [local go_sem ↓] Ap9
attribute [local go_sem] Akv
theorem Vq:Im Tryz.prog 8 45=some Ai2:=by kernel_rfl
theorem Ah.As4 {x y:Ah}(h:x.vals=y.vals):x=y:=by
 obtain⟨_,⟨_,_,_,_,_,_,_,_,_,_⟩⟩:=x;obtain⟨_,⟨_,_,_,_,_,_,_,_,_,_⟩⟩:=y;simp only[Ah.vals,Attr.vals,List.cons_append,List.nil_append,List.cons.injEq,Value.int.injEq,Value.bool.injEq,true_and,and_true]at h;obtain⟨h0,h1,h2,h3,h4,h5,h6,h7,h8,h9,h10⟩:=h
 subst_vars
 rfl
theorem Aa4 (x y:Ah)(w:World):(binOp .neq 45 (.agg x.vals.toArray) (.agg y.vals.toArray)).run Tryz.prog w=.ok (.bool (decide (x≠y))) w:=by
 by_cases h:x=y
 ·rw[Yu Vq (by kernel_rfl) w _ _ (by rfl) (by rw[h]),decide_eq_false (by simpa using h)]
 ·rw[U1 Vq (by kernel_rfl) w _ _ (by rfl) (by rfl) (fun e=>h (Ah.As4 e)),decide_eq_true h]
theorem Iv (x:Ah)(w:World):(binOp .neq 45 (.agg x.vals.toArray) (.agg #[.bool false,.int .i64 0,.int .i64 0,.int .i64 0,.int .i64 0,.int .i64 0,.int .i64 0,.int .i64 0,.int .i64 0,.int .i64 0,.int .i64 0])).run Tryz.prog w=.ok (.bool (decide (x≠Db))) w:=Aa4 x Db w
attribute [local go_sem ↓] Aa4 Iv
end
section
attribute [local go_sem ↓] Jx Fq Iv
theorem Rb (l:List UInt8)(c:UInt8)(w:World)(hl:l.length<=1000):Calls Tryz.prog 65 #[.string (bs l),.int .u8 c.toNat] w fun e w'=>e=.returned (.bool (l.contains c))/\w=w':=by
 have hsz:=Au l;go_enter Tryz.func65,Tryz.ntmps65
 go_wp2
 go_loopw [5] (fun iv wr=>∃k:Nat,k<=l.length/\iv=.int .i64 k/\(∀j (hj:j<l.length),j<k->l[j]≠c)/\wr=w) (fun iv _=>l.length - (intOf iv).toNat)
 case atStart=>exact⟨0,Nat.zero_le _,rfl,fun _ _ h=>absurd h (Nat.not_lt_zero _),rfl⟩
 case round=>
  obtain⟨k,hk,rfl,hno,rfl⟩:=hrel;by_cases hlt:k<l.length
  ·by_cases he:l[k]=c
   ·have HC:=Zh (show l.contains c=true by rw[List.contains_iff_mem,<-he];exact List.getElem_mem hlt)
    have hq:((((bs l)[k]'(by rw[hsz];exact hlt)).toNat:Int)==(c.toNat:Int))=true:=by rw[Rw,he];simp
    go_wp2;go_ret;rw[HC.out];exact⟨rfl,rfl⟩
   ·have hq:((((bs l)[k]'(by rw[hsz];exact hlt)).toNat:Int)==(c.toNat:Int))=false:=beq_false_of_ne fun h=>he (UInt8.toNat_inj.1 (by rw[Rw]at h;omega))
    have HN:=Zh (show ∀j (hj:j<l.length),j<k+1->l[j]≠c from fun j hj h=>by
     rcases Nat.lt_or_ge j k with h3|h3
     ·exact hno j hj h3
     ·obtain rfl:j=k:=by omega
      exact he)
    clear hno;go_wp2;go_roundw
    case rel=>exact⟨k+1,by omega,by go_num,HN.out,trivial⟩
    case measure=>simp[intOf];omega
  ·obtain rfl:k=l.length:=by omega
   have HC:=Zh (show l.contains c=false by
    rw[<-Bool.not_eq_true,List.contains_iff_mem];intro hm;obtain⟨j,hj,e⟩:=List.getElem_of_mem hm;exact hno j hj hj e)
   clear hno;go_wp2;go_ret;rw[HC.out];exact⟨rfl,rfl⟩
theorem Adm (is:Bool)(n most:Int)(w:World):Calls Tryz.prog 66 #[.bool is,.int .i64 n,.int .i64 most] w fun e w'=>e=.returned (.bool (if is then decide (0<=n) && decide (n<=most) else n==0))/\w=w':=by
 cases is
 all_goals
  go_enter Tryz.func66,Tryz.ntmps66
  go_wp2
  all_goals (go_ret;go_light;exact⟨A5 (by grind),rfl⟩)
end
section
attribute [local go_sem ↓] Fq Lb Iv
theorem Aa7:Im Tryz.prog 8 47=some Ar6:=by kernel_rfl
theorem Wcc.injF {x y:Wcc}(h:x.vals=y.vals):x=y:=by
 obtain⟨⟨_,_⟩,⟨_,⟨_,_,_,_,_,_,_,_,_,_⟩⟩⟩:=x;obtain⟨⟨_,_⟩,⟨_,⟨_,_,_,_,_,_,_,_,_,_⟩⟩⟩:=y;simp only[Wcc.vals,Opt.vals,Ah.vals,Attr.vals,List.cons_append,List.nil_append,List.cons.injEq,Value.int.injEq,Value.bool.injEq,true_and,and_true]at h;obtain⟨h0,h1,h2,h3,h4,h5,h6,h7,h8,h9,h10,h11,h12⟩:=h
 subst_vars
 rfl
def Arm:Wcc:=⟨⟨false,0⟩,Db⟩
theorem Ap5 (x y:Wcc)(w:World):(binOp .neq 47 (.agg x.vals.toArray) (.agg y.vals.toArray)).run Tryz.prog w=.ok (.bool (decide (x≠y))) w:=by
 by_cases h:x=y
 ·rw[Yu Aa7 (by kernel_rfl) w _ _ (by rfl) (by rw[h]),decide_eq_false (by simpa using h)]
 ·rw[U1 Aa7 (by kernel_rfl) w _ _ (by rfl) (by rfl) (fun e=>h (Wcc.injF e)),decide_eq_true h]
theorem Rl (x:Wcc)(w:World):(binOp .neq 47 (.agg x.vals.toArray) (.agg #[.bool false,.int .i64 0,.bool false,.int .i64 0,.int .i64 0,.int .i64 0,.int .i64 0,.int .i64 0,.int .i64 0,.int .i64 0,.int .i64 0,.int .i64 0,.int .i64 0])).run Tryz.prog w=.ok (.bool (decide (x≠Arm))) w:=Ap5 x Arm w
attribute [local go_sem ↓] Rl
def inL (l:List UInt8)(c:UInt8):Bool:=l.contains c
end
def Ar3 (Q:Exit->Act->World->Prop)(N:Act->World->Prop):Exit->Act->World->Prop
 |.normal,a,w=>N a w
 |e,a,w=>Q e a w
theorem Alz {P:Program}{o:Oper}{a:Act}{K:Act->World->Prop}{Q:Exit->Act->World->Prop}{N:Act->World->Prop}{r:Result Next}(h:o.upon P a K (Ar3 Q N) r):o.upon P a K Q r:=by
 unfold Oper.upon at *
 repeat' split at h
 all_goals first|exact h|(refine Calls.mono h ?_;intro e w he;cases e<;>exact he)|skip
theorem S6 {P:Program}{ops:Array Oper}{Q:Exit->Act->World->Prop}{N:Act->World->Prop}(l2:List Oper)(h2:∀a w,N a w->wpList P ops Q l2 a w):∀(l1:List Oper) (a:Act) (w:World),wpList P ops (Ar3 Q N) l1 a w->wpList P ops Q (l1++l2) a w
 |[],a,w,h=>h2 a w h
 |o::l1,a,w,h=>by
  rw[List.cons_append];unfold wpList at h ⊢;split
  ·next hw=>
   rw[if_pos hw]at h;rcases h with h|⟨h,h3⟩
   ·exact .inl (Alz (Oper.wp_mono (fun a w h=>S6 l2 h2 l1 a w h) h))
   ·exact .inr ⟨h,h3⟩
  ·next hw=>
   rw[if_neg hw]at h;exact S6 l2 h2 l1 _ w h
theorem J6 {P:Program}{ops:Array Oper}{Q:Exit->Act->World->Prop}(n:Nat){l:List Oper}{a:Act}{w:World}(N:Act->World->Prop)(h1:wpList P ops (Ar3 Q N) (l.take n) a w)(h2:∀a w,N a w->wpList P ops Q (l.drop n) a w):wpList P ops Q l a w:=by
 have h:=S6 (l.drop n) h2 (l.take n) a w h1
 rwa [List.take_append_drop]at h
attribute [local go_sem] Aa.at0 Aa.Bo Aa.at1 Aa.Bk Aa.at2 Aa.Ca Aa.at3 Aa.Cg Aa.at4 Aa.Cx Aa.at5 Aa.Cw Aa.at6 Aa.Cv Aa.at7 Aa.Cu Aa.at8 Aa.Ct Aa.at9 Aa.Cs Aa.Ee Aa.C4 Aa.Fm Aa.Dm Aa.Fl Aa.Dl Aa.Ia Aa.Ep Aa.H9 Aa.Eo Aa.Lx Aa.Hg Aa.Lw Aa.Hf Aa.Lv Aa.He Aa.Lu Aa.Hd Aa.Lt Aa.Hc Aa.Ls Aa.Ha Aa.Lr Aa.G9 Aa.Lq Aa.G8 Aa.Lp Aa.G7 Aa.Aah Aa.Sx Aa.Aag Aa.Sw Aa.Aaf Aa.Sv Aa.Aae Aa.Su Aa.Aad Aa.St Aa.Aac Aa.Ss Aa.Afz Aa.Wn Aa.Afy Aa.Wm Aa.Afx Aa.Wl Aa.Afw Aa.Wk Aa.Afv Aa.Wj Aa.Afu Aa.Wi Aa.Aft Aa.Wh Aa.Afs Aa.Wg Aa.Afr Aa.Wf Aa.Afq Aa.We Aa.Afp Aa.Wd Aa.Afo Aa.Wc Aa.Afn Aa.Wb Aa.Afm Aa.Wa Aa.Afl Aa.V9 Aa.Afk Aa.V8 Aa.Afj Aa.V7 Aa.Afi Aa.V6 Aa.Afh Aa.V0 Aa.Afg Aa.Vz Aa.Aff Aa.Vy Aa.Afe Aa.Vx Aa.Afd Aa.Vw Aa.Afc Aa.Vv Aa.Afb Aa.Vu Aa.Afa Aa.Vt Aa.Ae9 Aa.Vs Aa.Ae8 Aa.Vr Aa.Oq Aa.Mu Aa.Fa Aa.Ec Aa.E9 Aa.Eb Aa.Mj Aa.Kh Aa.Mi Aa.Kg Aa.Mh Aa.Kf Aa.Oo Aa.Mt Aa.Mg Aa.Ke Aa.Mf Aa.Kd Aa.Me Aa.Kc Aa.On Aa.Ms Aa.Md Aa.Kb Aa.Mc Aa.Ka Aa.len Entry.at0 Entry.Bo Entry.at1 Entry.Bk Entry.at2 Entry.Ca Entry.at3 Entry.Cg Entry.at4 Entry.Cx Entry.at5 Entry.Cw Entry.at6 Entry.Cv Entry.at7 Entry.Cu Entry.at8 Entry.Ct Entry.at9 Entry.Cs Entry.Ee Entry.C4 Entry.Fm Entry.Dm Entry.Fl Entry.Dl Entry.Ia Entry.Ep Entry.H9 Entry.Eo Entry.L3 Entry.Js Entry.L2 Entry.Jr Entry.L1 Entry.Jq Entry.len
section
attribute [local go_sem ↓] Qg
def Zv (n m:Nat)(w:World)(e:Ending)(w':World):Prop:=∃b,e=.returned (.bool b)/\(b=false->n<=70/\m<=30)/\Below w.heap.size w w'
theorem Zv.of {n m:Nat}{w w':World}(b:Bool)(h:b=false->n<=70/\m<=30)(hb:Below w.heap.size w w'):Zv n m w (.returned (.bool b)) w':=⟨b,rfl,h,hb⟩
theorem Zz (x:Qv)(w:World)(hx:x.Kk w) :
  Calls Tryz.prog 24 #[.agg x.r.vals.toArray] w (Zv x.es.length x.us.length w):=by
 obtain⟨x,l,p⟩:=x;obtain⟨ne,nu,le,lu,hAe,-⟩:=hx;simp only at ne nu le lu hAe ⊢
 have hB:Below w.heap.size w (w.alloc (.cells x.vals.toArray 51)):=(Below.refl _ _).alloc (Nat.le_refl _) _;have hX:=Blk.new w 51 x.vals;have hAe:=hAe.below hB;go_enter Tryz.func24,Tryz.ntmps24
 go_wp2;generalize w.alloc (.cells x.vals.toArray 51)=w1 at *;have a56:w1.cell? ⟨w.heap.size,56,none⟩=some (.slice x.ea l.length x.ec):=by rw[hX.cell 56,<-ne];rfl
 have a57:w1.cell? ⟨w.heap.size,57,none⟩=some (.slice x.ua p.length x.uc):=by rw[hX.cell 57,<-nu];rfl
 have a1:w1.cell? ⟨w.heap.size,1,none⟩=some (.string (bs x.fh)):=hX.cell 1;have a50:w1.cell? ⟨w.heap.size,53,none⟩=some (.string (bs x.data)):=hX.cell 53;have zf:=Au x.fh;have zd:=Au x.data;have hltX:=hX.lt;have HB:=Zh hB;clear hB hX ne nu;generalize x.ea=xa at *;generalize x.ua=xu at *;generalize x.ec=xc at *;generalize x.uc=xd at *;generalize x.fh=fh at *;generalize x.data=dt at *
 go_loop [3] (fun i=>∃k:Nat,k<=l.length/\k<=70/\i=.int .i64 k) (fun i=>l.length - (intOf i).toNat)
 case atStart=>exact⟨0,Nat.zero_le _,by omega,rfl⟩
 case round=>
  obtain⟨k,hk,hk7,rfl⟩:=hrel;by_cases hlt:k<l.length/\k<70
  ·obtain⟨hlt,hlt7⟩:=hlt
   obtain⟨b,off,rfl,hb,-,hc⟩:=Hw Entry.len (by omega) hAe hlt;have c1:=hc 1 (.string (bs l[k].name)) rfl;have c4:=hc 14 (.string (bs l[k].fh)) rfl;have z1:=Au l[k].name;have z4:=Au l[k].fh;clear hc hAe;generalize l[k]=y at *;go_wp2
   case roundEnd=>
    go_round
    case rel=>exact⟨k+1,by omega,by omega,by go_num⟩
    case measure=>simp[intOf];omega
   all_goals (go_ret;exact Zv.of true (fun h=>by cases h) HB.out)
  ·have hE:l.length<=k\/70<=k:=by omega
   clear hlt hAe;by_cases h1:k<l.length
   ·have p1:(k:Int)<(l.length:Int):=by omega
    have p2:¬(k:Int)<70:=by omega
    have p3:(70:Int)<(l.length:Int):=by omega
    clear hE h1;go_wp2
    all_goals (go_ret;exact Zv.of true (fun h=>by cases h) HB.out)
   ·have p1:¬(k:Int)<(l.length:Int):=by omega
    have p3:¬(70:Int)<(l.length:Int):=by omega
    clear hE h1;go_wp2
    all_goals (go_ret;first|exact Zv.of true (fun h=>by cases h) HB.out|exact Zv.of _ (fun _=>by omega) HB.out)
end
end Go.Proofs.YtfjflkmhhbhceaaGreatDoor
