/-
  Layer 8 in plain words: what is taken of results, laid once more, is the bytes. Condition: a machine text.
-/
import Derived.Test.YtfjflkmhhbhceaaGreatDoorO21
import Derived.Test.YtfjflkmhhbhceaaGreatDoorO17
import Derived.Test.YtfjflkmhhbhceaaGreatDoorO07
import Derived.Test.YtfjflkmhhbhceaaGreatDoorO13
import Derived.Test.YtfjflkmhhbhceaaGreatDoorO05
import Derived.Test.YtfjflkmhhbhceaaGreatDoorO03
set_option maxRecDepth 20000
set_option maxHeartbeats 40000000
namespace Go.Proofs.YtfjflkmhhbhceaaGreatDoor
open Go.RowKit
theorem Ob {α:Type}{ok:α->Bool}{n:α}{x:α × Rs}(h:((Cf ok n x).2==0)=true):x.2.e=0/\ok x.1=true/\(Cf ok n x).1=x.1:=by
 unfold Cf at *;by_cases h1:x.2.e≠0
 ·rw[if_pos h1]at h;exact absurd (by simpa using h) h1
 ·rw[if_neg h1]at *
  by_cases h2:ok x.1=true
  ·rw[if_pos h2];exact⟨by simpa using h1,h2,rfl⟩
  ·rw[if_neg h2]at h;simp at h
theorem Ae6 (t m k u g s i n c z:Nat):(Attr.mk t m k u g s i n c z).bytes=Aa6 Jd [t,m,k,u,g,s,i,n,c,z]:=by
 simp only[Attr.bytes,Jd,Aa6,Ark,Arl,Int.toNat_natCast,List.append_assoc,List.append_nil]
theorem Ady {r:Rs}(h0:r.e=0)(h:(Gt r).2.e=0):r.s=(Gt r).1.bytes++(Gt r).2.s:=by
 have e1:=Agw Jd h0 h;have hl:=M9 Jd r;unfold Gt;generalize Gs Jd r=x at *;obtain⟨l,q⟩:=x;simp only at *
 match l,hl with
 |[t,m,k,u,g,s,i,n,c,z],_=>
  show r.s=(Attr.mk t m k u g s i n c z).bytes++q.s
  rw[Ae6];exact e1
theorem Acb {r:Rs}(h:r.e≠0):(Gt r).2=r:=by
 show (Gs Jd r).2=r
 exact Vi _ h
theorem T2 {r:Rs}(h:r.e≠0):(Bh r).2=r:=by
 unfold Bh;rw[Adx h];simp
theorem Ox {r:Rs}(h0:r.e=0)(h:(Bh r).2.e=0):r.s=(Bh r).1.bytes++(Bh r).2.s:=by
 have hb:(Bw r).2.e=0:=by
  apply Classical.byContradiction
  intro hc;unfold Bh at h;split at h
  ·rw[Acb hc]at h;exact hc h
  ·exact hc h
 have e1:=P5 h0 hb;unfold Bh at *;cases hi:(Bw r).1
 ·rw[hi]at e1
  rw[if_neg (by simp)];exact e1
 ·rw[hi]at e1 h
  rw[if_pos rfl]at h ⊢;have e2:=Ady hb h
  show r.s=Jo true++(Gt (Bw r).2).1.bytes++(Gt (Bw r).2).2.s
  rw[List.append_assoc,<-e2];exact e1
theorem Yg {r:Rs}(h0:r.e=0)(h:(Ei r).2.e=0):r.s=(Ei r).1.bytes++(Ei r).2.s:=by
 have hb:(Fp r).2.e=0:=by
  apply Classical.byContradiction
  intro hc;unfold Ei at h;rw[T2 hc]at h;exact hc h
 have e1:=(Aj7 h0 hb).1;have e2:=Ox hb h
 show r.s=Sg (Fp r).1.1 ((Fp r).1.2:Int)++(Bh (Fp r).2).1.bytes++(Bh (Fp r).2).2.s
 rw[List.append_assoc,<-e2];exact e1
def J4 (whole:Bool)(x:Entry):List UInt8:=num x.gen.toNat 8++opq x.name++num x.cookie.toNat 8++(if whole then x.attr.bytes++opq x.fh else [])
def Qc (n:Int):List UInt8:=num n.toNat 8
def rB8 (d:Dd)(c:Nat):List UInt8:=
 if c=104 then opq d.f.fh
 else if c=97 then d.f.obj.bytes
 else if c=68 then d.f.dir.bytes
 else if c=119 then d.f.wcc.bytes
 else if c=87 then d.f.wcc2.bytes
 else if c=120 then num d.f.access.toNat 4
 else if c=99 then num d.f.count.toNat 4
 else if c=115 then num d.f.stable.toNat 4
 else if c=118 then num d.f.verf.toNat 8
 else if c=101 then Jo d.f.eof
 else if c=100 then opq d.f.data
 else if c=110 then num d.us.length 4++d.us.flatMap Qc
 else if c=108 then num d.es.length 4++d.es.flatMap (J4 false)
 else if c=112 then num d.es.length 4++d.es.flatMap (J4 true)
 else []
def Rj (n:Int):Prop:=0<=n/\n<=9223372036854775807
def Xn (whole:Bool)(x:Entry):Prop:=Rj x.gen/\x.name.length<=255/\Rj x.cookie/\(whole=true->x.attr.ok=true/\x.attr.C9/\x.fh.length<=64)
def rM8 (d:Dd)(c:Nat):Prop:=
 if c=104 then d.f.fh.length<=64
 else if c=97 then d.f.obj.ok=true/\d.f.obj.C9
 else if c=68 then d.f.dir.ok=true/\d.f.dir.C9
 else if c=119 then d.f.wcc.ok=true/\d.f.wcc.C9
 else if c=87 then d.f.wcc2.ok=true/\d.f.wcc2.C9
 else if c=120 then Rj d.f.access
 else if c=99 then Rj d.f.count
 else if c=115 then Rj d.f.stable
 else if c=118 then Rj d.f.verf
 else if c=101 then True
 else if c=100 then d.f.data.length<=256
 else if c=110 then d.us.length<=16/\∀n∈d.us,Rj n
 else if c=108 then d.es.length<=64/\∀x∈d.es,Xn false x
 else if c=112 then d.es.length<=64/\∀x∈d.es,Xn true x
 else True
theorem Yt {r:Rs}(h0:r.e=0):∀k,(B8 r k).2.e=0->r.s=(B8 r k).1.flatMap Qc++(B8 r k).2.s/\(B8 r k).1.length=k/\∀n∈(B8 r k).1,Rj n
 |0,_=>⟨rfl,rfl,fun n hn=>absurd hn (by simp[B8])⟩
 |k+1,h=>by
  have hs:(B8 r (k+1)).2=(Bn (B8 r k).2).2:=rfl;have hv:(B8 r (k+1)).1=(B8 r k).1++[((Bn (B8 r k).2).1:Int)]:=rfl;rw[hs]at h;have he:(B8 r k).2.e=0:=by
   apply Classical.byContradiction
   intro hc;rw[P4 hc]at h;exact hc h
  obtain⟨e1,e2,e3⟩:=Yt h0 k he;obtain⟨f1,f2⟩:=Nf he h;rw[hs,hv];refine⟨?_,by simp[e2],fun n hn=>?_⟩
  ·rw[List.flatMap_append,List.append_assoc]
   show r.s=(B8 r k).1.flatMap Qc++(([((Bn (B8 r k).2).1:Int)].flatMap Qc)++(Bn (B8 r k).2).2.s)
   have:[((Bn (B8 r k).2).1:Int)].flatMap Qc=num (Bn (B8 r k).2).1 8:=by simp[Qc]
   rw[this,<-f1];exact e1
  ·rcases List.mem_append.1 hn with hn|hn
   ·exact e3 n hn
   ·simp only[List.mem_cons,List.not_mem_nil,or_false]at hn
    subst hn;exact⟨by omega,by omega⟩
theorem Aa2 {r:Rs}(h0:r.e=0)(h:(Hr r).2.e=0):r.s=J4 false (Hr r).1++(Hr r).2.s/\Xn false (Hr r).1:=by
 have h':(Bn (Ao 255 (Bn r).2).2).2.e=0:=h;have h2:(Ao 255 (Bn r).2).2.e=0:=by
  apply Classical.byContradiction
  intro hc;rw[P4 hc]at h';exact hc h'
 have h1:(Bn r).2.e=0:=by
  apply Classical.byContradiction
  intro hc;rw[Z7 hc]at h2;exact hc h2
 obtain⟨e1,e2⟩:=Nf h0 h1;obtain⟨f1,f2⟩:=M7 (most:=255) h1 h2;obtain⟨g1,g2⟩:=Nf h2 h';refine⟨?_,⟨⟨?_,?_⟩,?_,⟨?_,?_⟩,fun h=>absurd h (by simp)⟩⟩
 ·show r.s=num ((Bn r).1:Int).toNat 8++opq (Ao 255 (Bn r).2).1++num ((Bn (Ao 255 (Bn r).2).2).1:Int).toNat 8++[]++(Bn (Ao 255 (Bn r).2).2).2.s
  rw[Int.toNat_natCast,Int.toNat_natCast,List.append_nil,List.append_assoc,<-g1,List.append_assoc,<-f1];exact e1
 ·show (0:Int)<=((Bn r).1:Int);omega
 ·show ((Bn r).1:Int)<=9223372036854775807;omega
 ·show (Ao 255 (Bn r).2).1.length<=255;omega
 ·show (0:Int)<=((Bn (Ao 255 (Bn r).2).2).1:Int);omega
 ·show ((Bn (Ao 255 (Bn r).2).2).1:Int)<=9223372036854775807;omega
theorem Akn {whole:Bool}{r:Rs}(h0:r.e=0)(hl:r.s.length<=9223372036854775807)(h:E7 whole r=true):r.s=J4 whole (Hq whole r).1++(Hq whole r).2.s/\Xn whole (Hq whole r).1/\(Hq whole r).2.e=0:=by
 have hlA:=Ys hl;unfold E7 at h;rw[Bool.and_eq_true]at h;obtain⟨h1,h2⟩:=h;have h2:(Hq whole r).2.e=0:=eq_of_beq h2;cases whole
 ·obtain⟨e1,e2⟩:=Aa2 h0 h2
  exact⟨e1,e2,h2⟩
 ·obtain⟨p1,p2,p3⟩:=Ob (x:=Bh (Hr r).2) h1
  have hA:(Hr r).2.e=0:=by
   apply Classical.byContradiction
   intro hc;rw[T2 hc]at p1;exact hc p1
  obtain⟨e1,e2,e3,e4,_⟩:=Aa2 h0 hA;have f1:=Ox hA p1;have h2':(Ao 64 (Bh (Hr r).2).2).2.e=0:=h2;obtain⟨g1,g2⟩:=M7 (most:=64) p1 h2';have hv:Hq true r=({ (Hr r).1 with attr:=(Cf Ah.ok Bb (Bh (Hr r).2)).1,fh:=(Ao 64 (Bh (Hr r).2).2).1 },(Ao 64 (Bh (Hr r).2).2).2):=rfl;rw[hv,p3];refine⟨?_,⟨e2,e3,e4,fun _=>⟨p2,Li hlA,?_⟩⟩,h2'⟩
  ·show r.s=num (Hr r).1.gen.toNat 8++opq (Hr r).1.name++num (Hr r).1.cookie.toNat 8++((Bh (Hr r).2).1.bytes++opq (Ao 64 (Bh (Hr r).2).2).1)++(Ao 64 (Bh (Hr r).2).2).2.s
   have e1':r.s=num (Hr r).1.gen.toNat 8++opq (Hr r).1.name++num (Hr r).1.cookie.toNat 8++[]++(Hr r).2.s:=e1;rw[List.append_nil]at e1';rw[List.append_assoc _ _ (Ao 64 (Bh (Hr r).2).2).2.s,List.append_assoc _ _ (Ao 64 (Bh (Hr r).2).2).2.s,<-g1,<-f1];exact e1'
  ·show (Ao 64 (Bh (Hr r).2).2).1.length<=64
   omega
theorem Tp {whole:Bool}{r:Rs}(h0:r.e=0)(hl:r.s.length<=9223372036854775807):∀k,(∀i,i<k->E7 whole (Bd whole r i).2=true)->r.s=(Bd whole r k).1.flatMap (J4 whole)++(Bd whole r k).2.s/\(∀x∈(Bd whole r k).1,Xn whole x)/\(Bd whole r k).2.e=0
 |0,_=>⟨rfl,fun n hn=>absurd hn (by simp[Bd]),h0⟩
 |k+1,h=>by
  obtain⟨e1,e2,e3⟩:=Tp h0 hl k fun i hi=>h i (by omega)
  obtain⟨f1,f2,f3⟩:=Akn e3 (Ni hl k) (h k (by omega));have hs:(Bd whole r (k+1)).2=(Hq whole (Bd whole r k).2).2:=rfl;have hv:(Bd whole r (k+1)).1=(Bd whole r k).1++[(Hq whole (Bd whole r k).2).1]:=rfl;rw[hs,hv];refine⟨?_,fun x hx=>?_,f3⟩
  ·rw[List.flatMap_append,List.append_assoc,List.flatMap_singleton,<-f1]
   exact e1
  ·rcases List.mem_append.1 hx with hx|hx
   ·exact e2 x hx
   ·simp only[List.mem_cons,List.not_mem_nil,or_false]at hx
    subst hx;exact f2
theorem Ag9 {n:Nat}(h:n<4294967296):Rj (n:Int):=⟨by omega,by omega⟩
theorem Ap7 {n:Nat}(h:n<9223372036854775808):Rj (n:Int):=⟨by omega,by omega⟩
theorem Amt (c:Nat)(hc:Hp c)(d:Dd){r:Rs}(h0:r.e=0)(hl:r.s.length<=9223372036854775807)(hk:Qr c r=true) :
  r.s=rB8 (pTk c d r).1 c++(pTk c d r).2.s/\(pTk c d r).2.e=0/\rM8 (pTk c d r).1 c:=by
 have hd:∀n:Nat,((n:Int)).toNat=n:=fun n=>Int.toNat_natCast n
 have hl4:=Nat.le_trans (Em hl) hl;rcases hc with rfl|rfl|rfl|rfl|rfl|rfl|rfl|rfl|rfl|rfl|rfl|rfl|rfl|rfl
 ·have h:(Ao 64 r).2.e=0:=eq_of_beq hk
  obtain⟨e1,e2⟩:=M7 (most:=64) h0 h;exact⟨e1,h,show (Ao 64 r).1.length<=64 by omega⟩
 ·obtain⟨p1,p2,p3⟩:=Ob (x:=Bh r) hk
  have e1:=Ox h0 p1;refine⟨?_,p1,?_⟩
  ·show r.s=(Cf Ah.ok Bb (Bh r)).1.bytes++(Bh r).2.s
   rw[p3];exact e1
  ·show (Cf Ah.ok Bb (Bh r)).1.ok=true/\(Cf Ah.ok Bb (Bh r)).1.C9
   rw[p3];exact⟨p2,Li hl⟩
 ·obtain⟨p1,p2,p3⟩:=Ob (x:=Bh r) hk
  have e1:=Ox h0 p1;refine⟨?_,p1,?_⟩
  ·show r.s=(Cf Ah.ok Bb (Bh r)).1.bytes++(Bh r).2.s
   rw[p3];exact e1
  ·show (Cf Ah.ok Bb (Bh r)).1.ok=true/\(Cf Ah.ok Bb (Bh r)).1.C9
   rw[p3];exact⟨p2,Li hl⟩
 ·obtain⟨p1,p2,p3⟩:=Ob (x:=Ei r) hk
  have e1:=Yg h0 p1;refine⟨?_,p1,?_⟩
  ·show r.s=(Cf Wcc.ok Df (Ei r)).1.bytes++(Ei r).2.s
   rw[p3];exact e1
  ·show (Cf Wcc.ok Df (Ei r)).1.ok=true/\(Cf Wcc.ok Df (Ei r)).1.C9
   rw[p3];exact⟨p2,Ut hl⟩
 ·obtain⟨p1,p2,p3⟩:=Ob (x:=Ei r) hk
  have e1:=Yg h0 p1;refine⟨?_,p1,?_⟩
  ·show r.s=(Cf Wcc.ok Df (Ei r)).1.bytes++(Ei r).2.s
   rw[p3];exact e1
  ·show (Cf Wcc.ok Df (Ei r)).1.ok=true/\(Cf Wcc.ok Df (Ei r)).1.C9
   rw[p3];exact⟨p2,Ut hl⟩
 ·have h:(Am r).2.e=0:=eq_of_beq hk
  obtain⟨e1,e2⟩:=Jg h0 h;exact⟨(congrArg (fun n=>num n 4++(Am r).2.s) (hd _)).symm ▸ e1,h,Ag9 e2⟩
 ·have h:(Am r).2.e=0:=eq_of_beq hk
  obtain⟨e1,e2⟩:=Jg h0 h;exact⟨(congrArg (fun n=>num n 4++(Am r).2.s) (hd _)).symm ▸ e1,h,Ag9 e2⟩
 ·have h:(Am r).2.e=0:=eq_of_beq hk
  obtain⟨e1,e2⟩:=Jg h0 h;exact⟨(congrArg (fun n=>num n 4++(Am r).2.s) (hd _)).symm ▸ e1,h,Ag9 e2⟩
 ·have h:(Bn r).2.e=0:=eq_of_beq hk
  obtain⟨e1,e2⟩:=Nf h0 h;exact⟨(congrArg (fun n=>num n 8++(Bn r).2.s) (hd _)).symm ▸ e1,h,Ap7 e2⟩
 ·have h:(Bw r).2.e=0:=eq_of_beq hk
  exact⟨P5 h0 h,h,trivial⟩
 ·have h:(Ao 256 r).2.e=0:=eq_of_beq hk
  obtain⟨e1,e2⟩:=M7 (most:=256) h0 h;exact⟨e1,h,show (Ao 256 r).1.length<=256 by omega⟩
 ·have hk':(decide ((Am r).1<=16) && ((B8 (Am r).2 (Am r).1).2.e==0))=true:=hk
  rw[Bool.and_eq_true]at hk';obtain⟨h1,h2⟩:=hk';have h1:(Am r).1<=16:=of_decide_eq_true h1;have h2:(B8 (Am r).2 (Am r).1).2.e=0:=eq_of_beq h2;have h3:(Am r).2.e=0:=by
   apply Classical.byContradiction
   intro hc;have:∀k,(B8 (Am r).2 k).2=(Am r).2:=fun k=>by
    induction k with
    |zero=>rfl
    |succ k ih=>show (Bn (B8 (Am r).2 k).2).2=_;rw[ih,P4 hc]
   rw[this]at h2;exact hc h2
  obtain⟨e1,e2⟩:=Jg h0 h3;obtain⟨f1,f2,f3⟩:=Yt h3 _ h2;refine⟨?_,h2,?_⟩
  ·show r.s=num (B8 (Am r).2 (Am r).1).1.length 4++(B8 (Am r).2 (Am r).1).1.flatMap Qc++(B8 (Am r).2 (Am r).1).2.s
   rw[f2,List.append_assoc,<-f1];exact e1
  ·show (B8 (Am r).2 (Am r).1).1.length<=16/\∀n∈(B8 (Am r).2 (Am r).1).1,Rj n
   exact⟨by omega,f3⟩
 ·have hk':(decide ((Am r).1<=64) && (((Am r).2.e==0) && (List.range (Am r).1).all fun i=>E7 false (Bd false (Am r).2 i).2))=true:=hk
  rw[Bool.and_eq_true,Bool.and_eq_true]at hk';obtain⟨h1,h2,h3⟩:=hk';have h1:(Am r).1<=64:=of_decide_eq_true h1;have h2:(Am r).2.e=0:=eq_of_beq h2;obtain⟨e1,e2⟩:=Jg h0 h2;obtain⟨f1,f2,f3⟩:=Tp (whole:=false) h2 hl4 (Am r).1 fun i hi=>List.all_eq_true.1 h3 i (by simpa using hi)
  have f4:=Ki false (Am r).2 (Am r).1;refine⟨?_,f3,?_⟩
  ·show r.s=num (Bd false (Am r).2 (Am r).1).1.length 4++(Bd false (Am r).2 (Am r).1).1.flatMap (J4 false)++(Bd false (Am r).2 (Am r).1).2.s
   rw[f4,List.append_assoc,<-f1];exact e1
  ·show (Bd false (Am r).2 (Am r).1).1.length<=64/\∀n∈(Bd false (Am r).2 (Am r).1).1,Xn false n
   exact⟨by omega,f2⟩
 ·have hk':(decide ((Am r).1<=64) && (((Am r).2.e==0) && (List.range (Am r).1).all fun i=>E7 true (Bd true (Am r).2 i).2))=true:=hk
  rw[Bool.and_eq_true,Bool.and_eq_true]at hk';obtain⟨h1,h2,h3⟩:=hk';have h1:(Am r).1<=64:=of_decide_eq_true h1;have h2:(Am r).2.e=0:=eq_of_beq h2;obtain⟨e1,e2⟩:=Jg h0 h2;obtain⟨f1,f2,f3⟩:=Tp (whole:=true) h2 hl4 (Am r).1 fun i hi=>List.all_eq_true.1 h3 i (by simpa using hi)
  have f4:=Ki true (Am r).2 (Am r).1;refine⟨?_,f3,?_⟩
  ·show r.s=num (Bd true (Am r).2 (Am r).1).1.length 4++(Bd true (Am r).2 (Am r).1).1.flatMap (J4 true)++(Bd true (Am r).2 (Am r).1).2.s
   rw[f4,List.append_assoc,<-f1];exact e1
  ·show (Bd true (Am r).2 (Am r).1).1.length<=64/\∀n∈(Bd true (Am r).2 (Am r).1).1,Xn true n
   exact⟨by omega,f2⟩
def Adc (c:Nat):Nat:=if c=112 then 108 else c
theorem Aki (c e:Nat)(hc:Hp c)(he:Hp e)(hne:Adc c≠Adc e)(d:Dd)(r:Rs):rB8 (pTk c d r).1 e=rB8 d e/\rM8 (pTk c d r).1 e=rM8 d e:=by
 rcases hc with rfl|rfl|rfl|rfl|rfl|rfl|rfl|rfl|rfl|rfl|rfl|rfl|rfl|rfl <;>
 rcases he with rfl|rfl|rfl|rfl|rfl|rfl|rfl|rfl|rfl|rfl|rfl|rfl|rfl|rfl <;>
 first|exact absurd rfl hne|exact⟨rfl,rfl⟩
theorem Ag3 (c:Nat)(hc:Hp c)(d:Dd)(r:Rs):(pTk c d r).1.f.status=d.f.status:=by
 rcases hc with rfl|rfl|rfl|rfl|rfl|rfl|rfl|rfl|rfl|rfl|rfl|rfl|rfl|rfl<;>rfl
def La (d:Dd)(l:List UInt8)(k:Nat):List UInt8:=(l.take k).flatMap fun c=>rB8 d c.toNat
theorem Tf (d:Dd)(l:List UInt8)(k:Nat)(hk:k<l.length):La d l (k+1)=La d l k++rB8 d l[k].toNat:=by
 unfold La;rw[List.take_add_one,List.getElem?_eq_getElem hk,List.flatMap_append];simp
theorem Ad2 {x y:Dd}{l:List UInt8}{k:Nat}(h:∀c∈l.take k,rB8 x c.toNat=rB8 y c.toNat):La x l k=La y l k:=by
 unfold La;generalize l.take k=m at *
 induction m with
 |nil=>rfl
 |cons a m ih=>rw[List.flatMap_cons,List.flatMap_cons,h a (by simp),ih (fun c hc=>h c (by simp[hc]))]
theorem Amu (l:List UInt8)(hl:∀k (hk:k<l.length),Hp l[k].toNat)(hn:(l.map fun c=>Adc c.toNat).Nodup)(d:Dd)(r:Rs)(h0:r.e=0)(hr:r.s.length<=9223372036854775807)(hok:∀k,k<l.length->Nv l d r k=true)(k:Nat)(hk:k<=l.length) :
  r.s=La (pSt l d r k).1 l k++(pSt l d r k).2.s/\(pSt l d r k).2.e=0/\(pSt l d r k).1.f.status=d.f.status/\∀j (hj:j<k),rM8 (pSt l d r k).1 (l[j]'(by omega)).toNat:=by
 induction k with
 |zero=>exact⟨rfl,h0,rfl,fun j hj=>absurd hj (by omega)⟩
 |succ k ih=>
  have hk':k<l.length:=hk;obtain⟨e1,e2,e4,e3⟩:=ih (by omega);have ho:=hok k hk';have ho:Qr l[k].toNat (pSt l d r k).2=true:=by
   unfold Nv at ho
   simpa[List.getD,List.getElem?_eq_getElem hk'] using ho
  obtain⟨f1,f2,f3⟩:=Amt _ (hl k hk') (pSt l d r k).1 e2 (Xp l d hr k (by omega)) ho;have f4:=Ag3 _ (hl k hk') (pSt l d r k).1 (pSt l d r k).2;rw[Ps _ _ _ _ hk'];have hoth:∀j (hj:j<k),_:=fun j hj=>Aki l[k].toNat (l[j]'(by omega)).toNat (hl k hk') (hl j (by omega)) (fun h=>by
   have:=(List.pairwise_iff_getElem.1 hn) j k (by rw[List.length_map];omega) (by rw[List.length_map];omega) hj;rw[List.getElem_map,List.getElem_map]at this;exact this h.symm) (pSt l d r k).1 (pSt l d r k).2
  generalize pTk l[k].toNat (pSt l d r k).1 (pSt l d r k).2=y at *;refine⟨?_,f2,f4.trans e4,?_⟩
  ·rw[Tf _ _ _ hk',List.append_assoc,<-f1,Ad2 (y:=(pSt l d r k).1)]
   ·exact e1
   ·intro c hc
    obtain⟨j,hj,rfl⟩:=List.getElem_of_mem hc;have hj2:j<k:=by rw[List.length_take]at hj;omega
    rw[List.getElem_take];exact(hoth j hj2).1
  ·intro j hj
   by_cases hjk:j=k
   ·subst hjk;exact f3
   ·rw[(hoth j (by omega)).2];exact e3 j (by omega)
theorem Xk (fine:Bool):∀s∈Dn fine,(s.map fun c=>Adc c.toNat).Nodup:=by cases fine<;>decide
theorem Z8 (p:Int)(fine:Bool):((Bg p fine).map fun c=>Adc c.toNat).Nodup:=by
 unfold Bg;split
 ·exact List.nodup_nil
 ·rcases Nat.lt_or_ge p.toNat (Dn fine).length with h|h
  ·have he:(Dn fine).getD p.toNat []=(Dn fine)[p.toNat]:=by simp[List.getD,List.getElem?_eq_getElem h]
   rw[he];exact Xk fine _ (List.getElem_mem h)
  ·simp[List.getD,List.getElem?_eq_none h]
attribute [local go_sem ↓] Go.wp_at_zero Go.wp_at_succ
attribute [local go_sem] Ai Ag Af Ab Aj
section
attribute [local go_sem ↓] Fq Lb
structure Oe (g b:Nat) (z:Aa) (r:Rs) (w w':World):Prop where
 R:RdF w' g r
 C:Blk w' b 51 z.vals
 T:Touch (fun k=>k=g\/k=b) w w'
theorem Aqn (g b:Nat)(z:Aa)(r:Rs)(w:World)(hR:RdF w g r)(hA:Blk w b 51 z.vals)(hne:b≠g)(_hl:r.s.length<=9223372036854775807):Calls Tryz.prog 105 #[.pointer (some ⟨g,0,none⟩),.pointer (some ⟨b,0,none⟩),.int .u8 104] w fun e w'=>e=.returned (.bool ((Ao 64 r).2.e==0))/\Oe g b ({ z with fh:=(Ao 64 r).1 }) ((Ao 64 r).2) w w':=by
 have hG:=El g 64 r w hR _hl;generalize Ao 64 r=x at *;have HG:=Zh hG;clear hG;go_enter Tryz.func105,Tryz.ntmps105
 go_wp2_with fail;refine HG.out.mono ?_
 rintro e w1 ⟨rfl,hQ⟩;have hA1:Blk w1 b 51 z.vals:=hQ.keeps hA hne;have hf:=hA1.frozen 1;have hc:=hA1.cell 1;have hc:(w1.cell? ⟨b,1,none⟩).isSome=true:=by rw[hc];rfl
 obtain⟨old,hc⟩:=Option.isSome_iff_exists.1 hc;have hA2:Blk (w1.setCell ⟨b,1,none⟩ (.string (bs x.1))) b 51 ({ z with fh:=x.1 }:Aa).vals:=hA1.Be 1 (.string (bs x.1));have hR2:RdF (w1.setCell ⟨b,1,none⟩ (.string (bs x.1))) g x.2:=hQ.1.Ak ((Touch.refl (fun k=>k=b) w1).An (g:=b) (o:=1) (.inl rfl) (.string (bs x.1))) (fun e=>hne e.symm);have hT2:Touch (fun k=>k=g\/k=b) w (w1.setCell ⟨b,1,none⟩ (.string (bs x.1))):=(hQ.2.mono fun _ _ h=>.inl h).An (g:=b) (o:=1) (.inl (.inr rfl)) (.string (bs x.1));have hE:=A6.err hQ.1;have hne':¬b=g:=hne;have hne2:¬g=b:=fun e=>hne e.symm
 have HL:=Zh (And.intro hR2 (And.intro hA2 hT2));clear hR2 hA2 hT2 hQ hA1 hA hR HG;go_wp2;go_ret;exact⟨rfl,HL.out.1,HL.out.2.1,HL.out.2.2⟩
theorem Aqg (g b:Nat)(z:Aa)(r:Rs)(w:World)(hR:RdF w g r)(hA:Blk w b 51 z.vals)(hne:b≠g)(_hl:r.s.length<=9223372036854775807):Calls Tryz.prog 105 #[.pointer (some ⟨g,0,none⟩),.pointer (some ⟨b,0,none⟩),.int .u8 120] w fun e w'=>e=.returned (.bool ((Am r).2.e==0))/\Oe g b ({ z with access:=(Am r).1 }) ((Am r).2) w w':=by
 have hG:=Dv g r w hR;generalize Am r=x at *;have HG:=Zh hG;clear hG;go_enter Tryz.func105,Tryz.ntmps105
 go_wp2_with fail;refine HG.out.mono ?_
 rintro e w1 ⟨rfl,hQ⟩;have hA1:Blk w1 b 51 z.vals:=hQ.keeps hA hne;have hf:=hA1.frozen 50;have hc:=hA1.cell 50;have hc:(w1.cell? ⟨b,50,none⟩).isSome=true:=by rw[hc];rfl
 obtain⟨old,hc⟩:=Option.isSome_iff_exists.1 hc;have hA2:Blk (w1.setCell ⟨b,50,none⟩ (.int .i64 x.1)) b 51 ({ z with access:=x.1 }:Aa).vals:=hA1.Be 50 (.int .i64 x.1);have hR2:RdF (w1.setCell ⟨b,50,none⟩ (.int .i64 x.1)) g x.2:=hQ.1.Ak ((Touch.refl (fun k=>k=b) w1).An (g:=b) (o:=50) (.inl rfl) (.int .i64 x.1)) (fun e=>hne e.symm);have hT2:Touch (fun k=>k=g\/k=b) w (w1.setCell ⟨b,50,none⟩ (.int .i64 x.1)):=(hQ.2.mono fun _ _ h=>.inl h).An (g:=b) (o:=50) (.inl (.inr rfl)) (.int .i64 x.1);have hE:=A6.err hQ.1;have hne':¬b=g:=hne;have hne2:¬g=b:=fun e=>hne e.symm
 have HL:=Zh (And.intro hR2 (And.intro hA2 hT2));clear hR2 hA2 hT2 hQ hA1 hA hR HG;go_wp2;go_ret;exact⟨rfl,HL.out.1,HL.out.2.1,HL.out.2.2⟩
theorem Aqq (g b:Nat)(z:Aa)(r:Rs)(w:World)(hR:RdF w g r)(hA:Blk w b 51 z.vals)(hne:b≠g)(_hl:r.s.length<=9223372036854775807):Calls Tryz.prog 105 #[.pointer (some ⟨g,0,none⟩),.pointer (some ⟨b,0,none⟩),.int .u8 99] w fun e w'=>e=.returned (.bool ((Am r).2.e==0))/\Oe g b ({ z with count:=(Am r).1 }) ((Am r).2) w w':=by
 have hG:=Dv g r w hR;generalize Am r=x at *;have HG:=Zh hG;clear hG;go_enter Tryz.func105,Tryz.ntmps105
 go_wp2_with fail;refine HG.out.mono ?_
 rintro e w1 ⟨rfl,hQ⟩;have hA1:Blk w1 b 51 z.vals:=hQ.keeps hA hne;have hf:=hA1.frozen 51;have hc:=hA1.cell 51;have hc:(w1.cell? ⟨b,51,none⟩).isSome=true:=by rw[hc];rfl
 obtain⟨old,hc⟩:=Option.isSome_iff_exists.1 hc;have hA2:Blk (w1.setCell ⟨b,51,none⟩ (.int .i64 x.1)) b 51 ({ z with count:=x.1 }:Aa).vals:=hA1.Be 51 (.int .i64 x.1);have hR2:RdF (w1.setCell ⟨b,51,none⟩ (.int .i64 x.1)) g x.2:=hQ.1.Ak ((Touch.refl (fun k=>k=b) w1).An (g:=b) (o:=51) (.inl rfl) (.int .i64 x.1)) (fun e=>hne e.symm);have hT2:Touch (fun k=>k=g\/k=b) w (w1.setCell ⟨b,51,none⟩ (.int .i64 x.1)):=(hQ.2.mono fun _ _ h=>.inl h).An (g:=b) (o:=51) (.inl (.inr rfl)) (.int .i64 x.1);have hE:=A6.err hQ.1;have hne':¬b=g:=hne;have hne2:¬g=b:=fun e=>hne e.symm
 have HL:=Zh (And.intro hR2 (And.intro hA2 hT2));clear hR2 hA2 hT2 hQ hA1 hA hR HG;go_wp2;go_ret;exact⟨rfl,HL.out.1,HL.out.2.1,HL.out.2.2⟩
theorem Aqj (g b:Nat)(z:Aa)(r:Rs)(w:World)(hR:RdF w g r)(hA:Blk w b 51 z.vals)(hne:b≠g)(_hl:r.s.length<=9223372036854775807):Calls Tryz.prog 105 #[.pointer (some ⟨g,0,none⟩),.pointer (some ⟨b,0,none⟩),.int .u8 115] w fun e w'=>e=.returned (.bool ((Am r).2.e==0))/\Oe g b ({ z with stable:=(Am r).1 }) ((Am r).2) w w':=by
 have hG:=Dv g r w hR;generalize Am r=x at *;have HG:=Zh hG;clear hG;go_enter Tryz.func105,Tryz.ntmps105
 go_wp2_with fail;refine HG.out.mono ?_
 rintro e w1 ⟨rfl,hQ⟩;have hA1:Blk w1 b 51 z.vals:=hQ.keeps hA hne;have hf:=hA1.frozen 54;have hc:=hA1.cell 54;have hc:(w1.cell? ⟨b,54,none⟩).isSome=true:=by rw[hc];rfl
 obtain⟨old,hc⟩:=Option.isSome_iff_exists.1 hc;have hA2:Blk (w1.setCell ⟨b,54,none⟩ (.int .i64 x.1)) b 51 ({ z with stable:=x.1 }:Aa).vals:=hA1.Be 54 (.int .i64 x.1);have hR2:RdF (w1.setCell ⟨b,54,none⟩ (.int .i64 x.1)) g x.2:=hQ.1.Ak ((Touch.refl (fun k=>k=b) w1).An (g:=b) (o:=54) (.inl rfl) (.int .i64 x.1)) (fun e=>hne e.symm);have hT2:Touch (fun k=>k=g\/k=b) w (w1.setCell ⟨b,54,none⟩ (.int .i64 x.1)):=(hQ.2.mono fun _ _ h=>.inl h).An (g:=b) (o:=54) (.inl (.inr rfl)) (.int .i64 x.1);have hE:=A6.err hQ.1;have hne':¬b=g:=hne;have hne2:¬g=b:=fun e=>hne e.symm
 have HL:=Zh (And.intro hR2 (And.intro hA2 hT2));clear hR2 hA2 hT2 hQ hA1 hA hR HG;go_wp2;go_ret;exact⟨rfl,HL.out.1,HL.out.2.1,HL.out.2.2⟩
theorem Aqi (g b:Nat)(z:Aa)(r:Rs)(w:World)(hR:RdF w g r)(hA:Blk w b 51 z.vals)(hne:b≠g)(_hl:r.s.length<=9223372036854775807):Calls Tryz.prog 105 #[.pointer (some ⟨g,0,none⟩),.pointer (some ⟨b,0,none⟩),.int .u8 118] w fun e w'=>e=.returned (.bool ((Bn r).2.e==0))/\Oe g b ({ z with verf:=(Bn r).1 }) ((Bn r).2) w w':=by
 have hG:=Eu g r w hR;generalize Bn r=x at *;have HG:=Zh hG;clear hG;go_enter Tryz.func105,Tryz.ntmps105
 go_wp2_with fail;refine HG.out.mono ?_
 rintro e w1 ⟨rfl,hQ⟩;have hA1:Blk w1 b 51 z.vals:=hQ.keeps hA hne;have hf:=hA1.frozen 55;have hc:=hA1.cell 55;have hc:(w1.cell? ⟨b,55,none⟩).isSome=true:=by rw[hc];rfl
 obtain⟨old,hc⟩:=Option.isSome_iff_exists.1 hc;have hA2:Blk (w1.setCell ⟨b,55,none⟩ (.int .i64 x.1)) b 51 ({ z with verf:=x.1 }:Aa).vals:=hA1.Be 55 (.int .i64 x.1);have hR2:RdF (w1.setCell ⟨b,55,none⟩ (.int .i64 x.1)) g x.2:=hQ.1.Ak ((Touch.refl (fun k=>k=b) w1).An (g:=b) (o:=55) (.inl rfl) (.int .i64 x.1)) (fun e=>hne e.symm);have hT2:Touch (fun k=>k=g\/k=b) w (w1.setCell ⟨b,55,none⟩ (.int .i64 x.1)):=(hQ.2.mono fun _ _ h=>.inl h).An (g:=b) (o:=55) (.inl (.inr rfl)) (.int .i64 x.1);have hE:=A6.err hQ.1;have hne':¬b=g:=hne;have hne2:¬g=b:=fun e=>hne e.symm
 have HL:=Zh (And.intro hR2 (And.intro hA2 hT2));clear hR2 hA2 hT2 hQ hA1 hA hR HG;go_wp2;go_ret;exact⟨rfl,HL.out.1,HL.out.2.1,HL.out.2.2⟩
theorem Aqo (g b:Nat)(z:Aa)(r:Rs)(w:World)(hR:RdF w g r)(hA:Blk w b 51 z.vals)(hne:b≠g)(_hl:r.s.length<=9223372036854775807):Calls Tryz.prog 105 #[.pointer (some ⟨g,0,none⟩),.pointer (some ⟨b,0,none⟩),.int .u8 101] w fun e w'=>e=.returned (.bool ((Bw r).2.e==0))/\Oe g b ({ z with eof:=(Bw r).1 }) ((Bw r).2) w w':=by
 have hG:=Ie g r w hR;generalize Bw r=x at *;have HG:=Zh hG;clear hG;go_enter Tryz.func105,Tryz.ntmps105
 go_wp2_with fail;refine HG.out.mono ?_
 rintro e w1 ⟨rfl,hQ⟩;have hA1:Blk w1 b 51 z.vals:=hQ.keeps hA hne;have hf:=hA1.frozen 52;have hc:=hA1.cell 52;have hc:(w1.cell? ⟨b,52,none⟩).isSome=true:=by rw[hc];rfl
 obtain⟨old,hc⟩:=Option.isSome_iff_exists.1 hc;have hA2:Blk (w1.setCell ⟨b,52,none⟩ (.bool x.1)) b 51 ({ z with eof:=x.1 }:Aa).vals:=hA1.Be 52 (.bool x.1);have hR2:RdF (w1.setCell ⟨b,52,none⟩ (.bool x.1)) g x.2:=hQ.1.Ak ((Touch.refl (fun k=>k=b) w1).An (g:=b) (o:=52) (.inl rfl) (.bool x.1)) (fun e=>hne e.symm);have hT2:Touch (fun k=>k=g\/k=b) w (w1.setCell ⟨b,52,none⟩ (.bool x.1)):=(hQ.2.mono fun _ _ h=>.inl h).An (g:=b) (o:=52) (.inl (.inr rfl)) (.bool x.1);have hE:=A6.err hQ.1;have hne':¬b=g:=hne;have hne2:¬g=b:=fun e=>hne e.symm
 have HL:=Zh (And.intro hR2 (And.intro hA2 hT2));clear hR2 hA2 hT2 hQ hA1 hA hR HG;go_wp2;go_ret;exact⟨rfl,HL.out.1,HL.out.2.1,HL.out.2.2⟩
theorem Aqp (g b:Nat)(z:Aa)(r:Rs)(w:World)(hR:RdF w g r)(hA:Blk w b 51 z.vals)(hne:b≠g)(_hl:r.s.length<=9223372036854775807):Calls Tryz.prog 105 #[.pointer (some ⟨g,0,none⟩),.pointer (some ⟨b,0,none⟩),.int .u8 100] w fun e w'=>e=.returned (.bool ((Ao 256 r).2.e==0))/\Oe g b ({ z with data:=(Ao 256 r).1 }) ((Ao 256 r).2) w w':=by
 have hG:=El g 256 r w hR _hl;generalize Ao 256 r=x at *;have HG:=Zh hG;clear hG;go_enter Tryz.func105,Tryz.ntmps105
 go_wp2_with fail;refine HG.out.mono ?_
 rintro e w1 ⟨rfl,hQ⟩;have hA1:Blk w1 b 51 z.vals:=hQ.keeps hA hne;have hf:=hA1.frozen 53;have hc:=hA1.cell 53;have hc:(w1.cell? ⟨b,53,none⟩).isSome=true:=by rw[hc];rfl
 obtain⟨old,hc⟩:=Option.isSome_iff_exists.1 hc;have hA2:Blk (w1.setCell ⟨b,53,none⟩ (.string (bs x.1))) b 51 ({ z with data:=x.1 }:Aa).vals:=hA1.Be 53 (.string (bs x.1));have hR2:RdF (w1.setCell ⟨b,53,none⟩ (.string (bs x.1))) g x.2:=hQ.1.Ak ((Touch.refl (fun k=>k=b) w1).An (g:=b) (o:=53) (.inl rfl) (.string (bs x.1))) (fun e=>hne e.symm);have hT2:Touch (fun k=>k=g\/k=b) w (w1.setCell ⟨b,53,none⟩ (.string (bs x.1))):=(hQ.2.mono fun _ _ h=>.inl h).An (g:=b) (o:=53) (.inl (.inr rfl)) (.string (bs x.1));have hE:=A6.err hQ.1;have hne':¬b=g:=hne;have hne2:¬g=b:=fun e=>hne e.symm
 have HL:=Zh (And.intro hR2 (And.intro hA2 hT2));clear hR2 hA2 hT2 hQ hA1 hA hR HG;go_wp2;go_ret;exact⟨rfl,HL.out.1,HL.out.2.1,HL.out.2.2⟩
theorem Aqr (g b:Nat)(z:Aa)(r:Rs)(w:World)(hR:RdF w g r)(hA:Blk w b 51 z.vals)(hne:b≠g)(_hl:r.s.length<=9223372036854775807):Calls Tryz.prog 105 #[.pointer (some ⟨g,0,none⟩),.pointer (some ⟨b,0,none⟩),.int .u8 97] w fun e w'=>e=.returned (.bool ((Cf Ah.ok Bb (Bh r)).2==0))/\Oe g b ({ z with obj:=(Cf Ah.ok Bb (Bh r)).1 }) ((Bh r).2) w w':=by
 have hG:=Ns g r w hR;have hz0:(Cf Ah.ok Bb (Bh r)).2=0->(Bh r).2.e=0:=fun h=>by
  unfold Cf at h;split at h
  ·next he=>exact absurd h he
  ·next he=>simpa using he
 have hset:∀p:Ah,setAt z.vals 2 p.vals=({ z with obj:=p }:Aa).vals:=fun p=>rfl
 simp only[Qu]at hG;generalize Cf Ah.ok Bb (Bh r)=x at *;generalize (Bh r).2=q at *;obtain⟨p,n⟩:=x;simp only at hG hz0 ⊢
 have HG:=Zh hG;clear hG;go_enter Tryz.func105,Tryz.ntmps105
 go_wp2_with fail;refine HG.out.mono ?_
 rintro e w1 ⟨rfl,hQ⟩;have hA1:Blk w1 b 51 z.vals:=hQ.keeps hA hne;obtain⟨w2,hw2⟩:∃V,V=w1.setCells b 2 p.vals:=⟨_,rfl⟩;have hA2:Blk w2 b 51 ({ z with obj:=p }:Aa).vals:=by rw[hw2,<-hset];exact hA1.Ml p.vals _ 2
 have hR2:RdF w2 g q:=by rw[hw2];exact hQ.1.Ak (Touch.setCells (F:=fun k=>k=b) (.inl rfl) p.vals 2 w1 (Touch.refl _ _)) (fun e=>hne e.symm)
 have hT2:Touch (fun k=>k=g\/k=b) w w2:=by rw[hw2];exact Touch.setCells (.inl (.inr rfl)) p.vals 2 w1 (hQ.2.mono fun _ _ h=>.inl h)
 have HW2:=Zh hw2;have hE:=A6.err hR2;have HL:=Zh (And.intro hR2 (And.intro hA2 hT2));clear hR2 hA2 hT2 hQ hA hR HG hw2 hset;by_cases hn:n=0
 ·have hq:=hz0 hn
  subst hn;rw[hq]at hE
  go_wp2_with (first
   |(refine Ax (by rfl) 45 _ _ (by rfl) b 2 p.vals _ hA1 (by rw[Ah.len,Aa.len];omega) (by rfl) (by rfl) (by kernel_rfl) (Ah.one _) ?_;rw[<-HW2.out])
   |fail)
  go_ret;exact⟨rfl,HL.out.1,HL.out.2.1,HL.out.2.2⟩
 ·have hn2:(n==0)=false:=by simpa using hn
  clear hz0
  go_wp2_with (first
   |(refine Ax (by rfl) 45 _ _ (by rfl) b 2 p.vals _ hA1 (by rw[Ah.len,Aa.len];omega) (by rfl) (by rfl) (by kernel_rfl) (Ah.one _) ?_;rw[<-HW2.out])
   |fail)
  go_ret;exact⟨by rw[hn2];rfl,HL.out.1,HL.out.2.1,HL.out.2.2⟩
theorem Anp (g b:Nat)(z:Aa)(r:Rs)(w:World)(hR:RdF w g r)(hA:Blk w b 51 z.vals)(hne:b≠g)(_hl:r.s.length<=9223372036854775807):Calls Tryz.prog 105 #[.pointer (some ⟨g,0,none⟩),.pointer (some ⟨b,0,none⟩),.int .u8 68] w fun e w'=>e=.returned (.bool ((Cf Ah.ok Bb (Bh r)).2==0))/\Oe g b ({ z with dir:=(Cf Ah.ok Bb (Bh r)).1 }) ((Bh r).2) w w':=by
 have hG:=Ns g r w hR;have hz0:(Cf Ah.ok Bb (Bh r)).2=0->(Bh r).2.e=0:=fun h=>by
  unfold Cf at h;split at h
  ·next he=>exact absurd h he
  ·next he=>simpa using he
 have hset:∀p:Ah,setAt z.vals 13 p.vals=({ z with dir:=p }:Aa).vals:=fun p=>rfl
 simp only[Qu]at hG;generalize Cf Ah.ok Bb (Bh r)=x at *;generalize (Bh r).2=q at *;obtain⟨p,n⟩:=x;simp only at hG hz0 ⊢
 have HG:=Zh hG;clear hG;go_enter Tryz.func105,Tryz.ntmps105
 go_wp2_with fail;refine HG.out.mono ?_
 rintro e w1 ⟨rfl,hQ⟩;have hA1:Blk w1 b 51 z.vals:=hQ.keeps hA hne;obtain⟨w2,hw2⟩:∃V,V=w1.setCells b 13 p.vals:=⟨_,rfl⟩;have hA2:Blk w2 b 51 ({ z with dir:=p }:Aa).vals:=by rw[hw2,<-hset];exact hA1.Ml p.vals _ 13
 have hR2:RdF w2 g q:=by rw[hw2];exact hQ.1.Ak (Touch.setCells (F:=fun k=>k=b) (.inl rfl) p.vals 13 w1 (Touch.refl _ _)) (fun e=>hne e.symm)
 have hT2:Touch (fun k=>k=g\/k=b) w w2:=by rw[hw2];exact Touch.setCells (.inl (.inr rfl)) p.vals 13 w1 (hQ.2.mono fun _ _ h=>.inl h)
 have HW2:=Zh hw2;have hE:=A6.err hR2;have HL:=Zh (And.intro hR2 (And.intro hA2 hT2));clear hR2 hA2 hT2 hQ hA hR HG hw2 hset;by_cases hn:n=0
 ·have hq:=hz0 hn
  subst hn;rw[hq]at hE
  go_wp2_with (first
   |(refine Ax (by rfl) 45 _ _ (by rfl) b 13 p.vals _ hA1 (by rw[Ah.len,Aa.len];omega) (by rfl) (by rfl) (by kernel_rfl) (Ah.one _) ?_;rw[<-HW2.out])
   |fail)
  go_ret;exact⟨rfl,HL.out.1,HL.out.2.1,HL.out.2.2⟩
 ·have hn2:(n==0)=false:=by simpa using hn
  clear hz0
  go_wp2_with (first
   |(refine Ax (by rfl) 45 _ _ (by rfl) b 13 p.vals _ hA1 (by rw[Ah.len,Aa.len];omega) (by rfl) (by rfl) (by kernel_rfl) (Ah.one _) ?_;rw[<-HW2.out])
   |fail)
  go_ret;exact⟨by rw[hn2];rfl,HL.out.1,HL.out.2.1,HL.out.2.2⟩
theorem Aqh (g b:Nat)(z:Aa)(r:Rs)(w:World)(hR:RdF w g r)(hA:Blk w b 51 z.vals)(hne:b≠g)(_hl:r.s.length<=9223372036854775807):Calls Tryz.prog 105 #[.pointer (some ⟨g,0,none⟩),.pointer (some ⟨b,0,none⟩),.int .u8 119] w fun e w'=>e=.returned (.bool ((Cf Wcc.ok Df (Ei r)).2==0))/\Oe g b ({ z with wcc:=(Cf Wcc.ok Df (Ei r)).1 }) ((Ei r).2) w w':=by
 have hG:=Sn g r w hR;have hz0:(Cf Wcc.ok Df (Ei r)).2=0->(Ei r).2.e=0:=fun h=>by
  unfold Cf at h;split at h
  ·next he=>exact absurd h he
  ·next he=>simpa using he
 have hset:∀p:Wcc,setAt z.vals 24 p.vals=({ z with wcc:=p }:Aa).vals:=fun p=>rfl
 simp only[Qu]at hG;generalize Cf Wcc.ok Df (Ei r)=x at *;generalize (Ei r).2=q at *;obtain⟨p,n⟩:=x;simp only at hG hz0 ⊢
 have HG:=Zh hG;clear hG;go_enter Tryz.func105,Tryz.ntmps105
 go_wp2_with fail;refine HG.out.mono ?_
 rintro e w1 ⟨rfl,hQ⟩;have hA1:Blk w1 b 51 z.vals:=hQ.keeps hA hne;obtain⟨w2,hw2⟩:∃V,V=w1.setCells b 24 p.vals:=⟨_,rfl⟩;have hA2:Blk w2 b 51 ({ z with wcc:=p }:Aa).vals:=by rw[hw2,<-hset];exact hA1.Ml p.vals _ 24
 have hR2:RdF w2 g q:=by rw[hw2];exact hQ.1.Ak (Touch.setCells (F:=fun k=>k=b) (.inl rfl) p.vals 24 w1 (Touch.refl _ _)) (fun e=>hne e.symm)
 have hT2:Touch (fun k=>k=g\/k=b) w w2:=by rw[hw2];exact Touch.setCells (.inl (.inr rfl)) p.vals 24 w1 (hQ.2.mono fun _ _ h=>.inl h)
 have HW2:=Zh hw2;have hE:=A6.err hR2;have HL:=Zh (And.intro hR2 (And.intro hA2 hT2));clear hR2 hA2 hT2 hQ hA hR HG hw2 hset;by_cases hn:n=0
 ·have hq:=hz0 hn
  subst hn;rw[hq]at hE
  go_wp2_with (first
   |(refine Ax (by rfl) 47 _ _ (by rfl) b 24 p.vals _ hA1 (by rw[Wcc.len,Aa.len];omega) (by rfl) (by rfl) (by kernel_rfl) (Wcc.one _) ?_;rw[<-HW2.out])
   |fail)
  go_ret;exact⟨rfl,HL.out.1,HL.out.2.1,HL.out.2.2⟩
 ·have hn2:(n==0)=false:=by simpa using hn
  clear hz0
  go_wp2_with (first
   |(refine Ax (by rfl) 47 _ _ (by rfl) b 24 p.vals _ hA1 (by rw[Wcc.len,Aa.len];omega) (by rfl) (by rfl) (by kernel_rfl) (Wcc.one _) ?_;rw[<-HW2.out])
   |fail)
  go_ret;exact⟨by rw[hn2];rfl,HL.out.1,HL.out.2.1,HL.out.2.2⟩
theorem Ann (g b:Nat)(z:Aa)(r:Rs)(w:World)(hR:RdF w g r)(hA:Blk w b 51 z.vals)(hne:b≠g)(_hl:r.s.length<=9223372036854775807):Calls Tryz.prog 105 #[.pointer (some ⟨g,0,none⟩),.pointer (some ⟨b,0,none⟩),.int .u8 87] w fun e w'=>e=.returned (.bool ((Cf Wcc.ok Df (Ei r)).2==0))/\Oe g b ({ z with wcc2:=(Cf Wcc.ok Df (Ei r)).1 }) ((Ei r).2) w w':=by
 have hG:=Sn g r w hR;have hz0:(Cf Wcc.ok Df (Ei r)).2=0->(Ei r).2.e=0:=fun h=>by
  unfold Cf at h;split at h
  ·next he=>exact absurd h he
  ·next he=>simpa using he
 have hset:∀p:Wcc,setAt z.vals 37 p.vals=({ z with wcc2:=p }:Aa).vals:=fun p=>rfl
 simp only[Qu]at hG;generalize Cf Wcc.ok Df (Ei r)=x at *;generalize (Ei r).2=q at *;obtain⟨p,n⟩:=x;simp only at hG hz0 ⊢
 have HG:=Zh hG;clear hG;go_enter Tryz.func105,Tryz.ntmps105
 go_wp2_with fail;refine HG.out.mono ?_
 rintro e w1 ⟨rfl,hQ⟩;have hA1:Blk w1 b 51 z.vals:=hQ.keeps hA hne;obtain⟨w2,hw2⟩:∃V,V=w1.setCells b 37 p.vals:=⟨_,rfl⟩;have hA2:Blk w2 b 51 ({ z with wcc2:=p }:Aa).vals:=by rw[hw2,<-hset];exact hA1.Ml p.vals _ 37
 have hR2:RdF w2 g q:=by rw[hw2];exact hQ.1.Ak (Touch.setCells (F:=fun k=>k=b) (.inl rfl) p.vals 37 w1 (Touch.refl _ _)) (fun e=>hne e.symm)
 have hT2:Touch (fun k=>k=g\/k=b) w w2:=by rw[hw2];exact Touch.setCells (.inl (.inr rfl)) p.vals 37 w1 (hQ.2.mono fun _ _ h=>.inl h)
 have HW2:=Zh hw2;have hE:=A6.err hR2;have HL:=Zh (And.intro hR2 (And.intro hA2 hT2));clear hR2 hA2 hT2 hQ hA hR HG hw2 hset;by_cases hn:n=0
 ·have hq:=hz0 hn
  subst hn;rw[hq]at hE
  go_wp2_with (first
   |(refine Ax (by rfl) 47 _ _ (by rfl) b 37 p.vals _ hA1 (by rw[Wcc.len,Aa.len];omega) (by rfl) (by rfl) (by kernel_rfl) (Wcc.one _) ?_;rw[<-HW2.out])
   |fail)
  go_ret;exact⟨rfl,HL.out.1,HL.out.2.1,HL.out.2.2⟩
 ·have hn2:(n==0)=false:=by simpa using hn
  clear hz0
  go_wp2_with (first
   |(refine Ax (by rfl) 47 _ _ (by rfl) b 37 p.vals _ hA1 (by rw[Wcc.len,Aa.len];omega) (by rfl) (by rfl) (by kernel_rfl) (Wcc.one _) ?_;rw[<-HW2.out])
   |fail)
  go_ret;exact⟨by rw[hn2];rfl,HL.out.1,HL.out.2.1,HL.out.2.2⟩
end
section
attribute [local go_sem ↓] Fq Lb
attribute [local go_sem] Kz
def FB (g b B k:Nat):Prop:=k=g\/k=b\/B<=k
theorem Touch.ofB {F:Nat->Prop}{B:Nat}{w w':World}(h:Below B w w')(hF:∀k,B<=k->F k):Touch F w w':=
 ⟨h.os,h.tape,h.output,h.size,fun k _ hn=>h.block k (Nat.lt_of_not_le fun hk2=>hn (hF k hk2))⟩
theorem RdF.Aol {w w':World}{g B:Nat}{r:Rs}(h:RdF w g r)(hb:Below B w w')(hg:g<B):RdF w' g r:=by
 obtain⟨S,a,h,k⟩:=h;exact⟨S,a,h.below hb hg,k⟩
theorem Asc {g b B:Nat}{q:Rs}{z:Aa}{w W w':World}{A:Option Addr}{n c:Nat}{rows:List (List Value)}(hg:g<B)(hb:b<B)(hne:b≠g)(hR:RdF W g q)(hC:Blk W b 51 z.vals)(hT:Touch (FB g b B) w W)(hR':As w' B 3 1 (.slice A n c) rows)(hb':Below B W w') :
  RdF (w'.setCell ⟨b,57,none⟩ (.slice A n c)) g q/\Blk (w'.setCell ⟨b,57,none⟩ (.slice A n c)) b 51 ({ z with ua:=A,un:=n,uc:=c }:Aa).vals/\As (w'.setCell ⟨b,57,none⟩ (.slice A n c)) B 3 1 (.slice A n c) rows/\Touch (FB g b B) w (w'.setCell ⟨b,57,none⟩ (.slice A n c)):=by
 have hT1:Touch (fun k=>k=b) w' (w'.setCell ⟨b,57,none⟩ (.slice A n c)):=(Touch.refl (fun k=>k=b) w').An (g:=b) (o:=57) (.inl rfl) (.slice A n c);exact⟨(hR.Aol hb' hg).Ak hT1 (fun e=>hne e.symm),(hC.below hb' hb).Be 57 (.slice A n c),As.Ak hR' hT1 (fun k hk hf=>by have:=(As.lt hR' k hk).1;omega),(hT.Ay (Touch.ofB hb' fun k hk=>.inr (.inr hk))).Ay (hT1.mono fun k _ hk=>.inr (.inl hk))⟩
theorem Aql (g b B:Nat)(z:Aa)(r:Rs)(w:World)(hR:RdF w g r)(hA:Blk w b 51 z.vals)(hne:b≠g)(hgB:g<B)(hbB:b<B)(hB:B<=w.heap.size)(h0:z.ua=none/\z.un=0/\z.uc=0) :
  Calls Tryz.prog 105 #[.pointer (some ⟨g,0,none⟩),.pointer (some ⟨b,0,none⟩),.int .u8 110] w fun e w'=>e=.returned (.bool (Nz r)) /\
   (Nz r=true->∃A c,Blk w' b 51 ({ z with ua:=A,un:=(B8 (Am r).2 (Am r).1).1.length,uc:=c }:Aa).vals/\RdF w' g (B8 (Am r).2 (Am r).1).2/\As w' B 3 1 (.slice A (B8 (Am r).2 (Am r).1).1.length c) ((B8 (Am r).2 (Am r).1).1.map Fz))/\Touch (FB g b B) w w':=by
 obtain⟨i0,hi,hz,hsize,hby⟩:=info_parts Y3;have K:=Zh (Dv g r w hR);have hgl:=hR.lt;have hbl:=hA.lt;have hne2:¬g=b:=fun e=>hne e.symm
 unfold Nz;generalize Am r=y at *;obtain⟨n,q⟩:=y;simp only at K ⊢
 by_cases hn:16<n
 ·have hn':(16:Int)<n:=by omega
  have HO:=Zh (show (decide (n<=16) && ((B8 q n).2.e==0))=false by simp;omega);go_enter Tryz.func105,Tryz.ntmps105
  go_wp2_with fail;refine K.out.mono ?_
  rintro e w1 ⟨rfl,hQ⟩;have HQ:=Zh (hQ.2.mono (G:=FB g b B) fun _ _ h=>.inl h);clear hQ;go_wp2;go_ret;rw[HO.out];exact⟨rfl,fun h=>absurd h (by simp),HQ.out⟩
 have hn':¬(16:Int)<n:=by omega
 go_enter Tryz.func105,Tryz.ntmps105
 go_wp2_with fail;refine K.out.mono ?_
 rintro e w1 ⟨rfl,hQ⟩;have hA1:=hQ.keeps hA hne;have hT1:=hQ.2.mono (G:=FB g b B) fun _ _ h=>.inl h
 have HI:=Zh (And.intro hQ.1 (And.intro hA1 hT1));have hz0:({ z with ua:=none,un:=0,uc:=0 }:Aa)=z:=by
  obtain⟨h1,h2,h3⟩:=h0;cases z
  simp only at h1 h2 h3
  subst h1 h2 h3;rfl
 have HZ:=Zh hz0;clear hQ hA1 hT1 hA hR K h0 hz0;go_wp2
 go_loopw [9] (fun iv wr=>∃(k:Nat) (A:Option Addr) (c:Nat),k<=n/\iv=.int .i64 k/\RdF wr g (B8 q k).2/\(∀j,j<k->(B8 q j).2.e=0)/\Blk wr b 51 ({ z with ua:=A,un:=k,uc:=c }:Aa).vals/\As wr B 3 1 (.slice A k c) ((B8 q k).1.map Fz)/\Touch (FB g b B) w wr) (fun iv _=>n - (intOf iv).toNat)
 case atStart=>exact⟨0,none,0,Nat.zero_le _,rfl,HI.out.1,fun _ h=>absurd h (Nat.not_lt_zero _),by rw[HZ.out];exact HI.out.2.1,As.none_,HI.out.2.2⟩
 case round=>
  clear HI HZ;obtain⟨k,A,c,hk,rfl,hR,hall,hA,hRow,hT⟩:=hrel;have hE:=A6.err hR;by_cases hlt:k<n
  ·have hlt':(k:Int)<n:=by omega
   by_cases he:(B8 q k).2.e=0
   ·have hs1:B8 q (k+1)=((B8 q k).1++[((Bn (B8 q k).2).1:Int)],(Bn (B8 q k).2).2):=rfl
    have hone:=R9 q k;have hall2:∀j,j<k+1->(B8 q j).2.e=0:=fun j hj=>by
     rcases Nat.lt_or_ge j k with h|h
     ·exact hall j h
     ·obtain rfl:j=k:=by omega
      exact he
    have HALL:=Zh hall2;have K:=Zh (Eu g (B8 q k).2 wr.drew hR);rw[he]at hE;generalize (B8 q k).2=qk at *;generalize Bn qk=y at *;obtain⟨x,q1⟩:=y;simp only at K hs1
    have c57:wr.cell? ⟨b,57,none⟩=some (.slice A k c):=hA.cell 57;have f57:=hA.frozen 57;have hsw:=hT.size;have S0:wr.drew.cell? ⟨b,57,none⟩=some (.slice A k c)/\wr.drew.frozen? ⟨b,57,none⟩=false:=⟨c57,f57⟩;have HS:=Zh hs1;have HT:=Zh hT;have HA0:=Zh hA;have HR0:=Zh hRow;have hap:=fun W (hQ:A6 g q1 wr.drew W)=>As.append (P:=Tryz.prog) 49 49 i0 Tryz.underlying49 hi hz hsize hby rfl (by omega) (by omega) (As.Ak (show As wr.drew _ _ _ _ _ from hRow) hQ.2 (fun j hj hg=>by have:=(As.lt hRow j hj).1;omega)) (by have:=hQ.2.size;have:wr.drew.heap.size=wr.heap.size:=rfl;omega) (Fz (x:Int)) rfl (by simp[Fz,Value.oneCell']) (by rw[List.length_map,hone];omega)
    have HAP:=Zh hap;have hiw:IntKind.i64.wrap ((k:Int)+1)=(k:Int)+1:=IntWalk.i64_in _ (by omega);clear hap hall hall2 hR hRow hT hs1 hA;go_wp2_with fail;rw[Hs 49 (.tmp 124)];go_region_held3 (fun _=>True) (trivial) (first
     |(go_at_call 55;refine K.out.mono ?_;rintro e w2 ⟨rfl,hQ⟩;have S2:w2.cell? ⟨b,57,none⟩=some (.slice A k c)/\w2.frozen? ⟨b,57,none⟩=false:=⟨(hQ.keeps (show Blk wr.drew _ _ _ from HA0.out) hne).cell 57,(hQ.keeps (show Blk wr.drew _ _ _ from HA0.out) hne).frozen 57⟩;have S3:(w2.alloc (.cells #[.int .i64 x] 3)).cell? ⟨b,57,none⟩=some (.slice A k c)/\(w2.alloc (.cells #[.int .i64 x] 3)).frozen? ⟨b,57,none⟩=false:=⟨((hQ.keeps (show Blk wr.drew _ _ _ from HA0.out) hne).alloc _).cell 57,((hQ.keeps (show Blk wr.drew _ _ _ from HA0.out) hne).alloc _).frozen 57⟩;have HA:=Zh (HAP.out w2 hQ);have HQ:=Zh hQ;clear hQ)
     |(refine Cp (by rfl) (.tmp 125) (.tmp 128) #[49,49] (by rfl) _ _ (by rfl) (by rfl) HA.out ?_;rintro v' w' ⟨hR',hb'⟩;obtain⟨A',c',rfl,-⟩:=As.at_ hR';have S4:w'.cell? ⟨b,57,none⟩=some (.slice A k c)/\w'.frozen? ⟨b,57,none⟩=false:=⟨((HQ.out.keeps (show Blk wr.drew _ _ _ from HA0.out) hne).below (hb' w2 (Below.refl _ _)) hbB).cell 57,((HQ.out.keeps (show Blk wr.drew _ _ _ from HA0.out) hne).below (hb' w2 (Below.refl _ _)) hbB).frozen 57⟩))
    all_goals
     have hn1:(List.map Fz (B8 q k).fst++[Fz (x:Int)]).length=k+1:=by simp[hone]
     rw[hn1]at hR';have hD:=Asc hgB hbB hne HQ.out.1 (HQ.out.keeps (show Blk wr.drew _ _ _ from HA0.out) hne) ((HT.out.drew).Ay (HQ.out.2.mono (G:=FB g b B) fun _ _ h=>.inl h)) hR' (hb' w2 (Below.refl _ _));have HD:=Zh hD;clear hD hR' hb' S0 S2 S3 S4 HQ HA HAP HA0 HT c57 f57 K hn1 HR0;go_wp2;go_roundw
     case rel=>exact⟨k+1,A',c',by omega,by go_num,by rw[HS.out];exact HD.out.1,HALL.out,HD.out.2.1,by rw[HS.out,List.map_append];exact HD.out.2.2.1,HD.out.2.2.2⟩
     case measure=>simp[intOf];omega
   ·have hne0:((B8 q k).2.e==0)=false:=by simpa using he
    have hbad:=Vn he n (by omega);have HO:=Zh (show (decide (n<=16) && ((B8 q n).2.e==0))=false by simp[hbad]);have HT:=Zh hT;generalize (B8 q k).2.e=ek at *;clear hT hRow hA hall hR;go_wp2;go_ret;rw[HO.out];exact⟨rfl,fun h=>absurd h (by simp),HT.out⟩
  ·obtain rfl:k=n:=by omega
   have HF:=Zh (And.intro hR (And.intro hA (And.intro hRow hT)));have hone:=R9 q k;obtain⟨ek,hek⟩:∃v,v=(B8 q k).2.e:=⟨_,rfl⟩;have HO:=Zh (show (decide (k<=16) && ((B8 q k).2.e==0))=(ek==0) by
    have:decide (k<=16)=true:=by simp;omega
    rw[this,Bool.true_and,hek])
   rw[<-hek]at hE;clear hT hRow hA hall hR hek;by_cases h0:ek=0
   ·subst h0
    go_wp2;go_ret;rw[HO.out,hone];exact⟨rfl,fun _=>⟨A,c,HF.out.2.1,HF.out.1,HF.out.2.2.1⟩,HF.out.2.2.2⟩
   ·have h0':(ek==0)=false:=by simpa using h0
    go_wp2;go_ret;rw[HO.out,h0'];exact⟨rfl,fun h=>absurd h (by simp),HF.out.2.2.2⟩
end
attribute [local go_sem] Entry.at0 Entry.Bo Entry.at1 Entry.Bk Entry.at2 Entry.Ca Entry.at3 Entry.Cg Entry.at4 Entry.Cx Entry.at5 Entry.Cw Entry.at6 Entry.Cv Entry.at7 Entry.Cu Entry.at8 Entry.Ct Entry.at9 Entry.Cs Entry.Ee Entry.C4 Entry.Fm Entry.Dm Entry.Fl Entry.Dl Entry.Ia Entry.Ep Entry.H9 Entry.Eo Entry.L3 Entry.Js Entry.L2 Entry.Jr Entry.L1 Entry.Jq Entry.len Kz
section
attribute [local go_sem ↓] Fq Jx
structure InE (g b B Y:Nat) (q:Rs) (ce:List Value) (z:Aa) (rows:List (List Value)) (w W:World):Prop where
 hg:g<B
 hb:b<B
 hne:b≠g
 hY:B<=Y
 R:RdF W g q
 E:Blk W Y 126 ce
 C:Blk W b 51 z.vals
 L:As W B 126 15 (.slice z.ea z.en z.ec) rows
 D:∀k,(Value.slice z.ea z.en z.ec).ownBlock=some k->k≠Y
 T:Touch (FB g b B) w W
section
variable {g b B Y:Nat} {q q':Rs} {ce:List Value} {z:Aa} {rows:List (List Value)} {w W W':World}
theorem InE.read (h:InE g b B Y q ce z rows w W)(hQ:A6 g q' W W'):InE g b B Y q' ce z rows w W':=
 ⟨h.hg,h.hb,h.hne,h.hY,hQ.1,hQ.keeps h.E (by have:=h.hg;have:=h.hY;omega),hQ.keeps h.C h.hne,As.Ak h.L hQ.2 (fun k hk hf=>by have:=(As.lt h.L k hk).1;have:=h.hg;omega),h.D,h.T.Ay (hQ.2.mono fun _ _ hk=>.inl hk)⟩
theorem InE.set (h:InE g b B Y q ce z rows w W)(i:Nat)(u:Value):InE g b B Y q (ce.set i u) z rows w (W.setCell ⟨Y,i,none⟩ u):=by
 have hT:Touch (fun k=>k=Y) W (W.setCell ⟨Y,i,none⟩ u):=(Touch.refl (fun k=>k=Y) W).An (g:=Y) (o:=i) (.inl rfl) u;have h1:=h.hg;have h2:=h.hb;have h3:=h.hY;exact⟨h.hg,h.hb,h.hne,h.hY,h.R.Ak hT (by omega),h.E.Be i u,h.C.Ak hT (by omega),As.Ak h.L hT (fun k hk hf=>h.D k hk hf),h.D,h.T.Ay (hT.mono fun k _ hk=>.inr (.inr (by omega)))⟩
theorem InE.Ml (h:InE g b B Y q ce z rows w W)(i:Nat)(us:List Value):InE g b B Y q (setAt ce i us) z rows w (W.setCells Y i us):=by
 have hT:Touch (fun k=>k=Y) W (W.setCells Y i us):=Touch.setCells (F:=fun k=>k=Y) (.inl rfl) us i W (Touch.refl _ _);have h1:=h.hg;have h2:=h.hb;have h3:=h.hY;exact⟨h.hg,h.hb,h.hne,h.hY,h.R.Ak hT (by omega),h.E.Ml us _ i,h.C.Ak hT (by omega),As.Ak h.L hT (fun k hk hf=>h.D k hk hf),h.D,h.T.Ay (hT.mono fun k _ hk=>.inr (.inr (by omega)))⟩
theorem InE.done (h:InE g b B Y q ce z rows w W){A:Option Addr}{n c:Nat}{rows':List (List Value)}(hR':As W' B 126 15 (.slice A n c) rows')(hb':Below B W W') :
  RdF (W'.setCell ⟨b,56,none⟩ (.slice A n c)) g q/\Blk (W'.setCell ⟨b,56,none⟩ (.slice A n c)) b 51 ({ z with ea:=A,en:=n,ec:=c }:Aa).vals/\As (W'.setCell ⟨b,56,none⟩ (.slice A n c)) B 126 15 (.slice A n c) rows'/\Touch (FB g b B) w (W'.setCell ⟨b,56,none⟩ (.slice A n c)):=by
 have hT:Touch (fun k=>k=b) W' (W'.setCell ⟨b,56,none⟩ (.slice A n c)):=(Touch.refl (fun k=>k=b) W').An (g:=b) (o:=56) (.inl rfl) (.slice A n c);exact⟨(h.R.Aol hb' h.hg).Ak hT (fun e=>h.hne e.symm),(h.C.below hb' h.hb).Be 56 (.slice A n c),As.Ak hR' hT (fun k hk hf=>by have:=(As.lt hR' k hk).1;have:=h.hb;omega),(h.T.Ay (Touch.ofB hb' fun k hk=>.inr (.inr hk))).Ay (hT.mono fun k _ hk=>.inr (.inl hk))⟩
end
def aok (whole:Bool)(q:Rs)(k:Nat):Bool:=(q.e==0) && (List.range k).all fun i=>E7 whole (Bd whole q i).2
theorem Zt (whole:Bool)(q:Rs)(k:Nat):aok whole q (k+1)=(aok whole q k && E7 whole (Bd whole q k).2):=by
 unfold aok;rw[List.range_succ,List.all_append,<-Bool.and_assoc];simp
theorem Aoo {whole:Bool}{q:Rs}{k n:Nat}(h:aok whole q k=false)(hk:k<=n):aok whole q n=false:=by
 induction n with
 |zero=>
      obtain rfl:k=0:=by omega
      exact h
 |succ n ih=>
  by_cases he:k=n+1
  ·subst he;exact h
  ·rw[Zt,ih (by omega)];rfl
theorem Art {a b:Int}{o:Bool}(h:((a==0) && (b==0))=o):(o=true->a=0/\b=0)/\(o=false->¬(a=0/\b=0)):=by
 subst h;constructor
 ·intro h;simpa using h
 ·intro h;rintro ⟨rfl,rfl⟩;simp at h
theorem Abi:∀(cs:List Value) (k:Nat) (base:Array Value),base.size=k+cs.length->List.foldl (fun (a:Array Value) (y:Value × Nat)=>a.setIfInBounds y.snd y.fst) base (cs.zipIdx k)=(base.toList.take k++cs).toArray
 |[],k,base,h=>by
  have:base.toList.take k=base.toList:=List.take_of_length_le (by simp at h ⊢;omega);simp[this]
 |c::cs,k,base,h=>by
  rw[List.zipIdx_cons,List.foldl_cons,Abi cs (k+1) _ (by simp at h ⊢;omega)];congr 1
  have hk:k<base.toList.length:=by simp at h ⊢;omega
  rw[Array.toList_setIfInBounds,List.take_add_one,List.getElem?_set_self hk,List.take_set_of_le (Nat.le_refl _)];simp
theorem Y7 (x:Entry):List.foldl (fun (cs:Array Value) (y:Value × Nat)=>cs.setIfInBounds y.snd y.fst) #[.int .i64 0,.string ⟨#[]⟩,.int .i64 0,.bool false,.int .i64 0,.int .i64 0,.int .i64 0,.int .i64 0,.int .i64 0,.int .i64 0,.int .i64 0,.int .i64 0,.int .i64 0,.int .i64 0,.string ⟨#[]⟩] x.vals.zipIdx=x.vals.toArray:=by
 rw[Abi x.vals 0 _ (by rw[Entry.len];rfl)];rfl
attribute [local go_sem ↓] Y7
theorem Aqm (g b B:Nat)(z:Aa)(r:Rs)(w:World)(hR:RdF w g r)(hA:Blk w b 51 z.vals)(hne:b≠g)(hgB:g<B)(hbB:b<B)(hB:B<=w.heap.size)(h0:z.ea=none/\z.en=0/\z.ec=0)(hl:r.s.length<=9223372036854775807) :
  Calls Tryz.prog 105 #[.pointer (some ⟨g,0,none⟩),.pointer (some ⟨b,0,none⟩),.int .u8 108] w fun e w'=>e=.returned (.bool (Ii false r)) /\
   (Ii false r=true->∃A c,Blk w' b 51 ({ z with ea:=A,en:=(Bd false (Am r).2 (Am r).1).1.length,ec:=c }:Aa).vals/\RdF w' g (Bd false (Am r).2 (Am r).1).2/\As w' B 126 15 (.slice A (Bd false (Am r).2 (Am r).1).1.length c) ((Bd false (Am r).2 (Am r).1).1.map Entry.vals))/\Touch (FB g b B) w w':=by
 obtain⟨i0,hi,hz,hsize,hby⟩:=info_parts Qh;have K:=Zh (Dv g r w hR);have hql:=Nat.le_trans (Em hl) hl;have hgl:=hR.lt;have hbl:=hA.lt;have hne2:¬g=b:=fun e=>hne e.symm
 have hOK:Ii false r=(decide ((Am r).1<=64) && aok false (Am r).2 (Am r).1):=rfl;rw[hOK];clear hOK;generalize Am r=y at *;obtain⟨n,q⟩:=y;simp only at K hql ⊢
 by_cases hn:64<n
 ·have hn':(64:Int)<n:=by omega
  have HO:=Zh (show (decide (n<=64) && aok false q n)=false by simp;omega);go_enter Tryz.func105,Tryz.ntmps105
  go_wp2_with fail;refine K.out.mono ?_
  rintro e w1 ⟨rfl,hQ⟩;have HQ:=Zh (hQ.2.mono (G:=FB g b B) fun _ _ h=>.inl h);clear hQ;go_wp2;go_ret;rw[HO.out];exact⟨rfl,fun h=>absurd h (by simp),HQ.out⟩
 have hn':¬(64:Int)<n:=by omega
 have hn64:decide (n<=64)=true:=by simp;omega
 rw[hn64,Bool.true_and];clear hn64;go_enter Tryz.func105,Tryz.ntmps105
 go_wp2_with fail;refine K.out.mono ?_
 rintro e w1 ⟨rfl,hQ⟩;have hA1:=hQ.keeps hA hne;have hT1:=hQ.2.mono (G:=FB g b B) fun _ _ h=>.inl h
 have HI:=Zh (And.intro hQ.1 (And.intro hA1 hT1));have hz0:({ z with ea:=none,en:=0,ec:=0 }:Aa)=z:=by
  obtain⟨h1,h2,h3⟩:=h0;cases z
  simp only at h1 h2 h3
  subst h1 h2 h3;rfl
 have HZ:=Zh hz0;have HQL:=Zh (Ni (whole:=false) hql);clear hQ hA1 hT1 hA hR K h0 hz0 hql;go_wp2
 go_loopw [7,11] (fun ev iv wr=>∃(k:Nat) (A:Option Addr) (c:Nat),k<=n/\ev=.int .i64 0/\iv=.int .i64 k/\RdF wr g (Bd false q k).2/\((Bd false q k).2.e==0)=aok false q k/\Blk wr b 51 ({ z with ea:=A,en:=k,ec:=c }:Aa).vals/\As wr B 126 15 (.slice A k c) ((Bd false q k).1.map Entry.vals)/\Touch (FB g b B) w wr) (fun _ iv _=>n - (intOf iv).toNat)
 case atStart=>exact⟨0,none,0,Nat.zero_le _,rfl,rfl,HI.out.1,by unfold aok;simp[Bd],by rw[HZ.out];exact HI.out.2.1,As.none_,HI.out.2.2⟩
 case round=>
  clear HI HZ;obtain⟨k,A,c,hk,rfl,rfl,hR,hok,hA,hRow,hT⟩:=hrel;have hE:=A6.err hR;by_cases hlt:k<n
  ·have hlt':(k:Int)<n:=by omega
   by_cases he:(Bd false q k).2.e=0
   ·have hs1:Bd false q (k+1)=((Bd false q k).1++[(Hq false (Bd false q k).2).1],(Hq false (Bd false q k).2).2):=rfl
    have hone:=Ki false q k;have hlen:=HQL.out k;have hok2:aok false q (k+1)=E7 false (Bd false q k).2:=by
     rw[Zt,<-hok,he];rfl
    have hsw:=hT.size;rw[he]at hE;generalize (Bd false q k).2=qk at *;have hoo:E7 false qk=((Hq false qk).2.e==0):=rfl;have hoe:Hq false qk=(⟨((Bn qk).1:Int),(Ao 255 (Bn qk).2).1,((Bn (Ao 255 (Bn qk).2).2).1:Int),Db,[]⟩,(Bn (Ao 255 (Bn qk).2).2).2):=rfl;rw[hoe]at hs1 hoo;rw[hoo]at hok2;obtain⟨⟨x1,q1⟩,h1⟩:∃y,Bn qk=y:=⟨_,rfl⟩;obtain⟨⟨l2,q2⟩,h2⟩:∃y,Ao 255 q1=y:=⟨_,rfl⟩;obtain⟨⟨x3,q3⟩,h3⟩:∃y,Bn q2=y:=⟨_,rfl⟩;simp only[h1,h2,h3]at hs1 hok2;have g1:q1.s.length<=9223372036854775807:=by have:=Nat.le_trans (Hx hlen) hlen;rw[h1]at this;exact this
    have K1:=Zh (fun W (h:RdF W g qk)=>Eu g qk W h);have K2:=Zh (fun W (h:RdF W g q1)=>El g 255 q1 W h g1);have K3:=Zh (fun W (h:RdF W g q2)=>Eu g q2 W h);rw[h1]at K1;rw[h2]at K2;rw[h3]at K3;simp only at K1 K2 K3
    have hx0:=(Below.refl wr.heap.size wr).alloc (Nat.le_refl _) (.cells Dx.vals.toArray 126);have I0:InE g b B wr.heap.size qk Dx.vals { z with ea:=A,en:=k,ec:=c } ((Bd false q k).1.map Entry.vals) w (wr.alloc (.cells Dx.vals.toArray 126)):=
     ⟨hgB,hbB,hne,by omega,hR.stays hx0,Blk.new wr 126 Dx.vals,hA.stays hx0,As.stays hRow hx0,fun j hj=>by have:=(As.lt hRow j hj).2;omega,hT.Ay (Touch.Aq hx0 _)⟩
    obtain⟨wy,hwy⟩:∃V,V=wr.alloc (.cells Dx.vals.toArray 126):=⟨_,rfl⟩;rw[<-hwy]at I0;have HWY:=Zh hwy;have HS:=Zh hs1;have HOK:=Zh hok2;have hiw:IntKind.i64.wrap ((k:Int)+1)=(k:Int)+1:=IntWalk.i64_in _ (by omega);clear hR hRow hT hs1 hA hwy h1 h2 h3 hok hok2 hoe hoo hlen hx0;go_wp2_with fail;change Calls _ _ _ (wr.alloc (.cells Dx.vals.toArray 126)) _;rw[<-HWY.out];refine(K1.out _ I0.R).mono ?_
    rintro e w1 ⟨rfl,hQ⟩;have I1:=I0.read hQ;have c0:=I1.E.cell 0;have z0:=I1.E.frozen 0;have I2:=I1.set 0 (.int .i64 x1);clear hQ I0 I1;go_wp2_with fail;obtain⟨wa,hw⟩:∃V,V=w1.setCell ⟨wr.heap.size,0,none⟩ (.int .i64 x1):=⟨_,rfl⟩;rw[<-hw]at I2;have HWN:=Zh hw;clear hw;rw[<-HWN.out];clear HWN c0 z0;refine(K2.out _ I2.R).mono ?_
    rintro e w2 ⟨rfl,hQ⟩;have I3:=I2.read hQ;have c0:=I3.E.cell 1;have z0:=I3.E.frozen 1;have I4:=I3.set 1 (.string (bs l2));clear hQ I2 I3;go_wp2_with fail;obtain⟨wb,hw⟩:∃V,V=w2.setCell ⟨wr.heap.size,1,none⟩ (.string (bs l2)):=⟨_,rfl⟩;rw[<-hw]at I4;have HWN:=Zh hw;clear hw;rw[<-HWN.out];clear HWN c0 z0;refine(K3.out _ I4.R).mono ?_
    rintro e w3 ⟨rfl,hQ⟩;have I5:=I4.read hQ;have c0:=I5.E.cell 2;have z0:=I5.E.frozen 2;have I6:=I5.set 2 (.int .i64 x3);clear hQ I4 I5;go_wp2_with fail;obtain⟨wc,hw⟩:∃V,V=w3.setCell ⟨wr.heap.size,2,none⟩ (.int .i64 x3):=⟨_,rfl⟩;rw[<-hw]at I6;have HWN:=Zh hw;clear hw;rw[<-HWN.out];clear HWN c0 z0;replace I6:InE g b B wr.heap.size q3 (Entry.vals ⟨x1,l2,x3,Db,[]⟩) { z with ea:=A,en:=k,ec:=c } ((Bd false q k).1.map Entry.vals) w wc:=I6;have r4:rowOf wc wr.heap.size 0 15=some (Entry.vals ⟨x1,l2,x3,Db,[]⟩).toArray:=I6.E.row 0 15 (by simp[Entry.len]);have c56:wc.cell? ⟨b,56,none⟩=some (.slice A k c):=I6.C.cell 56;have f56:=I6.C.frozen 56;have hap:=As.append (P:=Tryz.prog) 48 48 i0 Tryz.underlying48 hi hz hsize hby rfl (by omega) (by omega) (show As wc.drew _ _ _ _ _ from I6.L) (by have:=I6.T.size;have:wc.drew.heap.size=wc.heap.size:=rfl;omega) (Entry.vals ⟨x1,l2,x3,Db,[]⟩) (Entry.len _) (Entry.one _) (by rw[List.length_map,hone];omega);have HA:=Zh hap;have HI6:=Zh I6;have S0:wc.drew.cell? ⟨b,56,none⟩=some (.slice A k c)/\wc.drew.frozen? ⟨b,56,none⟩=false/\rowOf wc.drew wr.heap.size 0 15=some (Entry.vals ⟨x1,l2,x3,Db,[]⟩).toArray:=⟨c56,f56,r4⟩;have S3:(wc.alloc (.cells (Entry.vals ⟨x1,l2,x3,Db,[]⟩).toArray 126)).cell? ⟨b,56,none⟩=some (.slice A k c):=(I6.C.alloc _).cell 56;clear hap I6;go_region_law (first
     |(refine Cp (by rfl) (.tmp 179) (.tmp 181) #[48,48] (by rfl) _ _ (by rfl) (by rfl) HA.out ?_;rintro v' w' ⟨hR',hb'⟩;obtain⟨A',c',rfl,-⟩:=As.at_ hR';have S4:w'.cell? ⟨b,56,none⟩=some (.slice A k c)/\w'.frozen? ⟨b,56,none⟩=false:=⟨((show Blk wc.drew _ _ _ from HI6.out.C).below (hb' wc.drew (Below.refl _ _)) hbB).cell 56,((show Blk wc.drew _ _ _ from HI6.out.C).below (hb' wc.drew (Below.refl _ _)) hbB).frozen 56⟩))
    all_goals
     have hn1:((Bd false q k).1.map Entry.vals++[Entry.vals ⟨x1,l2,x3,Db,[]⟩]).length=k+1:=by simp[hone]
     rw[hn1]at hR';have hD:=HI6.out.done hR' (hb' wc ((Below.refl _ _).drew));have HD:=Zh hD;clear hD hR' hb' S0 S3 S4 HA HI6 c56 f56 r4 K1 K2 K3 hn1;go_wp2;go_roundw
     case rel=>exact⟨k+1,A',c',by omega,rfl,by go_num,by rw[HS.out];exact HD.out.1,by rw[HS.out];exact HOK.out.symm,HD.out.2.1,by rw[HS.out,List.map_append];exact HD.out.2.2.1,HD.out.2.2.2⟩
     case measure=>simp[intOf];omega
   ·have hne0:((Bd false q k).2.e==0)=false:=by simpa using he
    have HO:=Zh (show aok false q n=false from Aoo (by rw[<-hok];exact hne0) hk);have HT:=Zh hT;generalize (Bd false q k).2.e=ek at *;clear hT hRow hA hR hok;go_wp2;go_ret;rw[HO.out];exact⟨rfl,fun h=>absurd h (by simp),HT.out⟩
  ·obtain rfl:k=n:=by omega
   have HF:=Zh (And.intro hR (And.intro hA (And.intro hRow hT)));have hone:=Ki false q k;obtain⟨ek,hek⟩:∃v,v=(Bd false q k).2.e:=⟨_,rfl⟩;rw[<-hek]at hE hok;have HO:=Zh hok.symm;clear hT hRow hA hR hek hok;by_cases h0:ek=0
   ·subst h0
    go_wp2;go_ret;rw[HO.out,hone];exact⟨rfl,fun _=>⟨A,c,HF.out.2.1,HF.out.1,HF.out.2.2.1⟩,HF.out.2.2.2⟩
   ·have h0':(ek==0)=false:=by simpa using h0
    go_wp2;go_ret;rw[HO.out,h0'];exact⟨rfl,fun h=>absurd h (by simp),HF.out.2.2.2⟩
end
theorem Sb {α:Type}(f:α->List UInt8)(n:Nat)(l:List α)(h:∀x∈l,(f x).length<=n):(l.flatMap f).length<=n*l.length:=by
 induction l with
 |nil=>simp
 |cons a l ih=>
  rw[List.flatMap_cons,List.length_append,List.length_cons,Nat.mul_succ];have h1:=h a (by simp);have h2:=ih fun x hx=>h x (by simp[hx])
  omega
theorem Nx (s:List UInt8):(opq s).length<=s.length+8:=by
 unfold opq;have h1:=Qk s;have h2:=Qa s.length;have h3:=Ce s.length 4;rw[List.length_append];omega
theorem Ui (whole:Bool)(x:Entry)(h:Xn whole x):(J4 whole x).length<=500:=by
 obtain⟨_,h2,_,h4⟩:=h;have e1:=Ce x.gen.toNat 8;have e2:=Ce x.cookie.toNat 8;have e3:=Nx x.name;have e4:=Nx x.fh;have e5:=x.attr.Dk;unfold J4;rw[List.length_append,List.length_append,List.length_append];cases whole
 ·simp only[Bool.false_eq_true,if_false,List.length_nil]
  omega
 ·obtain⟨_,_,h6⟩:=h4 rfl
  rw[if_pos rfl,List.length_append];omega
theorem Aec (n:Int):(Qc n).length=8:=Ce _ 8
theorem Aiz (d:Dd)(c:Nat)(hm:rM8 d c)(hc:Hp c):(rB8 d c).length<=33000:=by
 rcases hc with rfl|rfl|rfl|rfl|rfl|rfl|rfl|rfl|rfl|rfl|rfl|rfl|rfl|rfl
 ·have h1:d.f.fh.length<=64:=hm
  have:=Nx d.f.fh
  show (opq d.f.fh).length<=33000
  omega
 ·have:=d.f.obj.Dk
  show d.f.obj.bytes.length<=33000
  omega
 ·have:=d.f.dir.Dk
  show d.f.dir.bytes.length<=33000
  omega
 ·have:=d.f.wcc.Dk
  show d.f.wcc.bytes.length<=33000
  omega
 ·have:=d.f.wcc2.Dk
  show d.f.wcc2.bytes.length<=33000
  omega
 ·show (num d.f.access.toNat 4).length<=33000
  rw[Ce];omega
 ·show (num d.f.count.toNat 4).length<=33000
  rw[Ce];omega
 ·show (num d.f.stable.toNat 4).length<=33000
  rw[Ce];omega
 ·show (num d.f.verf.toNat 8).length<=33000
  rw[Ce];omega
 ·show (Jo d.f.eof).length<=33000
  simp[Jo,Ce]
 ·have h1:d.f.data.length<=256:=hm
  have:=Nx d.f.data
  show (opq d.f.data).length<=33000
  omega
 ·have h1:d.us.length<=16/\∀n∈d.us,Rj n:=hm
  show (num d.us.length 4++d.us.flatMap Qc).length<=33000
  have h2:=Sb Qc 8 d.us fun n _=>Nat.le_of_eq (Aec n)
  rw[List.length_append,Ce];omega
 ·have h1:d.es.length<=64/\∀x∈d.es,Xn false x:=hm
  show (num d.es.length 4++d.es.flatMap (J4 false)).length<=33000
  have h2:=Sb (J4 false) 500 d.es fun n hn=>Ui false n (h1.2 n hn)
  rw[List.length_append,Ce];omega
 ·have h1:d.es.length<=64/\∀x∈d.es,Xn true x:=hm
  show (num d.es.length 4++d.es.flatMap (J4 true)).length<=33000
  have h2:=Sb (J4 true) 500 d.es fun n hn=>Ui true n (h1.2 n hn)
  rw[List.length_append,Ce];omega
theorem Aa1 (d:Dd)(l:List UInt8)(hl:∀k (hk:k<l.length),Hp l[k].toNat)(hm:∀k (hk:k<l.length),rM8 d l[k].toNat)(k:Nat)(hk:k<=l.length):(La d l k).length<=33000*k:=by
 induction k with
 |zero=>simp[La]
 |succ k ih=>
  have h1:=ih (by omega);have h2:=Aiz d l[k].toNat (hm k hk) (hl k hk);rw[Tf d l k hk,List.length_append];omega
theorem U5 {α:Type}(f:α->List UInt8)(l:List α)(k:Nat)(hk:k<l.length):(l.take (k+1)).flatMap f=(l.take k).flatMap f++f l[k]:=by
 rw[List.take_add_one,List.getElem?_eq_getElem hk,List.flatMap_append];simp
theorem Pf {α:Type}(f:α->List UInt8)(n:Nat)(l:List α)(h:∀x∈l,(f x).length<=n)(k:Nat):((l.take k).flatMap f).length<=n*l.length:=by
 have h1:=Sb f n (l.take k) fun x hx=>h x (List.mem_of_mem_take hx)
 have h2:(l.take k).length<=l.length:=by rw[List.length_take];omega
 exact Nat.le_trans h1 (Nat.mul_le_mul_left n h2)
end Go.Proofs.YtfjflkmhhbhceaaGreatDoor
