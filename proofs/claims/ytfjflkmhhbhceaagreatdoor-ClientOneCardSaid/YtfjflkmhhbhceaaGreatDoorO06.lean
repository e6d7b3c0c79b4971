/-
  Layer 7, walks: something is done with each letter, till that is false. Conditions: what is done keeps iterators, and bears that the own one goes on.
-/
import Derived.Test.YtfjflkmhhbhceaaGreatDoorO04
import Derived.Test.YtfjflkmhhbhceaaGreatDoorO03
import Derived.Deep.Light
import Derived.Laws.Bits64b
import Derived.Test.YtfjflkmhhbhceaaGreatDoorProg
import Derived.Test.YtfjflkmhhbhceaaGreatDoorO02
set_option maxRecDepth 20000
set_option maxHeartbeats 40000000
namespace Go.Proofs.YtfjflkmhhbhceaaGreatDoor
open Go.RowKit
attribute [local go_sem ↓] Go.wp_at_zero Go.wp_at_succ
attribute [local go_sem] Ai Ag Af Ab Aj
theorem Yx:∀s∈F5,∀c∈s,c.toNat<128:=by decide
theorem Aab (p:Int){k:Nat}(hk:k<(Al p).length):(Al p)[k].toNat<128:=by
 have hm:(Al p)[k]∈Al p:=List.getElem_mem hk;generalize (Al p)[k]=c at *;unfold Al at hm;split at hm
 ·simp at hm
 ·rcases Nat.lt_or_ge p.toNat F5.length with h|h
  ·have he:F5.getD p.toNat []=F5[p.toNat]:=by simp[List.getD,List.getElem?_eq_getElem h]
   rw[he]at hm;exact Yx _ (List.getElem_mem h) _ hm
  ·simp[List.getD,List.getElem?_eq_none h]at hm
def Acm (w:World)(b:Nat):Nat:=match w.heap[b]? with
 |some (.stringIter _ p)=>p
 |_=>0
theorem Itr.Apv {w:World}{b:Nat}{l:List UInt8}{pos:Nat}(h:Itr w b l pos):Acm w b=pos:=by
 unfold Itr at h;simp[Acm,h]
def Aow (n:Nat)(ok:Nat->Bool)(S:Nat->World->Prop)(e:Ending)(w':World):Prop:=
 ∃m,S m w'/\((m=n/\(∀j,j<n->ok j=true)/\e=.returned (.bool true))\/(∃j,m=j+1/\j<n/\(∀i,i<j->ok i=true)/\ok j=false/\e=.returned (.bool false)))
theorem Aew (p:Int)(F:FuncId)(caps:List Value)(w:World)(ok:Nat->Bool)(S:Nat->World->Prop)
  (hcf:∀args W,(callFunc F args).run Tryz.prog W=.ok (.enter F args) W)
  (h0:∀W,Below w.heap.size w W->S 0 W)
  (hset:∀k W b l pos pos',w.heap.size<=b->S k W->Itr W b l pos->S k (W.setIter b l pos'))
  (hcall:∀k (hk:k<(Al p).length) W,S k W->Calls Tryz.prog F (.int .i32 (Al p)[k].toNat::caps).toArray W fun e W'=>e=.returned (.bool (ok k))/\S (k+1) W'/\∀b l pos,Itr W b l pos->Itr W' b l pos) :
  Calls Tryz.prog 77 #[.int .i64 p,.func (.func F) #[] caps.toArray] w (Aow (Al p).length ok S):=by
 have hasc:=fun k hk=>Aab p (k:=k) hk
 have hfld:=Ru p;generalize Al p=l at *;go_enter Tryz.func77,Tryz.ntmps77
 go_wp2_with fail;refine(hfld _).mono ?_
 rintro e w1 ⟨rfl,hb⟩;have hI:=Itr.new w1 l;have hS:=h0 _ (hb.alloc hb.size (.stringIter (bs l) 0));change S 0 (w1.iter (bs l) 0) at hS;have hlt:=hb.size;clear hfld h0 hb;go_wp2;generalize w1.iter (bs l) 0=w2 at *;generalize w1.heap.size=b at *
 go_loopw [6] (fun _ wr=>∃k:Nat,k<=l.length/\(∀j,j<k->ok j=true)/\S k wr/\Itr wr b l k) (fun _ wr=>l.length - Acm wr b)
 case atStart=>exact⟨0,Nat.zero_le _,fun _ h=>absurd h (Nat.not_lt_zero _),hS,hI⟩
 case round=>
  clear hS hI;obtain⟨k,hk,hok,hS,hI⟩:=hrel;by_cases hlk:k<l.length
  ·have hn:=fun ty=>Tz (P:=Tryz.prog) hI hlk (hasc k hlk) ty
   have hS2:=hset k _ b l k (k+1) hlt hS hI;have hI2:=hI.Be (k+1);go_wp2_with fail;have hcl:=hcall k hlk _ hS2;refine hcl.mono ?_
   ·rintro e w4 ⟨rfl,hS3,hit⟩
    have hI3:=hit _ _ _ hI2;cases hb:ok k with
    |true=>
     have HP:=Zh (show ∀j,j<k+1->ok j=true from fun j hj=>by
      rcases Nat.lt_or_ge j k with h|h
      ·exact hok j h
      ·obtain rfl:j=k:=by omega
       exact hb)
     have hp:=hI.Apv;have hp3:=hI3.Apv;clear hn hS hI hS2 hI2 hit hok hset hcall;go_wp2;go_roundw
     case rel=>exact⟨k+1,by omega,HP.out,hS3,hI3⟩
     case measure=>rw[hp,hp3];omega
    |false=>
     clear hn hS hI hS2 hI2 hit hset hcall;go_wp2;go_ret;exact⟨k+1,hS3,.inr ⟨k,rfl,hlk,hok,hb,rfl⟩⟩
  ·have hn:=fun ty=>Pq (P:=Tryz.prog) hI hlk ty
   obtain rfl:k=l.length:=by omega
   go_wp2;go_ret;exact⟨l.length,hS,.inl ⟨rfl,hok,rfl⟩⟩
section
attribute [local go_sem] Acs Xt
def Reads (g:Nat)(r:Rs)(w w':World):Prop:=Rd w' g r/\Touch (fun k=>k=g) w w'
def Um (g:Nat)(r:Rs)(v:Value)(w:World)(e:Ending)(w':World):Prop:=e=.returned v/\Reads g r w w'
theorem Rd.lt {w:World}{g:Nat}{r:Rs}(h:Rd w g r):g<w.heap.size:=h.1.lt
theorem Reads.refl {w:World}{g:Nat}{r:Rs}(h:Rd w g r):Reads g r w w:=⟨h,Touch.refl _ _⟩
theorem Reads.trans {a b c:World}{g:Nat}{r r':Rs}(h:Reads g r a b)(k:Reads g r' b c):Reads g r' a c:=⟨k.1,h.2.Ay k.2⟩
theorem Rd.stays {w w':World}{g:Nat}{r:Rs}(h:Rd w g r)(hb:Below w.heap.size w w'):Rd w' g r:=⟨h.1.stays hb,h.2⟩
theorem Rd.Ak {w w':World}{g:Nat}{r:Rs}{F:Nat->Prop}(h:Rd w g r)(ht:Touch F w w')(hn:¬F g):Rd w' g r:=⟨h.1.Ak ht hn,h.2⟩
theorem Reads.behind {a b c:World}{g:Nat}{r:Rs}(h:Below a.heap.size a b)(k:Reads g r b c):Reads g r a c:=⟨k.1,(Touch.Aq h _).Ay k.2⟩
theorem Reads.new {a b c:World}{g:Nat}{r:Rs}(h:Reads g r a b)(k:Below b.heap.size b c):Reads g r a c:=⟨h.1.stays k,h.2.Ay (Touch.Aq k _)⟩
theorem Reads.keeps {a b:World}{g:Nat}{r:Rs}(h:Reads g r a b){k:Nat}{T:TypeId}{cs:List Value}(hb:Blk a k T cs)(hk:k≠g):Blk b k T cs:=hb.Ak h.2 hk
theorem Touch.An {F:Nat->Prop}{a b:World}(h:Touch F a b){g o:Nat}(hp:F g\/a.heap.size<=g)(u:Value):Touch F a (b.setCell ⟨g,o,none⟩ u):=h.setCell (p:=⟨g,o,none⟩) hp u
theorem Touch.setCells {F:Nat->Prop}{a:World}{g:Nat}(hp:F g\/a.heap.size<=g):∀(vs:List Value) (o:Nat) (b:World),Touch F a b->Touch F a (b.setCells g o vs)
 |[],_,_,h=>h
 |v::vs,o,b,h=>by
  rw[World.setCells];exact Touch.setCells hp vs (o+1) _ (h.An hp v)
theorem Reads.lay {w wx:World}{g b:Nat}{r:Rs}{T:TypeId}{old cs:List Value}(h:Reads g r w wx)(hb:Blk wx b T old)(hl:old.length=cs.length)(hne:b≠g)(hB:w.heap.size<=b):Reads g r w (wx.setCells b 0 cs)/\Blk (wx.setCells b 0 cs) b T cs:=
 ⟨⟨⟨Blk.Fk hne.symm cs 0 wx h.1.1,h.1.2⟩,Touch.setCells (.inr hB) cs 0 wx h.2⟩,hb.whole hl⟩
theorem Cn (g:Nat)(r:Rs)(w:World)(hR:Rd w g r):Calls Tryz.prog 100 #[.pointer (some ⟨g,0,none⟩)] w fun e w'=>e=.returned (.int .i64 r.e)/\w=w':=by
 have hc:=hR.1.cell;go_enter Tryz.func100,Tryz.ntmps100
 go_wp2;go_ret;exact⟨rfl,rfl⟩
theorem Ng (g:Nat)(r:Rs)(n:Int)(w:World)(hR:Rd w g r):Calls Tryz.prog 173 #[.pointer (some ⟨g,0,none⟩),.int .i64 n] w (Um g (Rs.fail n) (.tuple #[]) w):=by
 have hc:=hR.1.cell;have hf:=hR.1.frozen;have hB:=Zh ((hR.1.Be 0 (.string (bs []))).Be 1 (.int .i64 n));have hT:=Zh (((Touch.refl (fun k=>k=g) w).An (g:=g) (o:=0) (.inl rfl) (.string (bs []))).An (g:=g) (o:=1) (.inl rfl) (.int .i64 n));clear hR;go_enter Tryz.func173,Tryz.ntmps173
 go_wp2;go_end0
 exact⟨rfl,⟨hB.out,fun _=>rfl⟩,hT.out⟩
theorem Xz (g:Nat)(r:Rs)(n:Nat)(f:Value)(w:World)(hR:Rd w g r)(he:r.e≠0):Calls Tryz.prog 171 #[.pointer (some ⟨g,0,none⟩),.int .i64 n,f] w fun e w'=>e=.returned (.tuple #[])/\w=w':=by
 have he':(r.e != 0)=true:=by simpa using he
 have HR:=Zh hR;clear hR he;go_enter Tryz.func171,Tryz.ntmps171
 go_wp2_with fail;refine(Cn g r _ HR.out).mono ?_
 rintro e w1 ⟨rfl,rfl⟩;go_wp2;exact bodyPost_ret (results_none Tryz.results171 _ _ _) rfl ⟨rfl,rfl⟩
theorem S8 (g:Nat)(s:List UInt8)(n:Nat)(f:Value)(w:World)(hR:Rd w g ⟨s,0⟩)(hs:s.length<n):Calls Tryz.prog 171 #[.pointer (some ⟨g,0,none⟩),.int .i64 n,f] w (Um g (Rs.fail 10) (.tuple #[]) w):=by
 have hc:=hR.1.cell;have hsz:=Au s;have HR:=Zh hR;clear hR;go_enter Tryz.func171,Tryz.ntmps171
 go_wp2_with fail;refine(Cn g ⟨s,0⟩ _ HR.out).mono ?_
 rintro e w1 ⟨rfl,rfl⟩;go_wp2_with fail;refine(Ng g ⟨s,0⟩ 10 _ HR.out).mono ?_
 rintro e w2 ⟨rfl,hQ⟩;go_wp2;exact bodyPost_ret (results_none Tryz.results171 _ _ _) rfl ⟨rfl,hQ⟩
theorem Abx (g:Nat)(s:List UInt8)(n f:Nat)(cap:Array Value)(w:World)(hR:Rd w g ⟨s,0⟩)(hs:n<=s.length)(_hl:s.length<=9223372036854775807)(hcf:∀(args:Array Value) (w:World),(callFunc f args).run Tryz.prog w=.ok (.enter f args) w){Q:World->World->Prop}
  (hdo:∀w1,Reads g ⟨s.drop n,0⟩ w w1->Calls Tryz.prog f (#[.string (bs (s.take n))]++cap) w1 fun e w'=>e=.returned (.tuple #[])/\Q w1 w') :
  Calls Tryz.prog 171 #[.pointer (some ⟨g,0,none⟩),.int .i64 n,.func (.func f) #[] cap] w fun e w'=>∃w1,e=.returned (.tuple #[])/\Reads g ⟨s.drop n,0⟩ w w1/\Q w1 w':=by
 have hc:=hR.1.cell;have hf:=hR.1.frozen;have hsz:=Au s;have HR:=Zh hR;have HD:=Zh hdo;clear hR hdo;go_enter Tryz.func171,Tryz.ntmps171
 go_wp2_with fail;refine(Cn g ⟨s,0⟩ _ HR.out).mono ?_
 rintro e w1 ⟨rfl,rfl⟩;go_wp2_with fail;have hS:=((HR.out.1.Be 0 (.string (bs (s.drop n)))));have hT:=((Touch.refl (fun k=>k=g) w).An (g:=g) (o:=0) (.inl rfl) (.string (bs (s.drop n))));have HQ:=Zh (show Reads g ⟨s.drop n,0⟩ w (w.setCell ⟨g,0,none⟩ (.string (bs (s.drop n)))) from ⟨⟨hS,fun h=>absurd rfl h⟩,hT⟩);clear hS hT;refine(HD.out _ HQ.out).mono ?_
 rintro e w2 ⟨rfl,hq⟩;have HQ2:=Zh hq;clear hq;go_wp2;go_end0
 exact⟨_,rfl,HQ.out,HQ2.out⟩
def Ur (l:List UInt8):List (List Value):=l.map fun c=>[u8 c]
theorem Ah3 {P:Program}(w:World)(src dst e:TypeId)(l:List UInt8)(hs:P.underlying src=some .string)(hd:P.underlying dst=some (.slice e))(he:P.underlying e=some (.int .u8)) :
  ∃cap W',(convert src dst (.string (bs l))).run P w=.ok (.slice (some ⟨w.heap.size,0,none⟩) l.length cap) W'/\At W' 1 (some ⟨w.heap.size,0,none⟩) (Ur l)/\Below w.heap.size w W'/\w.heap.size<W'.heap.size:=by
 refine⟨_,_,run_bytes_of_string w src dst e (bs l) hs hd he,?_,((Below.refl _ _).drew).alloc (Nat.le_refl _) _,by simp⟩
 intro i r hr;simp only[Ur,List.getElem?_map,Option.map_eq_some_iff]at hr;obtain⟨c,hc,rfl⟩:=hr;have hi:i<l.length:=(List.getElem?_eq_some_iff.1 hc).1;refine⟨w.heap.size,0,rfl,by simp,fun j u hu=>?_⟩
 obtain rfl:j=0:=by
  have:=(List.getElem?_eq_some_iff.1 hu).1;simp at this
  exact this
 simp only[List.getElem?_cons_zero,Option.some.injEq]at hu;subst hu;have h1:=World.cell?_alloc_mark w.drew (bytesRow (bs l) (grownCap w (bs l).size 0 e)) e ((bytesRow (bs l) (grownCap w (bs l).size 0 e)).size,(bytesRow (bs l) (grownCap w (bs l).size 0 e)).size+1) i;have h2:=bytesRow_at (bs l) (grownCap w (bs l).size 0 e) i (by simpa using hi);have h3:(bs l).data[i]'(by simpa using hi)=c:=by
  have:=(List.getElem?_eq_some_iff.1 hc).2
  simpa using this
 rw[h3]at h2
 simpa[Nat.mul_one,u8] using h1.trans h2
theorem Adf {w:World}{b:Nat}{l:List UInt8}(h:At w 1 (some ⟨b,0,none⟩) (Ur l)){k:Nat}(hk:k<l.length):w.cell? ⟨b,k,none⟩=some (.int .u8 (l[k].toNat:Int)):=by
 obtain⟨b',off,he,-,hc⟩:=h.getD (k:=k) (by simpa[Ur] using hk);injection he with he;injection he with h1 h2;subst h1;subst h2;have:=hc 0 (u8 l[k]) (by simp[Ur])
 simpa[u8] using this
theorem Apy (v c:Nat)(hv:v<72057594037927936)(hc:c<256):bits .or .u64 (IntKind.u64.wrap ((v:Int)*256)) (IntKind.u64.wrap (c:Int))=((v*256+c:Nat):Int):=by
 have e1:IntKind.u64.wrap ((v:Int)*256)=((v*256:Nat):Int):=by rw[IntKind.wrap_u64];omega
 have e2:IntKind.u64.wrap (c:Int)=(c:Int):=by rw[IntKind.wrap_u64];omega
 rw[e1,e2,bits_or_u64_nat _ _ (by omega) (by omega)];congr 1
 have:=Nat.shiftLeft_add_eq_or_of_lt (i:=8) (b:=c) (by omega) v;rw[Nat.shiftLeft_eq,show (2:Nat) ^ 8=256 from rfl]at this;omega
theorem Ab9 (b:Nat)(l:List UInt8)(w:World)(hB:Blk w b 202 [.int .u64 0])(hl:l.length<=8) :
  Calls Tryz.prog 172 #[.string (bs l),.pointer (some ⟨b,0,none⟩)] w fun e w'=>e=.returned (.tuple #[])/\Blk w' b 202 [.int .u64 (Dy l)]/\Touch (fun k=>k=b) w w':=by
 have hsz:=Au l;obtain⟨cap,W1,hrun,hA,hb1,hlt1⟩:=Ah3 (P:=Tryz.prog) w 9 124 5 l Tryz.underlying9 Tryz.underlying124 Tryz.underlying5;have hB1:=hB.stays hb1;have hT1:=Touch.Aq hb1 (fun k=>k=b);have hne:w.heap.size≠b:=Nat.ne_of_gt hB.lt;clear hb1 hB;go_enter Tryz.func172,Tryz.ntmps172
 go_wp2
 go_loopw [8] (fun i wr=>∃(k:Nat),k<=l.length/\i=.int .i64 k/\Blk wr b 202 [.int .u64 (Dy (l.take k))]/\Touch (fun j=>j=b) w wr/\At wr 1 (some ⟨w.heap.size,0,none⟩) (Ur l)) (fun i _=>l.length - (intOf i).toNat)
 case atStart=>
  exact⟨0,Nat.zero_le _,rfl,hB1,hT1,hA⟩
 case round=>
  clear hA hB1 hT1;obtain⟨k,hk,rfl,hb,hT,hA⟩:=hrel;by_cases hlt:k<l.length
  ·have hc1:=Adf hA hlt
   have hc0:=hb.cell;have hf0:=hb.frozen;have hv:Dy (l.take k)<72057594037927936:=by
    have h1:=Py (l.take k);have h2:(l.take k).length<=7:=by simp;omega
    have h3:=Nat.pow_le_pow_right (n:=256) (by omega) h2;omega
   have hor:=Apy (Dy (l.take k)) l[k].toNat hv (by have:=l[k].toNat_lt;omega);have HS:=Zh (show Dy (l.take (k+1))=Dy (l.take k)*256+l[k].toNat by rw[List.take_succ_eq_append_getElem hlt,Od]);have HB:=Zh (hb.Be 0 (.int .u64 ((Dy (l.take k)*256+l[k].toNat:Nat):Int)));have HT:=Zh (hT.An (g:=b) (o:=0) (.inl rfl) (.int .u64 ((Dy (l.take k)*256+l[k].toNat:Nat):Int)));have HA:=Zh (hA.Ak ((Touch.refl (fun j=>j=b) wr).An (g:=b) (o:=0) (.inl rfl) (.int .u64 ((Dy (l.take k)*256+l[k].toNat:Nat):Int))) (fun b' off he=>by injection he with he;injection he with h1 h2;omega));clear hb hT hA hv;go_wp2;go_roundw
   case rel=>exact⟨k+1,by omega,by go_num,by rw[HS.out];exact HB.out,HT.out,HA.out⟩
   case measure=>simp[intOf];omega
  ·have HE:=Zh hb
   obtain rfl:k=l.length:=by omega
   rw[List.take_length]at HE;go_wp2;go_end0
   exact⟨rfl,HE.out,hT⟩
end
abbrev StQ (g:Nat)(w W:World):Prop:=(∀b o,b<w.heap.size->b≠g->W.cell? ⟨b,o,none⟩=w.cell? ⟨b,o,none⟩)/\(∀b o n,b<w.heap.size->b≠g->rowOf W b o n=rowOf w b o n)/\Touch (fun k=>k=g) w W
theorem StQ.of {g:Nat}{w W:World}(h:Touch (fun k=>k=g) w W):StQ g w W:=⟨fun _ _ hb hn=>h.cell hb hn,fun _ _ _ hb hn=>h.row hb hn _ _,h⟩
theorem StQ.start {g:Nat}{w:World}:StQ g w w.drew:=StQ.of (Touch.refl _ _).drew
theorem StQ.call {g:Nat}{w W W':World}(h:StQ g w W)(hb:Touch (fun k=>k=g) W W'):StQ g w W':=StQ.of (h.2.2.Ay hb)
theorem Rd.An5 {w:World}{g:Nat}{r:Rs}(h:Rd w g r):Rd w.drew g r:=h
def Mw:List (List UInt8):=[[],[97],[119],[104,97,68],[97,120],[97,100],[97,101,100],[119,99,115,118],[104,97,119],[104,97,119],[104,97,119],[104,97,119],[119],[119],[119,87],[97,87],[97,118,108,101],[97,118,112,101],[97,110],[97,110],[97,110],[119,118]]
def Mv:List (List UInt8):=[[],[],[119],[68],[97],[97],[97],[119],[119],[119],[119],[119],[119],[119],[119,87],[97,87],[97],[97],[97],[97],[97],[119]]
def Dn (fine:Bool):List (List UInt8):=if fine then Mw else Mv
def Bg (p:Int)(fine:Bool):List UInt8:=if p<0 then [] else (Dn fine).getD p.toNat []
theorem Pc (p:Int):p<0\/22<=p\/p=0\/p=1\/p=2\/p=3\/p=4\/p=5\/p=6\/p=7\/p=8\/p=9\/p=10\/p=11\/p=12\/p=13\/p=14\/p=15\/p=16\/p=17\/p=18\/p=19\/p=20\/p=21:=by omega
theorem O0 {p:Int}{fine:Bool}(h:p<0):Bg p fine=[]:=by simp[Bg,h]
theorem Na {p:Int}{fine:Bool}(h:22<=p):Bg p fine=[]:=by
 have h1:¬p<0:=by omega
 have h2:(Dn fine).length<=p.toNat:=by
  have:(Dn fine).length=22:=by cases fine<;>rfl
  omega
 simp[Bg,h1,List.getD,List.getElem?_eq_none h2]
theorem Adj (p:Int)(w:World):Calls Tryz.prog 141 #[.int .i64 p] w fun e w'=>e=.returned (.string (bs (Bg p false)))/\Below w.heap.size w w':=by
 rcases Pc p with hlo|hhi|rfl|rfl|rfl|rfl|rfl|rfl|rfl|rfl|rfl|rfl|rfl|rfl|rfl|rfl|rfl|rfl|rfl|rfl|rfl|rfl|rfl|rfl
 ·rw[O0 hlo]
  go_enter Tryz.func141,Tryz.ntmps141
  go_wp2
  all_goals first
   |(go_ret;exact⟨rfl,Below.refl _ _⟩)
   |(exfalso;omega)
 ·rw[Na hhi]
  have hlo:¬p<0:=by omega
  go_enter Tryz.func141,Tryz.ntmps141
  go_wp2
  all_goals first
   |(go_ret;exact⟨rfl,Below.refl _ _⟩)
   |(exfalso;omega)
 all_goals
  go_enter Tryz.func141,Tryz.ntmps141
  go_wp2;go_ret;exact⟨rfl,Below.refl _ _⟩
theorem Us (p:Int)(w:World):Calls Tryz.prog 102 #[.int .i64 p,.bool true] w fun e w'=>e=.returned (.string (bs (Bg p true)))/\Below w.heap.size w w':=by
 rcases Pc p with hlo|hhi|rfl|rfl|rfl|rfl|rfl|rfl|rfl|rfl|rfl|rfl|rfl|rfl|rfl|rfl|rfl|rfl|rfl|rfl|rfl|rfl|rfl|rfl
 ·rw[O0 hlo]
  go_enter Tryz.func102,Tryz.ntmps102
  go_wp2
  all_goals first
   |(go_ret;exact⟨rfl,Below.refl _ _⟩)
   |(exfalso;omega)
 ·rw[Na hhi]
  go_enter Tryz.func102,Tryz.ntmps102
  go_wp2
  all_goals first
   |(go_ret;exact⟨rfl,Below.refl _ _⟩)
   |(exfalso;omega)
 all_goals
  go_enter Tryz.func102,Tryz.ntmps102
  go_wp2;go_ret;exact⟨rfl,Below.refl _ _⟩
theorem Xh (p:Int)(fine:Bool)(w:World):Calls Tryz.prog 102 #[.int .i64 p,.bool fine] w fun e w'=>e=.returned (.string (bs (Bg p fine)))/\Below w.heap.size w w':=by
 cases fine
 ·have hr:=Adj p w
  generalize Bg p false=l at *;go_enter Tryz.func102,Tryz.ntmps102
  go_wp2_with fail;refine hr.mono ?_
  rintro e w1 ⟨rfl,hb1⟩;go_wp2;go_ret;exact⟨rfl,hb1⟩
 ·exact Us p w
def Kq:List Int:=[0,1,2,13,17,20,21,22,27,28,31,63,66,69,70,10001,10002,10003,10005,10007]
def Ih (s:Int):Bool:=Kq.contains s
def X0 (l:List Int):List Value:=l.map fun n=>.int .i64 n
theorem X9 (s:Int)(w:World):Calls Tryz.prog 101 #[.int .i64 s] w fun e w'=>e=.returned (.bool (Ih s))/\Below w.heap.size w w':=by
 by_cases h:s∈Kq
 ·have HV:=Zh (show Ih s=true from List.contains_iff_mem.2 h)
  simp only[Kq,List.mem_cons,List.not_mem_nil,or_false]at h;rcases h with rfl|rfl|rfl|rfl|rfl|rfl|rfl|rfl|rfl|rfl|rfl|rfl|rfl|rfl|rfl|rfl|rfl|rfl|rfl|rfl
  all_goals
   go_enter Tryz.func101,Tryz.ntmps101
   go_wp2;go_ret;rw[HV.out];exact⟨rfl,Below.refl _ _⟩
 ·have HV:=Zh (show Ih s=false by rw[Ih,<-Bool.not_eq_true,List.contains_iff_mem];exact h)
  simp only[Kq,List.mem_cons,List.not_mem_nil,or_false,not_or]at h;obtain⟨n0,n1,n2,n3,n4,n5,n6,n7,n8,n9,n10,n11,n12,n13,n14,n15,n16,n17,n18,n19⟩:=h;have b0:(s==0)=false:=beq_false_of_ne n0;have b1:(s==1)=false:=beq_false_of_ne n1;have b2:(s==2)=false:=beq_false_of_ne n2;have b3:(s==13)=false:=beq_false_of_ne n3;have b4:(s==17)=false:=beq_false_of_ne n4;have b5:(s==20)=false:=beq_false_of_ne n5;have b6:(s==21)=false:=beq_false_of_ne n6;have b7:(s==22)=false:=beq_false_of_ne n7;have b8:(s==27)=false:=beq_false_of_ne n8;have b9:(s==28)=false:=beq_false_of_ne n9;have b10:(s==31)=false:=beq_false_of_ne n10;have b11:(s==63)=false:=beq_false_of_ne n11;have b12:(s==66)=false:=beq_false_of_ne n12;have b13:(s==69)=false:=beq_false_of_ne n13;have b14:(s==70)=false:=beq_false_of_ne n14;have b15:(s==10001)=false:=beq_false_of_ne n15;have b16:(s==10002)=false:=beq_false_of_ne n16;have b17:(s==10003)=false:=beq_false_of_ne n17;have b18:(s==10005)=false:=beq_false_of_ne n18;have b19:(s==10007)=false:=beq_false_of_ne n19;clear n0 n1 n2 n3 n4 n5 n6 n7 n8 n9 n10 n11 n12 n13 n14 n15 n16 n17 n18 n19;go_enter Tryz.func101,Tryz.ntmps101
  go_wp2;go_ret;rw[HV.out];exact⟨rfl,Below.refl _ _⟩
theorem Sm (s:Int)(w:World):Calls Tryz.prog 61 #[.int .i64 s] w fun e w'=>e=.returned (.bool (Ih s))/\Below w.heap.size w w':=by
 have hA:=Blk.new w 3 (X0 Kq);have hB:Below w.heap.size w (w.alloc (.cells (X0 Kq).toArray 3)):=(Below.refl _ _).alloc (Nat.le_refl _) _;go_enter Tryz.func61,Tryz.ntmps61
 go_wp2;change Code.wp _ _ _ _ (w.alloc (.cells (X0 Kq).toArray 3));generalize w.alloc (.cells (X0 Kq).toArray 3)=w1 at *;have hcell:∀(k:Nat) (hk:k<Kq.length),w1.cell? ⟨w.heap.size,k,none⟩=some (.int .i64 Kq[k]):=fun k hk=>by
  rw[hA.cell k];simp[X0,hk]
 have hll:Kq.length=20:=rfl;have HP:=Zh (show Ih s=Kq.contains s from rfl);generalize Kq=L at *;clear hA
 go_loopw [4] (fun iv wr=>∃k:Nat,k<=20/\iv=.int .i64 k/\(∀(j:Nat) (hj:j<L.length),j<k->L[j]≠s)/\wr=w1) (fun iv _=>20 - (intOf iv).toNat)
 case atStart=>exact⟨0,by omega,rfl,fun _ _ h=>absurd h (Nat.not_lt_zero _),rfl⟩
 case round=>
  obtain⟨k,hk,rfl,hno,rfl⟩:=hrel;by_cases hlt:k<20
  ·have hkl:k<L.length:=by omega
   have hc:=hcell k hkl;by_cases he:L[k]=s
   ·have HV:=Zh (show Ih s=true by rw[HP.out,List.contains_iff_mem,<-he];exact List.getElem_mem hkl)
    have hq:(L[k]==s)=true:=by simpa using he
    clear hno hcell he;generalize L[k]=x at *;go_wp2;go_ret;rw[HV.out];exact⟨rfl,hB⟩
   ·have hq:(L[k]==s)=false:=beq_false_of_ne he
    have HN:=Zh (show ∀(j:Nat) (hj:j<L.length),j<k+1->L[j]≠s from fun j hj h=>by
     rcases Nat.lt_or_ge j k with h3|h3
     ·exact hno j hj h3
     ·obtain rfl:j=k:=by omega
      exact he)
    clear hno hcell he;generalize L[k]=x at *;go_wp2;go_roundw
    case rel=>exact⟨k+1,by omega,by go_num,HN.out,trivial⟩
    case measure=>simp[intOf];omega
  ·obtain rfl:k=20:=by omega
   have HV:=Zh (show Ih s=false by
    rw[HP.out,<-Bool.not_eq_true,List.contains_iff_mem];intro hm;obtain⟨j,hj,e⟩:=List.getElem_of_mem hm;exact hno j hj (by omega) e)
   clear hno hcell;go_wp2;go_ret;rw[HV.out];exact⟨rfl,hB⟩
theorem Ae2 (args:Array Value)(w:World):(callFunc 172 args).run Tryz.prog w=.ok (.enter 172 args) w:=by kernel_rfl
theorem Adv {k:Nat}{r:Rs}(h:r.e≠0):F3 k r=(0,r):=by simp[F3,h]
theorem Yk {k:Nat}{s:List UInt8}(h:s.length<k):F3 k ⟨s,0⟩=(0,Rs.fail 10):=by simp[F3,h]
theorem Aiy {k:Nat}{s:List UInt8}(h:k<=s.length):F3 k ⟨s,0⟩=(Dy (s.take k),⟨s.drop k,0⟩):=by
 have:¬s.length<k:=by omega
 simp[F3,this]
theorem Re (g k:Nat)(r:Rs)(w:World)(hR:Rd w g r)(hk:k<=8)(hl:r.s.length<=9223372036854775807) :
  Calls Tryz.prog 140 #[.pointer (some ⟨g,0,none⟩),.int .i64 k] w (Um g (F3 k r).2 (.int .u64 (F3 k r).1) w):=by
 have hb:=Blk.new w 202 [.int .u64 0];have hB:Below w.heap.size w (w.alloc (.cells #[.int .u64 0] 202)):=(Below.refl _ _).alloc (Nat.le_refl _) _;have hR1:=hR.stays hB;have hne:w.heap.size≠g:=Nat.ne_of_gt hR.lt;clear hR;by_cases he:r.e=0
 ·obtain⟨s,e⟩:=r
  simp only at he hl
  subst he;by_cases hs:s.length<k
  ·have HN:=Zh (Yk hs)
   go_enter Tryz.func140,Tryz.ntmps140
   go_wp2_with fail;generalize w.alloc (.cells #[.int .u64 0] 202)=w0 at *;refine(S8 g s k _ _ hR1 hs).mono ?_
   rintro e w1 ⟨rfl,hQ⟩;have hb1:=hQ.keeps hb hne;have hc:=hb1.cell;have HQ:=Zh (Reads.behind hB hQ);clear hQ hb hb1;go_wp2;go_ret;rw[HN.out];exact⟨rfl,HQ.out⟩
  ·have HN:=Zh (Aiy (k:=k) (s:=s) (by omega))
   have hlt:(s.take k).length<=8:=by simp;omega
   go_enter Tryz.func140,Tryz.ntmps140
   go_wp2_with fail;generalize w.alloc (.cells #[.int .u64 0] 202)=w0 at *;refine(Abx g s k 172 #[.pointer (some ⟨w.heap.size,0,none⟩)] _ hR1 (by omega) hl Ae2 (fun w1 hQ=>Ab9 w.heap.size (s.take k) w1 (hQ.keeps hb hne) hlt)).mono ?_
   rintro e w2 ⟨w1,rfl,hQ,hb2,hT2⟩;have hc:=hb2.cell;have HQ:=Zh (show Reads g ⟨s.drop k,0⟩ w w2 from ⟨hQ.1.Ak hT2 (fun h=>hne h.symm),((Touch.Aq hB _).Ay hQ.2).trans hT2 (fun i hi h=>by omega)⟩);clear hQ hb hb2 hT2;go_wp2;go_ret;rw[HN.out];exact⟨rfl,HQ.out⟩
 ·have HN:=Zh (Adv (k:=k) he)
  have HE:=Zh he;clear he;go_enter Tryz.func140,Tryz.ntmps140
  go_wp2_with fail;generalize w.alloc (.cells #[.int .u64 0] 202)=w0 at *;refine(Xz g r k _ _ hR1 HE.out).mono ?_
  rintro e w1 ⟨rfl,rfl⟩;have hc:=hb.cell;have HQ:=Zh (Reads.behind hB (Reads.refl hR1));clear hb;go_wp2;go_ret;rw[HN.out];exact⟨rfl,HQ.out⟩
theorem R6 {k:Nat}{r:Rs}(_h:r.s.length<=9223372036854775807):(F3 k r).1<256 ^ k/\(F3 k r).2.s.length<=r.s.length:=by
 unfold F3;split
 ·exact⟨Nat.pow_pos (by omega),Nat.le_refl _⟩
 ·split
  ·exact⟨Nat.pow_pos (by omega),by simp[Rs.fail]⟩
  ·have:=Py (r.s.take k)
   rw[List.length_take,Nat.min_eq_left (by omega)]at this;exact⟨this,by simp⟩
theorem G3 (g:Nat)(r:Rs)(w:World)(hR:Rd w g r)(hl:r.s.length<=9223372036854775807) :
  Calls Tryz.prog 99 #[.pointer (some ⟨g,0,none⟩)] w (Um g (Am r).2 (.int .i64 (Am r).1) w):=by
 have hlt:(F3 4 r).1<4294967296:=(R6 (k:=4) hl).1;have hcv:IntKind.i64.wrap ((F3 4 r).1:Int)=(F3 4 r).1:=IntWalk.i64_in _ (by omega);go_enter Tryz.func99,Tryz.ntmps99
 go_wp2_with fail;refine(Re g 4 r _ hR (by omega) hl).mono ?_
 rintro e w1 ⟨rfl,hQ⟩;go_wp2;go_ret;exact⟨rfl,hQ⟩
theorem Mp (g:Nat)(r:Rs)(w:World)(hR:Rd w g r)(hl:r.s.length<=9223372036854775807) :
  Calls Tryz.prog 145 #[.pointer (some ⟨g,0,none⟩)] w (Um g (Bn r).2 (.int .i64 (Bn r).1) w):=by
 have hlt:(F3 8 r).1<18446744073709551616:=(R6 (k:=8) hl).1;by_cases hb:9223372036854775808<=(F3 8 r).1
 ·have HN:=Zh (show Bn r=(0,Rs.fail 3) by simp[Bn,hb])
  have h1:(((F3 8 r).1:Int) / 9223372036854775808 != 0)=true:=by rw[bne_iff_ne];omega
  go_enter Tryz.func145,Tryz.ntmps145
  go_wp2_with fail;refine(Re g 8 r _ hR (by omega) hl).mono ?_
  rintro e w1 ⟨rfl,hQ⟩;go_wp2_with fail;refine(Ng g (F3 8 r).2 3 _ hQ.1).mono ?_
  rintro e w2 ⟨rfl,hQ2⟩;have HQ:=Zh (hQ.trans hQ2);clear hQ hQ2;go_wp2;go_ret;rw[HN.out];exact⟨rfl,HQ.out⟩
 ·have HN:=Zh (show Bn r=F3 8 r by simp[Bn,hb])
  have h1:(((F3 8 r).1:Int) / 9223372036854775808 != 0)=false:=by rw[bne_eq_false_iff_eq];omega
  have hcv:IntKind.i64.wrap ((F3 8 r).1:Int)=(F3 8 r).1:=IntWalk.i64_in _ (by omega);go_enter Tryz.func145,Tryz.ntmps145
  go_wp2_with fail;refine(Re g 8 r _ hR (by omega) hl).mono ?_
  rintro e w1 ⟨rfl,hQ⟩;go_wp2;go_ret;rw[HN.out];exact⟨rfl,hQ⟩
theorem Em {r:Rs}(h:r.s.length<=9223372036854775807):(Am r).2.s.length<=r.s.length:=(R6 (k:=4) h).2
theorem Hx {r:Rs}(h:r.s.length<=9223372036854775807):(Bn r).2.s.length<=r.s.length:=by
 unfold Bn;split
 ·simp[Rs.fail]
 ·exact(R6 (k:=8) h).2
theorem Lj {r:Rs}(h:r.s.length<=9223372036854775807):(Bw r).2.s.length<=r.s.length:=by
 unfold Bw;split
 ·simp[Rs.fail]
 ·exact Em h
theorem Rc {r:Rs}(h:r.s.length<=9223372036854775807):(Fp r).2.s.length<=r.s.length:=by
 have h1:=Lj h;have h2:=Hx (r:=(Bw r).2) (by omega);unfold Fp;split
 ·split<;>(simp only;omega)
 ·exact h1
theorem Nh (g:Nat)(r:Rs)(w:World)(hR:Rd w g r)(hl:r.s.length<=9223372036854775807) :
  Calls Tryz.prog 146 #[.pointer (some ⟨g,0,none⟩)] w (Um g (Bw r).2 (.bool (Bw r).1) w):=by
 by_cases hb:1<(Am r).1
 ·have HN:=Zh (show Bw r=(false,Rs.fail 13) by simp[Bw,hb])
  go_enter Tryz.func146,Tryz.ntmps146
  go_wp2_with fail;refine(G3 g r _ hR hl).mono ?_
  rintro e w1 ⟨rfl,hQ⟩;go_wp2_with fail;refine(Ng g (Am r).2 13 _ hQ.1).mono ?_
  rintro e w2 ⟨rfl,hQ2⟩;have HQ:=Zh (hQ.trans hQ2);clear hQ hQ2;go_wp2;go_ret;rw[HN.out];exact⟨rfl,HQ.out⟩
 ·have HN:=Zh (show Bw r=((Am r).1==1,(Am r).2) by simp[Bw,hb])
  go_enter Tryz.func146,Tryz.ntmps146
  go_wp2_with fail;refine(G3 g r _ hR hl).mono ?_
  rintro e w1 ⟨rfl,hQ⟩;go_wp2;go_ret;rw[HN.out];refine⟨A5 ?_,hQ⟩
  go_light
  grind
def Dj (o:Bool × Nat):List Value:=[.bool o.1,.int .i64 o.2]
theorem Iu (o:Bool × Nat):∀v∈Dj o,v.oneCell'=true:=by
 intro v hv;simp only[Dj,List.mem_cons,List.not_mem_nil,or_false]at hv;rcases hv with rfl|rfl<;>rfl
theorem Amg (g:Nat)(r:Rs)(w:World)(hR:Rd w g r)(hl:r.s.length<=9223372036854775807) :
  Calls Tryz.prog 191 #[.pointer (some ⟨g,0,none⟩)] w (Um g (Fp r).2 (.agg (Dj (Fp r).1).toArray) w):=by
 have hb:=Blk.new w 32 [.bool false,.int .i64 0];have hB:Below w.heap.size w (w.alloc (.cells #[.bool false,.int .i64 0] 32)):=(Below.refl _ _).alloc (Nat.le_refl _) _;have hR1:=hR.stays hB;have hne:w.heap.size≠g:=Nat.ne_of_gt hR.lt;have hl1:=Lj hl;clear hR;cases hq:(Bw r).1
 ·have HN:=Zh (show Fp r=((false,0),(Bw r).2) by simp[Fp,hq])
  go_enter Tryz.func191,Tryz.ntmps191
  go_wp2_with fail;generalize w.alloc (.cells #[.bool false,.int .i64 0] 32)=w0 at *;refine(Nh g r _ hR1 hl).mono ?_
  rintro e w1 ⟨rfl,hQ⟩;have hb1:=hQ.keeps hb hne;have HQ:=Zh (Reads.lay (cs:=Dj (false,0)) (Reads.behind hB hQ) hb1 rfl hne (Nat.le_refl _));clear hQ hb
  go_wp2_with (first|(refine Ae (by rfl) 32 _ _ (by rfl) w.heap.size (Dj (false,0)) _ hb1 (by rfl) (by rfl) (by rfl) (by kernel_rfl) (by decide) ?_)|fail)
  refine Cz w.heap.size 0 (Dj (false,0)) Tryz.results191 Tryz.underlying32 rfl (by kernel_rfl) rfl HQ.out.2.range rfl ?_
  rw[HN.out];exact⟨rfl,HQ.out.1⟩
 ·have hl2:=Hx (r:=(Bw r).2) (by omega)
  by_cases he:(Bn (Bw r).2).2.e=0
  ·have HN:=Zh (show Fp r=((true,(Bn (Bw r).2).1),(Bn (Bw r).2).2) by simp[Fp,hq,he])
   go_enter Tryz.func191,Tryz.ntmps191
   go_wp2_with fail;generalize w.alloc (.cells #[.bool false,.int .i64 0] 32)=w0 at *;refine(Nh g r _ hR1 hl).mono ?_
   rintro e w1 ⟨rfl,hQ⟩;have hb1:=hQ.keeps hb hne;go_wp2_with fail;refine(Mp g (Bw r).2 _ hQ.1 (by omega)).mono ?_
   rintro e w2 ⟨rfl,hQ2⟩;have hb2:=hQ2.keeps hb1 hne;have hR2:=hQ2.1;have HQ:=Zh (Reads.lay (cs:=Dj (true,(Bn (Bw r).2).1)) (Reads.behind hB (hQ.trans hQ2)) hb2 rfl hne (Nat.le_refl _));clear hQ hb hb1 hQ2;go_wp2_with fail;refine(Cn g _ _ hR2).mono ?_
   rintro e w3 ⟨rfl,rfl⟩
   go_wp2_with (first|(refine Ae (by rfl) 32 _ _ (by rfl) w.heap.size (Dj (true,(Bn (Bw r).2).1)) _ hb2 (by rfl) (by rfl) (by rfl) (by kernel_rfl) (Iu _) ?_)|fail)
   refine Cz w.heap.size 0 (Dj (true,(Bn (Bw r).2).1)) Tryz.results191 Tryz.underlying32 rfl (by kernel_rfl) rfl HQ.out.2.range rfl ?_
   rw[HN.out];exact⟨rfl,HQ.out.1⟩
  ·have HN:=Zh (show Fp r=((false,0),(Bn (Bw r).2).2) by simp[Fp,hq,he])
   have he':((Bn (Bw r).2).2.e != 0)=true:=by simpa using he
   go_enter Tryz.func191,Tryz.ntmps191
   go_wp2_with fail;generalize w.alloc (.cells #[.bool false,.int .i64 0] 32)=w0 at *;refine(Nh g r _ hR1 hl).mono ?_
   rintro e w1 ⟨rfl,hQ⟩;have hb1:=hQ.keeps hb hne;go_wp2_with fail;refine(Mp g (Bw r).2 _ hQ.1 (by omega)).mono ?_
   rintro e w2 ⟨rfl,hQ2⟩;have hb2:=hQ2.keeps hb1 hne;have hR2:=hQ2.1;have HQ:=Zh (Reads.lay (cs:=Dj (false,0)) (Reads.behind hB (hQ.trans hQ2)) hb2 rfl hne (Nat.le_refl _));clear hQ hb hb1 hQ2;go_wp2_with fail;refine(Cn g _ _ hR2).mono ?_
   rintro e w3 ⟨rfl,rfl⟩
   go_wp2_with (first|(refine Ae (by rfl) 32 _ _ (by rfl) w.heap.size (Dj (false,0)) _ hb2 (by rfl) (by rfl) (by rfl) (by kernel_rfl) (by decide) ?_)|fail)
   refine Cz w.heap.size 0 (Dj (false,0)) Tryz.results191 Tryz.underlying32 rfl (by kernel_rfl) rfl HQ.out.2.range rfl ?_
   rw[HN.out];exact⟨rfl,HQ.out.1⟩
section
theorem L5 {ρ:Operand->Value}{w:World}{dst:Option Tmp}{ty:TypeId}{pos:String}{after:Array Edge}{g:Option (Nat × Bool)}{x:Operand}(h:(rowAt w 10 (ρ x)).isSome=true) :
  (execOp ρ ⟨dst,.load 43 x,ty,pos,after,g⟩).run Tryz.prog w=.ok (.value (.agg ((rowAt w 10 (ρ x)).getD #[]))) w:=D8 43 10 Tryz.underlying43 rfl (by kernel_rfl) h
attribute [local go_sem ↓] L5
def E8 (wide:Bool)(r:Rs):Nat × Rs:=if wide then Bn r else Am r
def Gs:List Bool->Rs->List Nat × Rs
 |[],r=>([],r)
 |b::bs,r=>((E8 b r).1::(Gs bs (E8 b r).2).1,(Gs bs (E8 b r).2).2)
theorem Agv (l:List Bool)(b:Bool)(r:Rs):Gs (l++[b]) r=((Gs l r).1++[(E8 b (Gs l r).2).1],(E8 b (Gs l r).2).2):=by
 induction l generalizing r with
 |nil=>rfl
 |cons c l ih=>simp[Gs,ih]
theorem M9 (l:List Bool)(r:Rs):(Gs l r).1.length=l.length:=by
 induction l generalizing r with
 |nil=>rfl
 |cons c l ih=>simp[Gs,ih]
theorem Yi {b:Bool}{r:Rs}(h:r.s.length<=9223372036854775807):(E8 b r).2.s.length<=r.s.length:=by
 cases b
 ·exact Em h
 ·exact Hx h
theorem Aaw (l:List Bool)(r:Rs)(h:r.s.length<=9223372036854775807):(Gs l r).2.s.length<=r.s.length:=by
 induction l generalizing r with
 |nil=>exact Nat.le_refl _
 |cons c l ih=>exact Nat.le_trans (ih _ (Nat.le_trans (Yi h) h)) (Yi h)
def Aa5 (l:List Nat):List Value:=l.map fun n:Nat=>Value.int .i64 (n:Int)
def Jd:List Bool:=[false,false,false,false,false,true,false,true,true,true]
def S1 (r:Rs)(k:Nat):List Value:=Aa5 (Gs (Jd.take k) r).1++List.replicate (10 - k) (.int .i64 0)
def Dg (r:Rs)(k:Nat):Rs:=(Gs (Jd.take k) r).2
theorem All (r:Rs){k:Nat}(hk:k<=10):(S1 r k).length=10:=by
 simp only[S1,Aa5,List.length_append,List.length_map,M9,List.length_take,List.length_replicate,Jd,List.length_cons,List.length_nil];omega
theorem Zn (r:Rs){k:Nat}{b:Bool}(hk:k<10)(hb:Jd[k]?=some b):(S1 r k).set k (.int .i64 (E8 b (Dg r k)).1)=S1 r (k+1)/\Dg r (k+1)=(E8 b (Dg r k)).2:=by
 have ht:Jd.take (k+1)=Jd.take k++[b]:=by
  rw[List.take_add_one,hb];rfl
 have hl:(Aa5 (Gs (Jd.take k) r).1).length=k:=by
  simp only[Aa5,List.length_map,M9,List.length_take,Jd,List.length_cons,List.length_nil];omega
 unfold S1 Dg;rw[ht,Agv];refine⟨?_,rfl⟩
 rw[List.set_append_right _ _ (by omega),hl,Nat.sub_self,show 10 - k=(10 - (k+1))+1 by omega,List.replicate_succ,List.set_cons_zero];simp[Aa5]
theorem Zo {w:World}{b:Nat}{T:TypeId}{r:Rs}{k j:Nat}(h:Blk w b T (S1 r k))(hk:k<=10)(hj:j<10):∃v,w.cell? ⟨b,j,none⟩=some v:=by
 rw[h.cell];exact⟨_,List.getElem?_eq_getElem (by rw[All r hk];exact hj)⟩
def Aom (l:List Nat):Attr:=⟨l.getD 0 0,l.getD 1 0,l.getD 2 0,l.getD 3 0,l.getD 4 0,l.getD 5 0,l.getD 6 0,l.getD 7 0,l.getD 8 0,l.getD 9 0⟩
theorem Ae7 (l:List Nat)(h:l.length=10):(Aom l).vals=Aa5 l:=by
 match l,h with
 |[a,b,c,d,e,f,g,i,j,k],_=>rfl
def Gt (r:Rs):Attr × Rs:=(Aom (Gs Jd r).1,(Gs Jd r).2)
theorem Abp (r:Rs):S1 r 10=(Gt r).1.vals/\Dg r 10=(Gt r).2:=by
 refine⟨?_,rfl⟩
 unfold S1 Gt;rw[Ae7 _ (M9 _ _),show Jd.take 10=Jd from rfl];simp
theorem Akb {r:Rs}(h:r.s.length<=9223372036854775807):(Gt r).2.s.length<=r.s.length:=Aaw _ _ h
theorem Aj4 {r:Rs}(k:Nat)(h:r.s.length<=9223372036854775807):(Dg r k).s.length<=9223372036854775807:=Nat.le_trans (Aaw _ _ h) h
def Gf (b:Nat)(l:List Nat):List Value:=l.map fun k=>.pointer (some ⟨b,k,none⟩)
theorem Wv {w:World}{h b:Nat}{T:TypeId}{l:List Nat}(hB:Blk w h T (Gf b l)){k:Nat}(hk:k<l.length):w.cell? ⟨h,k,none⟩=some (.pointer (some ⟨b,l[k],none⟩)):=by
 rw[hB.cell];simp[Gf,hk]
def Gr:List Value:=[.int .i64 0,.int .i64 0,.int .i64 0,.int .i64 0,.int .i64 0,.int .i64 0,.int .i64 0,.int .i64 0,.int .i64 0,.int .i64 0]
structure RdA (g:Nat) (r:Rs) (w:World) (k:Nat) (wx:World):Prop where
 R:Reads g (Dg r k) w wx
 A:Blk wx (w.heap.size+1) 43 (S1 r k)
 Z:Blk wx w.heap.size 43 Gr
 n:g<w.heap.size
theorem RdA.start (g:Nat)(r:Rs)(w:World)(hR:Rd w g r):RdA g r w 0 ((w.alloc (.cells Gr.toArray 43)).alloc (.cells Gr.toArray 43)):=by
 have b0:=Blk.new w 43 Gr;have B0:Below w.heap.size w (w.alloc (.cells Gr.toArray 43)):=(Below.refl _ _).alloc (Nat.le_refl _) _;have e0:(w.alloc (.cells Gr.toArray 43)).heap.size=w.heap.size+1:=by simp
 generalize w.alloc (.cells Gr.toArray 43)=w0 at *;have b1:=Blk.new w0 43 Gr;rw[e0]at b1;exact⟨Reads.behind (B0.alloc B0.size _) (Reads.refl (hR.stays (B0.alloc B0.size _))),b1,b0.alloc _,hR.lt⟩
theorem RdA.alloc {g:Nat}{r:Rs}{w wx:World}{k:Nat}(h:RdA g r w k wx)(o:Obj):RdA g r w k (wx.alloc o):=
 ⟨h.R.new ((Below.refl _ _).alloc (Nat.le_refl _) o),h.A.alloc o,h.Z.alloc o,h.n⟩
theorem RdA.step {g:Nat}{r:Rs}{w wx wy:World}{k:Nat}{b:Bool}(h:RdA g r w k wx)(hk:k<10)(hb:Jd[k]?=some b)(hQ:Reads g (E8 b (Dg r k)).2 wx wy) :
  RdA g r w (k+1) (wy.setCell ⟨w.heap.size+1,k,none⟩ (.int .i64 (E8 b (Dg r k)).1)):=by
 obtain⟨e1,e2⟩:=Zn r hk hb;have hn:=h.n;refine⟨⟨⟨?_,?_⟩,?_⟩,?_,?_,h.n⟩
 ·rw[e2];exact hQ.1.1.far (p:=⟨w.heap.size+1,k,none⟩) (by simp;omega) _
 ·rw[e2];exact hQ.1.2
 ·exact(h.R.2.Ay hQ.2).An (.inr (by omega)) _
 ·have:=(hQ.keeps h.A (by omega)).Be k (.int .i64 (E8 b (Dg r k)).1)
  rw[e1]at this;exact this
 ·exact(hQ.keeps h.Z (by omega)).far (p:=⟨w.heap.size+1,k,none⟩) (by simp) _
theorem RdA.cell {g:Nat}{r:Rs}{w wx wy:World}{k:Nat}{r':Rs}(h:RdA g r w k wx)(hk:k<10)(hQ:Reads g r' wx wy):∃v,wy.cell? ⟨w.heap.size+1,k,none⟩=some v/\wy.frozen? ⟨w.heap.size+1,k,none⟩=false:=by
 have hn:=h.n;have hb:=hQ.keeps h.A (by omega);obtain⟨v,hv⟩:=Zo hb (by omega) hk;exact⟨v,hv,hb.frozen _⟩
theorem RdA.row {g:Nat}{r:Rs}{w wx wy:World}{k j h0:Nat}{T:TypeId}{cs:List Value}{r':Rs}(_h:RdA g r w k wx)(hB:Blk wx h0 T cs)(hh:h0≠w.heap.size+1)(hg:h0≠g)(hQ:Reads g r' wx wy)(v:Value):Blk (wy.setCell ⟨w.heap.size+1,j,none⟩ v) h0 T cs:=
 (hQ.keeps hB hg).far (p:=⟨w.heap.size+1,j,none⟩) hh v
theorem Acu (g:Nat)(r:Rs)(w:World)(hR:Rd w g r)(hl:r.s.length<=9223372036854775807) :
  Calls Tryz.prog 207 #[.pointer (some ⟨g,0,none⟩)] w (Um g (Gt r).2 (.agg (Gt r).1.vals.toArray) w):=by
 have hS:=RdA.start g r w hR;have e1:((w.alloc (.cells Gr.toArray 43)).alloc (.cells Gr.toArray 43)).heap.size=w.heap.size+1+1:=by simp
 have hP:=Blk.new ((w.alloc (.cells Gr.toArray 43)).alloc (.cells Gr.toArray 43)) 277 (Gf (w.heap.size+1) [0,1,2,3,4]);rw[e1]at hP;clear e1;have hg:=hR.lt;have hlr:=fun k=>Aj4 (r:=r) k hl
 clear hR;have HL:=Zh hlr;clear hlr;go_enter Tryz.func207,Tryz.ntmps207
 go_wp2;change Code.wp _ _ _ _ (((w.alloc (.cells Gr.toArray 43)).alloc (.cells Gr.toArray 43)).alloc (.cells (Gf (w.heap.size+1) [0,1,2,3,4]).toArray 277));have hS:=hS.alloc (.cells (Gf (w.heap.size+1) [0,1,2,3,4]).toArray 277);generalize ((w.alloc (.cells Gr.toArray 43)).alloc (.cells Gr.toArray 43)).alloc (.cells (Gf (w.heap.size+1) [0,1,2,3,4]).toArray 277)=W0 at *
 go_loopw [15] (fun i wr=>∃k:Nat,k<=5/\i=.int .i64 k/\RdA g r w k wr/\Blk wr (w.heap.size+1+1) 277 (Gf (w.heap.size+1) [0,1,2,3,4])) (fun i _=>5 - (intOf i).toNat)
 case atStart=>exact⟨0,by omega,rfl,hS,hP⟩
 case round=>
  clear hS hP;obtain⟨k,hk,rfl,hS,hP⟩:=hrel;by_cases hlt:k<5
  ·have hp:=Wv hP (k:=k) (by simpa using hlt)
   have hkk:([0,1,2,3,4]:List Nat)[k]'(by simpa using hlt)=k:=by
    match k,hlt with
    |0,_|1,_|2,_|3,_|4,_=>rfl
   have hw:Jd[k]?=some false:=by
    match k,hlt with
    |0,_|1,_|2,_|3,_|4,_=>rfl
   rw[hkk]at hp;have HW:=Zh hw;clear hkk hw;go_wp2_with fail;refine(G3 g (Dg r k) _ hS.R.1 (HL.out k)).mono ?_
   rintro e w4 ⟨rfl,hQ⟩;obtain⟨v,hc,hf⟩:=hS.cell (by omega) hQ;have HS:=Zh (hS.step (by omega) HW.out hQ);have HP:=Zh (hS.row hP (by omega) (by omega) hQ (.int .i64 (E8 false (Dg r k)).1) (j:=k));clear hS hP hQ hp;go_wp2;go_roundw
   case rel=>exact⟨k+1,by omega,by go_num,HS.out,HP.out⟩
   case measure=>simp[intOf];omega
  ·obtain rfl:k=5:=by omega
   clear hP;go_wp2_with fail;refine(Mp g (Dg r 5) _ hS.R.1 (HL.out 5)).mono ?_
   rintro e w4 ⟨rfl,hQ⟩;obtain⟨v,hc,hf⟩:=hS.cell (by omega) hQ;have hS5:=hS.step (by omega) (b:=true) rfl hQ;clear hS hQ;change RdA g r w 6 _ at hS5;go_wp2_with fail;change Calls _ _ _ (w4.setCell ⟨w.heap.size+1,5,none⟩ (.int .i64 (E8 true (Dg r 5)).1)) _;generalize w4.setCell ⟨w.heap.size+1,5,none⟩ (.int .i64 (E8 true (Dg r 5)).1)=w5 at *;clear hc hf;refine(G3 g (Dg r 6) _ hS5.R.1 (HL.out 6)).mono ?_
   rintro e w6 ⟨rfl,hQ⟩;obtain⟨v2,hc,hf⟩:=hS5.cell (by omega) hQ;have hS6:=hS5.step (by omega) (b:=false) rfl hQ;clear hS5 hQ;change RdA g r w 7 _ at hS6;go_wp2;change Code.wp _ _ _ _ ((w6.setCell ⟨w.heap.size+1,6,none⟩ (.int .i64 (E8 false (Dg r 6)).1)).alloc (.cells (Gf (w.heap.size+1) [7,8,9]).toArray 277));have hsz:(w6.setCell ⟨w.heap.size+1,6,none⟩ (.int .i64 (E8 false (Dg r 6)).1)).heap.size=w6.heap.size:=by simp[World.setCell]
   have hP:=Blk.new (w6.setCell ⟨w.heap.size+1,6,none⟩ (.int .i64 (E8 false (Dg r 6)).1)) 277 (Gf (w.heap.size+1) [7,8,9]);rw[hsz]at hP;have hS:=hS6.alloc (.cells (Gf (w.heap.size+1) [7,8,9]).toArray 277);have hA6:=hS6.A.lt;rw[hsz]at hA6;clear hS6 hc hf hsz;generalize (w6.setCell ⟨w.heap.size+1,6,none⟩ (.int .i64 (E8 false (Dg r 6)).1)).alloc (.cells (Gf (w.heap.size+1) [7,8,9]).toArray 277)=W7 at *
   go_loopw [35] (fun i wr=>∃k:Nat,k<=3/\i=.int .i64 k/\RdA g r w (7+k) wr/\Blk wr w6.heap.size 277 (Gf (w.heap.size+1) [7,8,9])) (fun i _=>3 - (intOf i).toNat)
   case atStart=>exact⟨0,by omega,rfl,hS,hP⟩
   case round=>
    clear hS hP;obtain⟨k,hk,rfl,hS,hP⟩:=hrel;by_cases hlt:k<3
    ·have hp:=Wv hP (k:=k) (by simpa using hlt)
     have hkk:([7,8,9]:List Nat)[k]'(by simpa using hlt)=7+k:=by
      match k,hlt with
      |0,_|1,_|2,_=>rfl
     have hw:Jd[7+k]?=some true:=by
      match k,hlt with
      |0,_|1,_|2,_=>rfl
     rw[hkk]at hp;have HW:=Zh hw;clear hkk hw;go_wp2_with fail;refine(Mp g (Dg r (7+k)) _ hS.R.1 (HL.out (7+k))).mono ?_
     rintro e w8 ⟨rfl,hQ⟩;obtain⟨v,hc,hf⟩:=hS.cell (by omega) hQ;have HS:=Zh (hS.step (by omega) HW.out hQ);have HP:=Zh (hS.row hP (by omega) (by omega) hQ (.int .i64 (E8 true (Dg r (7+k))).1) (j:=7+k));clear hS hP hQ hp;go_wp2;go_roundw
     case rel=>exact⟨k+1,by omega,by go_num,HS.out,HP.out⟩
     case measure=>simp[intOf];omega
    ·obtain rfl:k=3:=by omega
     have hS10:RdA g r w 10 wr:=hS;obtain⟨e1,e2⟩:=Abp r;have hA:=hS10.A;have hR:=hS10.R;rw[e1]at hA;rw[e2]at hR;have hZ:=hS10.Z;have rA:rowOf wr (w.heap.size+1) 0 10=some (Gt r).1.vals.toArray:=hA.row 0 10 (by simp[Attr.len]);have HQ:=Zh (Reads.lay (cs:=(Gt r).1.vals) hR hZ rfl (by omega) (Nat.le_refl _));clear hS10 hA hR hS hP e1 e2
     go_wp2_with (first|(refine Ae (by rfl) 43 _ _ (by rfl) w.heap.size (Gt r).1.vals _ hZ (by rfl) (by rfl) (by rfl) (by kernel_rfl) (Attr.one _) ?_)|fail)
     refine Cz w.heap.size 0 (Gt r).1.vals Tryz.results207 Tryz.underlying43 rfl (by kernel_rfl) rfl HQ.out.2.range rfl ?_
     exact⟨rfl,HQ.out.1⟩
end
section
attribute [local go_sem] Rw
def RdF (w:World)(g:Nat)(r:Rs):Prop:=
 ∃(S:List UInt8) (at_:Nat),Blk w g 131 [.string (bs S),.int .i64 at_,.int .i64 r.e]/\at_<=S.length/\S.length<=1000000000000000000/\(r.e=0->r.s=S.drop at_)/\(r.e≠0->r.s=[])
def A6 (g:Nat)(r:Rs)(w w':World):Prop:=RdF w' g r/\Touch (fun k=>k=g) w w'
def Oj (g:Nat)(r:Rs)(v:Value)(w:World)(e:Ending)(w':World):Prop:=e=.returned v/\A6 g r w w'
theorem RdF.lt {w:World}{g:Nat}{r:Rs}(h:RdF w g r):g<w.heap.size:=by obtain⟨_,_,h,_⟩:=h;exact h.lt
theorem RdF.Ak {w w':World}{g:Nat}{r:Rs}{F:Nat->Prop}(h:RdF w g r)(ht:Touch F w w')(hn:¬F g):RdF w' g r:=by
 obtain⟨S,a,h,k⟩:=h;exact⟨S,a,h.Ak ht hn,k⟩
theorem RdF.stays {w w':World}{g:Nat}{r:Rs}(h:RdF w g r)(hb:Below w.heap.size w w'):RdF w' g r:=h.Ak (Touch.Aq hb (fun _=>False)) (fun h=>h)
theorem A6.refl {w:World}{g:Nat}{r:Rs}(h:RdF w g r):A6 g r w w:=⟨h,Touch.refl _ _⟩
theorem A6.trans {a b c:World}{g:Nat}{r r':Rs}(h:A6 g r a b)(k:A6 g r' b c):A6 g r' a c:=⟨k.1,h.2.Ay k.2⟩
theorem A6.behind {a b c:World}{g:Nat}{r:Rs}(h:Below a.heap.size a b)(k:A6 g r b c):A6 g r a c:=⟨k.1,(Touch.Aq h _).Ay k.2⟩
theorem A6.new {a b c:World}{g:Nat}{r:Rs}(h:A6 g r a b)(k:Below b.heap.size b c):A6 g r a c:=⟨h.1.stays k,h.2.Ay (Touch.Aq k _)⟩
theorem A6.keeps {a b:World}{g:Nat}{r:Rs}(h:A6 g r a b){k:Nat}{T:TypeId}{cs:List Value}(hb:Blk a k T cs)(hk:k≠g):Blk b k T cs:=hb.Ak h.2 hk
theorem A6.below {a b:World}{g B:Nat}{r:Rs}(h:A6 g r a b)(hg:B<=g)(hB:B<=a.heap.size):Below B a b:=h.2.below (fun k _ hk=>by subst hk;exact hg) hB
theorem A6.lay {w wx:World}{g b:Nat}{r:Rs}{T:TypeId}{old cs:List Value}(h:A6 g r w wx)(hb:Blk wx b T old)(hl:old.length=cs.length)(hne:b≠g)(hB:w.heap.size<=b):A6 g r w (wx.setCells b 0 cs)/\Blk (wx.setCells b 0 cs) b T cs:=
 ⟨⟨h.1.Ak (Touch.setCells (F:=fun k=>k=b) (.inl rfl) cs 0 wx (Touch.refl _ _)) (fun hh=>hne hh.symm),Touch.setCells (.inr hB) cs 0 wx h.2⟩,hb.whole hl⟩
theorem A6.err {wx:World}{g:Nat}{r:Rs}(h:RdF wx g r):wx.cell? ⟨g,2,none⟩=some (.int .i64 r.e):=by
 obtain⟨S,a,h,_⟩:=h;rw[h.cell];rfl
theorem Sz {l:List UInt8}{i k:Nat}(h:i<=k):Dy (l.take i)<=Dy (l.take k):=by
 induction k with
 |zero=>
      obtain rfl:i=0:=by omega
      exact Nat.le_refl _
 |succ k ih=>
  rcases Nat.lt_or_ge i (k+1) with hlt|hge
  ·refine Nat.le_trans (ih (by omega)) ?_
   rcases Nat.lt_or_ge k l.length with hk|hk
   ·rw[List.take_succ_eq_append_getElem hk,Od];omega
   ·rw[List.take_of_length_le hk,List.take_of_length_le (by omega)];exact Nat.le_refl _
  ·obtain rfl:i=k+1:=by omega
   exact Nat.le_refl _
theorem Abo {b:UInt8}{l:List UInt8}(h:l.length=7):9223372036854775808<=Dy (b::l) ↔ 127<b.toNat:=by
 have:=Py l;rw[h]at this;simp only[Dy,h];omega
theorem Adk (g k:Nat)(r:Rs)(w:World)(hR:RdF w g r)(he:r.e≠0) :
  Calls Tryz.prog 55 #[.pointer (some ⟨g,0,none⟩),.int .i64 k] w fun e w'=>e=.returned (.int .i64 0)/\w=w':=by
 have hc:=A6.err hR;have he':(r.e != 0)=true:=by simpa using he
 clear he hR;go_enter Tryz.func55,Tryz.ntmps55
 go_wp2;go_ret;exact⟨rfl,rfl⟩
theorem Ya (g k:Nat)(s:List UInt8)(w:World)(hR:RdF w g ⟨s,0⟩)(_hk:k<=8)(hs:s.length<k) :
  Calls Tryz.prog 55 #[.pointer (some ⟨g,0,none⟩),.int .i64 k] w (Oj g (Rs.fail 10) (.int .i64 0) w):=by
 obtain⟨S,a,hB,ha,hS,h0,-⟩:=hR;have h0:=h0 rfl;simp only at h0
 subst h0;simp only[List.length_drop]at hs;have hc:=hB.cell;have hf:=hB.frozen;have hsz:=Au S;have hw1:IntKind.i64.wrap ((S.length:Int) - (a:Int))=(S.length:Int) - a:=IntWalk.i64_in _ (by omega);have HB:=Zh hB;clear hB;go_enter Tryz.func55,Tryz.ntmps55
 go_wp2;go_quiet (fail)
 go_wp2;go_ret;exact⟨rfl,⟨S,a,(HB.out.drewN nq).Be 2 (.int .i64 10),ha,hS,(fun h=>by cases h),fun _=>rfl⟩,((Touch.refl (fun k=>k=g) w).drewN nq).An (g:=g) (o:=2) (.inl rfl) (.int .i64 10)⟩
theorem Agq (g:Nat)(s:List UInt8)(w:World)(hR:RdF w g ⟨s,0⟩)(hs:8<=s.length)(hv:9223372036854775808<=Dy (s.take 8)) :
  Calls Tryz.prog 55 #[.pointer (some ⟨g,0,none⟩),.int .i64 8] w (Oj g (Rs.fail 3) (.int .i64 0) w):=by
 obtain⟨S,a,hB,ha,hS,h0,-⟩:=hR;have h0:=h0 rfl;simp only at h0
 subst h0;simp only[List.length_drop]at hs;have hc:=hB.cell;have hf:=hB.frozen;have hsz:=Au S;have hw1:IntKind.i64.wrap ((S.length:Int) - (a:Int))=(S.length:Int) - a:=IntWalk.i64_in _ (by omega);have hal:a<S.length:=by omega
 have htop:127<((S[a]'hal).toNat:Int):=by
  rw[List.drop_eq_getElem_cons hal,List.take_succ_cons]at hv;have:=(Abo (by simp;omega)).1 hv;omega
 have HB:=Zh hB;clear hB hv;go_enter Tryz.func55,Tryz.ntmps55
 go_wp2;go_quiet (fail)
 go_wp2;go_quiet (fail)
 go_wp2;go_ret;exact⟨rfl,⟨S,a,(HB.out.drewN _).Be 2 (.int .i64 3),ha,hS,(fun h=>by cases h),fun _=>rfl⟩,((Touch.refl (fun k=>k=g) w).drewN _).An (g:=g) (o:=2) (.inl rfl) (.int .i64 3)⟩
theorem Aiu (g k:Nat)(s:List UInt8)(w:World)(hR:RdF w g ⟨s,0⟩)(hk:k=4\/k=8)(hs:k<=s.length)(hv:Dy (s.take k)<9223372036854775808) :
  Calls Tryz.prog 55 #[.pointer (some ⟨g,0,none⟩),.int .i64 k] w (Oj g ⟨s.drop k,0⟩ (.int .i64 (Dy (s.take k))) w):=by
 obtain⟨S,a,hB,ha,hS,h0,-⟩:=hR;have h0:=h0 rfl;simp only at h0
 subst h0;simp only[List.length_drop]at hs;have hc:=hB.cell;have hf:=hB.frozen;have hsz:=Au S;have hw1:IntKind.i64.wrap ((S.length:Int) - (a:Int))=(S.length:Int) - a:=IntWalk.i64_in _ (by omega);have hw2:IntKind.i64.wrap ((a:Int)+(k:Int))=((a+k:Nat):Int):=by rw[IntWalk.i64_in _ (by omega)];omega
 have hal:a<S.length:=by omega
 have htop:k=8->¬127<((S[a]'hal).toNat:Int):=fun h8=>by
  subst h8;rw[List.drop_eq_getElem_cons hal,List.take_succ_cons]at hv;have:=(Abo (b:=S[a]'hal) (l:=(S.drop (a+1)).take 7) (by simp;omega));omega
 have HB:=Zh hB;have HV:=Zh hv;have HT:=Zh htop;clear hB hv htop;rcases hk with rfl|rfl
 ·go_enter Tryz.func55,Tryz.ntmps55
  go_wp2;go_quiet (fail)
  go_wp2;go_quiet (fail)
  go_wp2
  go_loopw [5,6] (fun n i wr=>∃j:Nat,j<=4/\i=.int .i64 j/\n=.int .i64 (Dy ((S.drop a).take j))/\Blk wr g 131 [.string (bs S),.int .i64 a,.int .i64 0]/\Touch (fun k=>k=g) w wr) (fun _ i _=>4 - (intOf i).toNat)
  case atStart=>exact⟨0,by omega,rfl,rfl,(HB.out.drewN _).drewN _,((Touch.refl _ w).drewN _).drewN _⟩
  case round=>
   obtain⟨j,hj,rfl,rfl,hB,hT⟩:=hrel;have hc:=hB.cell;have hf:=hB.frozen;by_cases hlt:j<4
   ·have hja:a+j<S.length:=by omega
    have hjd:j<(S.drop a).length:=by simp;omega
    have HS:=Zh (show Dy ((S.drop a).take (j+1))=Dy ((S.drop a).take j)*256+(S[a+j]'hja).toNat by rw[List.take_succ_eq_append_getElem hjd,Od];simp);have hle:=Sz (l:=S.drop a) (i:=j+1) (k:=4) (by omega);have hmax:256*Dy ((S.drop a).take j)+(S[a+j]'hja).toNat<9223372036854775808:=by have:=HV.out;have:=HS.out;omega
    generalize Dy ((S.drop a).take j)=v at *;have hcb:(S[a+j]'hja).toNat<256:=(S[a+j]'hja).toNat_lt;have e1:IntKind.i64.wrap ((a:Int)+(j:Int))=(a:Int)+(j:Int):=IntWalk.i64_in _ (by omega);have e5:(0:Int)<=(a:Int)+(j:Int):=by omega
    have e6:((a:Int)+(j:Int)).toNat=a+j:=by omega
    have e7:(a:Int)+(j:Int)<(S.length:Int):=by omega
    have e2:IntKind.i64.wrap (256*(v:Int))=256*(v:Int):=IntWalk.i64_in _ (by omega);have e4:IntKind.i64.wrap ((S[a+j]'hja).toNat:Int)=((S[a+j]'hja).toNat:Int):=IntWalk.i64_in _ (by omega);have e3:IntKind.i64.wrap (256*(v:Int)+((S[a+j]'hja).toNat:Int))=256*(v:Int)+((S[a+j]'hja).toNat:Int):=IntWalk.i64_in _ (by omega);clear hle hmax hjd;go_wp2;go_quiet (fail)
    clear e1 e2 e3 e4;go_wp2;go_roundw
    case rel=>exact⟨j+1,by omega,by go_num,by rw[HS.out];exact congrArg (Value.int .i64) (by omega),hB.drewN _,hT.drewN _⟩
    case measure=>simp[intOf];omega
   ·obtain rfl:j=4:=by omega
    go_wp2;go_ret;refine⟨rfl,⟨S,a+4,hB.Be 1 (.int .i64 ((a+4:Nat):Int)),by omega,hS,(fun _=>by simp),fun h=>absurd rfl h⟩,hT.An (g:=g) (o:=1) (.inl rfl) (.int .i64 ((a+4:Nat):Int))⟩
 ·have ht:=HT.out rfl
  have ht':((S[a]'hal).toNat:Int)<=127:=by omega
  have hd:decide (127<((S[a]'hal).toNat:Int))=false:=by simpa using ht
  go_enter Tryz.func55,Tryz.ntmps55
  go_wp2;go_quiet (fail)
  go_wp2;go_quiet (fail)
  go_wp2
  go_loopw [5,6] (fun n i wr=>∃j:Nat,j<=8/\i=.int .i64 j/\n=.int .i64 (Dy ((S.drop a).take j))/\Blk wr g 131 [.string (bs S),.int .i64 a,.int .i64 0]/\Touch (fun k=>k=g) w wr) (fun _ i _=>8 - (intOf i).toNat)
  case atStart=>exact⟨0,by omega,rfl,rfl,(HB.out.drewN _).drewN _,((Touch.refl _ w).drewN _).drewN _⟩
  case round=>
   obtain⟨j,hj,rfl,rfl,hB,hT⟩:=hrel;have hc:=hB.cell;have hf:=hB.frozen;by_cases hlt:j<8
   ·have hja:a+j<S.length:=by omega
    have hjd:j<(S.drop a).length:=by simp;omega
    have HS:=Zh (show Dy ((S.drop a).take (j+1))=Dy ((S.drop a).take j)*256+(S[a+j]'hja).toNat by rw[List.take_succ_eq_append_getElem hjd,Od];simp);have hle:=Sz (l:=S.drop a) (i:=j+1) (k:=8) (by omega);have hmax:256*Dy ((S.drop a).take j)+(S[a+j]'hja).toNat<9223372036854775808:=by have:=HV.out;have:=HS.out;omega
    generalize Dy ((S.drop a).take j)=v at *;have hcb:(S[a+j]'hja).toNat<256:=(S[a+j]'hja).toNat_lt;have e1:IntKind.i64.wrap ((a:Int)+(j:Int))=(a:Int)+(j:Int):=IntWalk.i64_in _ (by omega);have e5:(0:Int)<=(a:Int)+(j:Int):=by omega
    have e6:((a:Int)+(j:Int)).toNat=a+j:=by omega
    have e7:(a:Int)+(j:Int)<(S.length:Int):=by omega
    have e2:IntKind.i64.wrap (256*(v:Int))=256*(v:Int):=IntWalk.i64_in _ (by omega);have e4:IntKind.i64.wrap ((S[a+j]'hja).toNat:Int)=((S[a+j]'hja).toNat:Int):=IntWalk.i64_in _ (by omega);have e3:IntKind.i64.wrap (256*(v:Int)+((S[a+j]'hja).toNat:Int))=256*(v:Int)+((S[a+j]'hja).toNat:Int):=IntWalk.i64_in _ (by omega);clear hle hmax hjd;go_wp2;go_quiet (fail)
    clear e1 e2 e3 e4;go_wp2;go_roundw
    case rel=>exact⟨j+1,by omega,by go_num,by rw[HS.out];exact congrArg (Value.int .i64) (by omega),hB.drewN _,hT.drewN _⟩
    case measure=>simp[intOf];omega
   ·obtain rfl:j=8:=by omega
    go_wp2;go_ret;refine⟨rfl,⟨S,a+8,hB.Be 1 (.int .i64 ((a+8:Nat):Int)),by omega,hS,(fun _=>by simp),fun h=>absurd rfl h⟩,hT.An (g:=g) (o:=1) (.inl rfl) (.int .i64 ((a+8:Nat):Int))⟩
theorem Dv (g:Nat)(r:Rs)(w:World)(hR:RdF w g r):Calls Tryz.prog 55 #[.pointer (some ⟨g,0,none⟩),.int .i64 4] w (Oj g (Am r).2 (.int .i64 (Am r).1) w):=by
 unfold Am;by_cases he:r.e=0
 ·obtain⟨s,e⟩:=r
  simp only at he
  subst he;by_cases hs:s.length<4
  ·have:F3 4 ⟨s,0⟩=(0,Rs.fail 10):=by simp[F3,hs]
   rw[this];exact Ya g 4 s w hR (by omega) hs
  ·have:F3 4 ⟨s,0⟩=(Dy (s.take 4),⟨s.drop 4,0⟩):=by simp[F3,hs]
   rw[this];have hb:=Py (s.take 4);rw[List.length_take,Nat.min_eq_left (by omega)]at hb;exact Aiu g 4 s w hR (.inl rfl) (by omega) (by omega)
 ·have:F3 4 r=(0,r):=by simp[F3,he]
  rw[this];exact(Adk g 4 r w hR he).mono fun e w' ⟨h1,h2⟩=>⟨h1,by subst h2;exact A6.refl hR⟩
theorem Eu (g:Nat)(r:Rs)(w:World)(hR:RdF w g r):Calls Tryz.prog 55 #[.pointer (some ⟨g,0,none⟩),.int .i64 8] w (Oj g (Bn r).2 (.int .i64 (Bn r).1) w):=by
 by_cases he:r.e=0
 ·obtain⟨s,e⟩:=r
  simp only at he
  subst he;by_cases hs:s.length<8
  ·have:Bn ⟨s,0⟩=(0,Rs.fail 10):=by simp[Bn,F3,hs]
   rw[this];exact Ya g 8 s w hR (by omega) hs
  ·have h8:F3 8 ⟨s,0⟩=(Dy (s.take 8),⟨s.drop 8,0⟩):=by simp[F3,hs]
   by_cases hv:9223372036854775808<=Dy (s.take 8)
   ·have:Bn ⟨s,0⟩=(0,Rs.fail 3):=by simp[Bn,h8,hv]
    rw[this];exact Agq g s w hR (by omega) hv
   ·have:Bn ⟨s,0⟩=(Dy (s.take 8),⟨s.drop 8,0⟩):=by simp[Bn,h8,hv]
    rw[this];exact Aiu g 8 s w hR (.inr rfl) (by omega) (by omega)
 ·have:Bn r=(0,r):=by simp[Bn,F3,he]
  rw[this];exact(Adk g 8 r w hR he).mono fun e w' ⟨h1,h2⟩=>⟨h1,by subst h2;exact A6.refl hR⟩
theorem RdF.fail {w wx:World}{g:Nat}{r r':Rs}(h:A6 g r w wx)(n:Int)(hn:n≠0)(hr:r'=Rs.fail n):A6 g r' w (wx.setCell ⟨g,2,none⟩ (.int .i64 n)):=by
 subst hr;obtain⟨⟨S,a,hB,ha,hS,-,-⟩,hT⟩:=h;exact⟨⟨S,a,hB.Be 2 (.int .i64 n),ha,hS,(fun h=>absurd h hn),fun _=>rfl⟩,hT.An (.inl rfl) _⟩
theorem Amf {r:Rs}(h:(Am r).2.e≠0):(Am r).1=0:=by
 unfold Am F3 at *;split at h<;>rename_i h1
 ·simp[h1]
 ·split at h<;>rename_i h2
  ·simp[h1,h2]
  ·exact absurd rfl h
theorem Ie (g:Nat)(r:Rs)(w:World)(hR:RdF w g r):Calls Tryz.prog 110 #[.pointer (some ⟨g,0,none⟩)] w (Oj g (Bw r).2 (.bool (Bw r).1) w):=by
 by_cases hb:1<(Am r).1
 ·have HN:=Zh (show Bw r=(false,Rs.fail 13) by simp[Bw,hb])
  have he:(Am r).2.e=0:=Classical.byContradiction fun h=>by have:=Amf h;omega
  go_enter Tryz.func110,Tryz.ntmps110
  go_wp2_with fail;refine(Dv g r _ hR).mono ?_
  rintro e w1 ⟨rfl,hQ⟩;have hc:w1.cell? ⟨g,2,none⟩=some (.int .i64 0):=by have:=A6.err hQ.1;rw[he]at this;exact this
  have hf:w1.frozen? ⟨g,2,none⟩=false:=by obtain⟨_,_,h,_⟩:=hQ.1;exact h.frozen 2
  have HQ:=Zh (RdF.fail hQ 13 (by decide) (r':=Rs.fail 13) rfl);clear hQ he;go_wp2;go_ret;rw[HN.out];exact⟨rfl,HQ.out⟩
 ·have HN:=Zh (show Bw r=((Am r).1==1,(Am r).2) by simp[Bw,hb])
  go_enter Tryz.func110,Tryz.ntmps110
  go_wp2_with fail;refine(Dv g r _ hR).mono ?_
  rintro e w1 ⟨rfl,hQ⟩;have hc:=A6.err hQ.1;go_wp2
  all_goals
   go_ret;rw[HN.out];refine⟨A5 ?_,hQ⟩
   go_light
   grind
end
def Qp (l:List (List UInt8)):List Value:=l.map fun s=>.string (bs s)
theorem Adb {w:World}{h:Nat}{T:TypeId}{l:List (List UInt8)}(hB:Blk w h T (Qp l)){k:Nat}(hk:k<l.length):w.cell? ⟨h,k,none⟩=some (.string (bs (l.getD k []))):=by
 rw[hB.cell];simp[Qp,List.getD,hk]
theorem Vm (k:Nat)(fine:Bool):Bg (k:Int) fine=(Dn fine).getD k []:=by
 unfold Bg;rw[if_neg (by omega),Int.toNat_natCast]
theorem Nt (p:Int)(fine:Bool)(w:World):Calls Tryz.prog 62 #[.int .i64 p,.bool fine] w fun e w'=>e=.returned (.string (bs (Bg p fine)))/\Below w.heap.size w w':=by
 have hP:=Blk.new w 9 (Qp Mw);have hB1:Below w.heap.size w (w.alloc (.cells (Qp Mw).toArray 9)):=(Below.refl _ _).alloc (Nat.le_refl _) _;have hs1:(w.alloc (.cells (Qp Mw).toArray 9)).heap.size=w.heap.size+1:=by simp
 obtain⟨w1,hw1⟩:∃u,u=w.alloc (.cells (Qp Mw).toArray 9):=⟨_,rfl⟩;rw[<-hw1]at hP hB1 hs1;have hP2:=hP.alloc (.cells (Qp Mv).toArray 9);have hQ2:=Blk.new w1 9 (Qp Mv);rw[hs1]at hQ2;have hB2:=hB1.alloc hB1.size (.cells (Qp Mv).toArray 9);obtain⟨w2,hw2⟩:∃u,u=w1.alloc (.cells (Qp Mv).toArray 9):=⟨_,rfl⟩;rw[<-hw2]at hP2 hQ2 hB2;have hcP:=fun k hk=>Adb hP2 (k:=k) hk
 have hcQ:=fun k hk=>Adb hQ2 (k:=k) hk
 have HW:=Zh (And.intro hw1 hw2);have HB:=Zh hB2;clear hP hB1 hs1 hw1 hw2 hP2 hQ2 hB2;go_enter Tryz.func62,Tryz.ntmps62
 go_upto_region 3 with fail;change Code.wp _ _ _ _ ((w.alloc (.cells (Qp Mw).toArray 9)).alloc (.cells (Qp Mv).toArray 9));rw[<-HW.out.1,<-HW.out.2];clear HW;by_cases h1:p<0
 ·have HV:=Zh (O0 (fine:=fine) h1)
  clear hcP hcQ;go_wp2;go_ret;rw[HV.out];exact⟨rfl,HB.out⟩
 ·by_cases h2:22<=p
  ·have HV:=Zh (Na (fine:=fine) h2)
   clear hcP hcQ;go_wp2;go_ret;rw[HV.out];exact⟨rfl,HB.out⟩
  ·obtain⟨k,rfl⟩:∃k:Nat,p=k:=⟨p.toNat,by omega⟩
   have hk0:(0:Int)<=(k:Int):=Int.natCast_nonneg _;have hk1:(k:Int)<22:=by omega
   have hcp:=hcP k (show k<22 by omega);have hcq:=hcQ k (show k<22 by omega);cases fine with
   |true=>
    have HV:=Zh (show Bg (k:Int) true=Mw.getD k [] from Vm k true);generalize Mw.getD k []=l at *;clear hcP hcQ hcq;go_wp2;go_ret;rw[HV.out];exact⟨rfl,HB.out⟩
   |false=>
    have HV:=Zh (show Bg (k:Int) false=Mv.getD k [] from Vm k false);generalize Mv.getD k []=l at *;clear hcP hcQ hcp;go_wp2;go_ret;rw[HV.out];exact⟨rfl,HB.out⟩
end Go.Proofs.YtfjflkmhhbhceaaGreatDoor
