/-
  THE LAW ClientOne (layer 33): for every input the call returns true, and each argument reads behind it as it read before. No condition.
-/
import Derived.Test.YtfjflkmhhbhceaaGreatDoorRows
import Derived.Test.YtfjflkmhhbhceaaGreatDoorTie
import Derived.Test.YtfjflkmhhbhceaaGreatDoorCards
import Derived.Lay
import Derived.SevenTiedAt
import Derived.Test.YtfjflkmhhbhceaaGreatDoorO01
import Derived.Test.YtfjflkmhhbhceaaGreatDoorO47
namespace Go.Proofs.YtfjflkmhhbhceaaGreatDoor.lawClientOne
open Go.ChangeShapes Go.WideShapes Go.ChangeAt Go.RowKit Go.Deep
theorem own:ownKnob Tryz.prog.godebug=none:=by kernel_rfl
theorem laidOut:laidOutB Tryz.prog=true:=by kernel_rfl
theorem types:∀t∈Tryz.f3.params.toList,Tryz.prog.readableRec t=true∧t<Tryz.prog.types.size:=by
 rw[Tryz.params3]
 intro t ht
 simp only[List.mem_cons,List.not_mem_nil,or_false]at ht
 obtain rfl:=ht
 exact⟨by kernel_rfl,of_decide_eq_true (by kernel_rfl)⟩
set_option maxRecDepth 100000 in
theorem lifted (os:Os) (started:os.Started) (H:Type) (enc:TypeId × Value→H) :
  ReturnsInHanded {} Tryz.checked os 3 .any (fun w args=>(Rows.clientOneSpec.pre enc Tryz.prog Tryz.f3 Rows.clientOneRow.domain false w args∧laidMetH Tryz.prog Rows.clientOneRow.laid w)∧sizedMet enc Tryz.prog Tryz.f3 (OpenSpec.ofChange Rows.clientOneSpec) false w args)
   (Rows.clientOneSpec.post enc Tryz.prog Tryz.f3 false true false false):=by
 refine Ud (C:=Tryz.checked) (X:=fun w _=>laidMetH Tryz.prog Rows.clientOneRow.laid w) (fun _ _ _ hh h=>h.of_heap hh) own started (by kernel_rfl) Tryz.func3
  (ChangeSpec.witness_shaped (enc:=enc) (C:=Tryz.checked) (os:=os) (X:=fun w _=>laidMetH Tryz.prog Rows.clientOneRow.laid w) false (World.laidAll Tryz.prog os Rows.clientOneRow.laid) #[.slice none 0 0] 8 (World.laidAll_os _ _ _)
   (World.shaped_of_ZipB (by kernel_rfl) (by kernel_rfl)) (by kernel_rfl) (by kernel_rfl) (by kernel_rfl)
   (by rw[MakeChecks.laidMetH_plain _ _ _ (by kernel_rfl)];exact laidMet_laidAll _ (by kernel_rfl) (by kernel_rfl))) ?_
 intro W base args ds gs before hval0 hW hL hsh
 have hval:∀(j:Nat) t v,Tryz.f3.params[j]?=some t→args[j]?=some v→Value.okWide Tryz.prog W .any base t v:=hval0
 have hW':=hW
 obtain⟨p,q,hA0,hV,rfl,hfz,hnd⟩:=hW
 have hA:DataW.TrodAll enc Tryz.prog W 0 (fun _=>true) true Tryz.f3.params.toList args.toList ds p:=hA0
 rw[Tryz.params3]at hA hval
 obtain⟨v0,vs0,d0,ds0,p0,q0,hargs,rfl,rfl,h0,r0⟩:=trodAll_cons hA
 obtain⟨rfl,rfl,rfl⟩:=trodAll_nil r0
 obtain rfl:args=#[v0]:=by cases args;simp_all
 obtain⟨rfl,rfl⟩:=trodVars_none hV
 obtain⟨A0,n0,c0,rfl⟩:=okWide_slice Tryz.underlying22 (hval 0 22 v0 rfl rfl)
 have lt0:∀x∈p0,x.block<W.heap.size:=by obtain⟨m,hm⟩:=h0;exact DataW.trod_lt m _ _ _ hm
 obtain⟨fuel0,hf0⟩:=h0
 obtain⟨a0,rfl,m0,at0,w0⟩:=Ad6 lt0 hf0
 have hlx:=Agk hL (by kernel_rfl)
 clear hA0 hval0 hval hA hL hsh
 refine(U7 A0 c0 a0 W (Nat.le_trans m0 (by decide)) at0 w0 hlx).mono fun e W' ⟨he,bel⟩=>?_
 subst he
 exact⟨_,rfl,law_post laidOut rfl hW' types bel rfl Tryz.underlying4 rfl rfl rfl⟩
theorem holds:Rows.ClientOneSaid:=
 OpenClaim.holds_of_wide 3 Tryz.f3 rfl rfl rfl rfl rfl rfl rfl ⟨rfl,rfl,rfl,rfl,rfl⟩ rfl rfl rfl rfl rfl (by kernel_rfl) Tryz.func3 (by kernel_rfl)
  (of_decide_eq_true (by kernel_rfl)) (by unfold Func.isWrapper;first|(rw[if_pos (by decide +kernel)];kernel_rfl)|(rw[if_neg (by decide +kernel)];exact⟨rfl,rfl⟩))
  (fun os started H enc _=>lifted os started H enc)
theorem proved:Rows.ClientOneCardSaid:=
 Claim7.holds_tied_plain_at .later [] Rows.clientOneCard.laidKinds true Rows.clientOneCard.stood.harness Rows.clientOneCard.stood.looks holds (fun _ h=>by cases h) (by kernel_rfl) (fun _ h=>by cases h) clientOne_row_tie rfl ⟨rfl,rfl⟩ (by kernel_rfl) rfl
  (fun f fn hf hfn=>by
   obtain rfl:f=3:=Option.some.inj ((show Tryz.prog.funcNamed Rows.clientOneRow.func=some 3 by kernel_rfl).symm.trans hf) |>.symm
   obtain rfl:fn=Tryz.f3:=(Option.some.inj (Tryz.func3.symm.trans hfn)).symm
   exact⟨by kernel_rfl,fun j t ht=>by
    rw[Tryz.params3]at ht
    have hm:t∈[22]:=by simpa using Array.mem_of_getElem? ht
    have hall:([22].all fun u=>!Tryz.prog.wantsStandIn u)=true:=by kernel_rfl
    exact(show Tryz.prog.wantsStandIn t=false by simpa using List.all_eq_true.1 hall t hm)⟩)
  (by kernel_rfl)
#print axioms proved
end Go.Proofs.YtfjflkmhhbhceaaGreatDoor.lawClientOne
