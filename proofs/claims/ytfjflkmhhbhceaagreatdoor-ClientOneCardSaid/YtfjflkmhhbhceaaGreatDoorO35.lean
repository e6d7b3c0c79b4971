/-
  Layer 33, plain: the fixed run that ends each of its laws. No condition.
-/
import Derived.Test.YtfjflkmhhbhceaaGreatDoorO27
import Derived.Test.YtfjflkmhhbhceaaGreatDoorO33
import Derived.Test.YtfjflkmhhbhceaaGreatDoorO14
namespace Go.Proofs.YtfjflkmhhbhceaaGreatDoor
open Go.RowKit
def X5:ClD × List B3 × Int:=(Wz 2 5 1 Mn).ask ⟨3,0,0,0,0,0,{ Aw with data:=[97,98] }⟩ 1 0
def Uq:ClD × List B3 × Int:=X5.1.ask ⟨3,0,0,0,0,0,{ Aw with offset:=2,data:=[99] }⟩ 2 0
def Ig:ClD × List B3 × Int:=Uq.1.ask ⟨4,0,0,0,0,0,Aw⟩ 3 0
theorem Aj2:X5.2=([],0):=by decide +kernel
theorem Aj1:Uq.2=([],0):=by decide +kernel
theorem R5:Ig.2.2=0/\Ig.2.1.length=1/\Ig.1.busy=true/\Ig.1.recs.length=1/\Ig.1.sent.to_=1:=by decide +kernel
theorem Aj0:Ig.2.1=[Ig.1.sent]:=by decide +kernel
theorem Aj3:(Dc Ig.1.sent.data).2=0/\(Dc Ig.1.sent.data).1.proc=7/\(Ah1 7 (Dc Ig.1.sent.data).1.body).2=true/\(Ah1 7 (Dc Ig.1.sent.data).1.body).1.data=[97,98,99]:=by decide +kernel
end Go.Proofs.YtfjflkmhhbhceaaGreatDoor
