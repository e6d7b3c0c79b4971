/-
  Layer 7, walks: may the field of a letter be (written by wip/tools/genmay.py). Condition: a call at a block of its own.
-/
import Derived.Test.YtgifmpobokaejaaGreatDoorM09
import Derived.Test.YtgifmpobokaejaaGreatDoorM23
import Derived.Test.YtgifmpobokaejaaGreatDoorM03
import Derived.Test.YtgifmpobokaejaaGreatDoorM04
namespace Go.Proofs.YtgifmpobokaejaaGreatDoor
open Go.RowKit
attribute [local go_sem ↓] Go.wp_at_zero Go.wp_at_succ
attribute [local go_sem] rowAt_ptr rowOf_drew rowOf_drewN rowOf_alloc_past rowOf_new
attribute [local go_sem ↓] ldSet ldOpt

attribute [local go_sem] Call.at0 Call.lat0 Call.at1 Call.lat1 Call.at2 Call.lat2 Call.at3 Call.lat3 Call.at4 Call.lat4 Call.at5 Call.lat5 Call.at6 Call.lat6 Call.at7 Call.lat7 Call.at8 Call.lat8 Call.at9 Call.lat9 Call.at10 Call.lat10 Call.at11 Call.lat11 Call.at12 Call.lat12 Call.at13 Call.lat13 Call.at14 Call.lat14 Call.at15 Call.lat15 Call.at16 Call.lat16 Call.at17 Call.lat17 Call.at18 Call.lat18 Call.at19 Call.lat19 Call.at20 Call.lat20 Call.at21 Call.lat21 Call.at22 Call.lat22 Call.at23 Call.lat23 Call.sub0_24 Call.lsub0_24 Call.sub9_10 Call.lsub9_10 Call.sub9_2 Call.lsub9_2 Call.sub11_2 Call.lsub11_2 Call.sub13_2 Call.lsub13_2 Call.sub15_2 Call.lsub15_2 Call.sub17_2 Call.lsub17_2 Call.sub19_2 Call.lsub19_2 Call.len Sett.at0 Sett.lat0 Sett.at1 Sett.lat1 Sett.at2 Sett.lat2 Sett.at3 Sett.lat3 Sett.at4 Sett.lat4 Sett.at5 Sett.lat5 Sett.at6 Sett.lat6 Sett.at7 Sett.lat7 Sett.at8 Sett.lat8 Sett.at9 Sett.lat9 Sett.sub0_10 Sett.lsub0_10 Sett.sub0_2 Sett.lsub0_2 Sett.sub2_2 Sett.lsub2_2 Sett.sub4_2 Sett.lsub4_2 Sett.sub6_2 Sett.lsub6_2 Sett.sub8_2 Sett.lsub8_2 Sett.len Opt.at0 Opt.lat0 Opt.at1 Opt.lat1 Opt.sub0_2 Opt.lsub0_2 Opt.len

/-- may the field of a letter be -/
def cMay (x : Call) (c : Nat) : Bool :=
  if c = 102 then decide (x.fh.length ≤ 64) else
  if c = 70 then decide (x.fh2.length ≤ 64) else
  if c = 110 then decide (x.name.length ≤ 255) else
  if c = 78 then decide (x.name2.length ≤ 255) else
  if c = 116 then decide (x.text.length ≤ 255) else
  if c = 100 then decide (x.data.length ≤ 256) else
  if c = 111 then decide (0 ≤ x.offset) else
  if c = 107 then decide (0 ≤ x.cookie) else
  if c = 118 then decide (0 ≤ x.verf) else
  if c = 99 then decide (0 ≤ x.count) && decide (x.count ≤ 4294967295) else
  if c = 104 then decide (0 ≤ x.how) && decide (x.how ≤ 4294967295) else
  if c = 115 then x.set.ok else
  decide (0 ≤ x.guard.n) && (x.guard.is || x.guard.n == 0)

end Go.Proofs.YtgifmpobokaejaaGreatDoor

/-
  Layer 7, walks: what is to be set, and the guard, may be; the field of a letter is copied (written by wip/tools/gencopied.py). Condition: calls at blocks of their own.
-/
namespace Go.Proofs.YtgifmpobokaejaaGreatDoor
open Go.RowKit
attribute [local go_sem ↓] Go.wp_at_zero Go.wp_at_succ
attribute [local go_sem] rowAt_ptr rowOf_drew rowOf_drewN rowOf_alloc_past rowOf_new
attribute [local go_sem ↓] ldSet ldOpt

attribute [local go_sem] Call.at0 Call.lat0 Call.at1 Call.lat1 Call.at2 Call.lat2 Call.at3 Call.lat3 Call.at4 Call.lat4 Call.at5 Call.lat5 Call.at6 Call.lat6 Call.at7 Call.lat7 Call.at8 Call.lat8 Call.at9 Call.lat9 Call.at10 Call.lat10 Call.at11 Call.lat11 Call.at12 Call.lat12 Call.at13 Call.lat13 Call.at14 Call.lat14 Call.at15 Call.lat15 Call.at16 Call.lat16 Call.at17 Call.lat17 Call.at18 Call.lat18 Call.at19 Call.lat19 Call.at20 Call.lat20 Call.at21 Call.lat21 Call.at22 Call.lat22 Call.at23 Call.lat23 Call.sub0_24 Call.lsub0_24 Call.sub9_10 Call.lsub9_10 Call.sub9_2 Call.lsub9_2 Call.sub11_2 Call.lsub11_2 Call.sub13_2 Call.lsub13_2 Call.sub15_2 Call.lsub15_2 Call.sub17_2 Call.lsub17_2 Call.sub19_2 Call.lsub19_2 Call.len Sett.at0 Sett.lat0 Sett.at1 Sett.lat1 Sett.at2 Sett.lat2 Sett.at3 Sett.lat3 Sett.at4 Sett.lat4 Sett.at5 Sett.lat5 Sett.at6 Sett.lat6 Sett.at7 Sett.lat7 Sett.at8 Sett.lat8 Sett.at9 Sett.lat9 Sett.sub0_10 Sett.lsub0_10 Sett.sub0_2 Sett.lsub0_2 Sett.sub2_2 Sett.lsub2_2 Sett.sub4_2 Sett.lsub4_2 Sett.sub6_2 Sett.lsub6_2 Sett.sub8_2 Sett.lsub8_2 Sett.len Opt.at0 Opt.lat0 Opt.at1 Opt.lat1 Opt.sub0_2 Opt.lsub0_2 Opt.len

/-- the field of a letter is copied -/
def cCopy (z x : Call) (c : Nat) : Call :=
  if c = 102 then { z with fh := x.fh } else
  if c = 70 then { z with fh2 := x.fh2 } else
  if c = 110 then { z with name := x.name } else
  if c = 78 then { z with name2 := x.name2 } else
  if c = 116 then { z with text := x.text } else
  if c = 100 then { z with data := x.data } else
  if c = 111 then { z with offset := x.offset } else
  if c = 107 then { z with cookie := x.cookie } else
  if c = 118 then { z with verf := x.verf } else
  if c = 99 then { z with count := x.count } else
  if c = 104 then { z with how := x.how } else
  if c = 115 then { z with set := x.set } else
  if c = 103 then { z with guard := x.guard } else z
end Go.Proofs.YtgifmpobokaejaaGreatDoor


/-
  Layer 7, walks: why a call may not be. No condition.
-/
namespace Go.Proofs.YtgifmpobokaejaaGreatDoor
open Go.RowKit
attribute [local go_sem ↓] Go.wp_at_zero Go.wp_at_succ
attribute [local go_sem] rowAt_ptr rowOf_drew rowOf_drewN rowOf_alloc_past rowOf_new
attribute [local go_sem ↓] ldSet ldOpt

attribute [local go_sem] Call.at0 Call.lat0 Call.at1 Call.lat1 Call.at2 Call.lat2 Call.at3 Call.lat3 Call.at4 Call.lat4 Call.at5 Call.lat5 Call.at6 Call.lat6 Call.at7 Call.lat7 Call.at8 Call.lat8 Call.at9 Call.lat9 Call.at10 Call.lat10 Call.at11 Call.lat11 Call.at12 Call.lat12 Call.at13 Call.lat13 Call.at14 Call.lat14 Call.at15 Call.lat15 Call.at16 Call.lat16 Call.at17 Call.lat17 Call.at18 Call.lat18 Call.at19 Call.lat19 Call.at20 Call.lat20 Call.at21 Call.lat21 Call.at22 Call.lat22 Call.at23 Call.lat23 Call.sub0_24 Call.lsub0_24 Call.sub9_10 Call.lsub9_10 Call.sub9_2 Call.lsub9_2 Call.sub11_2 Call.lsub11_2 Call.sub13_2 Call.lsub13_2 Call.sub15_2 Call.lsub15_2 Call.sub17_2 Call.lsub17_2 Call.sub19_2 Call.lsub19_2 Call.len Sett.at0 Sett.lat0 Sett.at1 Sett.lat1 Sett.at2 Sett.lat2 Sett.at3 Sett.lat3 Sett.at4 Sett.lat4 Sett.at5 Sett.lat5 Sett.at6 Sett.lat6 Sett.at7 Sett.lat7 Sett.at8 Sett.lat8 Sett.at9 Sett.lat9 Sett.sub0_10 Sett.lsub0_10 Sett.sub0_2 Sett.lsub0_2 Sett.sub2_2 Sett.lsub2_2 Sett.sub4_2 Sett.lsub4_2 Sett.sub6_2 Sett.lsub6_2 Sett.sub8_2 Sett.lsub8_2 Sett.len Opt.at0 Opt.lat0 Opt.at1 Opt.lat1 Opt.sub0_2 Opt.lsub0_2 Opt.len

def cLetter (c : Nat) : Prop := c = 102 ∨ c = 70 ∨ c = 110 ∨ c = 78 ∨ c = 116 ∨ c = 100 ∨ c = 111 ∨ c = 107 ∨ c = 118 ∨ c = 99 ∨ c = 104 ∨ c = 115 ∨ c = 103
instance (c : Nat) : Decidable (cLetter c) := by unfold cLetter; infer_instance
theorem lettersC_are : ∀ s ∈ lettersC, ∀ c ∈ s, cLetter c.toNat := by decide
theorem cFields_letter (p : Int) {k : Nat} (hk : k < (cFields p).length) : cLetter (cFields p)[k].toNat := by
  have hm : (cFields p)[k] ∈ cFields p := List.getElem_mem hk
  generalize (cFields p)[k] = c at *
  unfold cFields at hm
  split at hm
  · simp at hm
  · rcases Nat.lt_or_ge p.toNat lettersC.length with h | h
    · have he : lettersC.getD p.toNat [] = lettersC[p.toNat] := by simp [List.getD, List.getElem?_eq_getElem h]
      rw [he] at hm
      exact lettersC_are _ (List.getElem_mem h) _ hm
    · simp [List.getD, List.getElem?_eq_none h] at hm
theorem Blk.ne_itr {w : World} {g b pos : Nat} {T : TypeId} {cs : List Value} {l : List UInt8} (h : Blk w g T cs) (hI : Itr w b l pos) : g ≠ b := by
  intro e
  subst e
  unfold Blk at h
  unfold Itr at hI
  rw [h] at hI
  cases hI

/-- the first k letters' fields are copied -/
def cTaken (x : Call) (l : List UInt8) (z : Call) (k : Nat) : Call := (l.take k).foldl (fun z c => cCopy z x c.toNat) z
theorem cTaken_succ (x : Call) (l : List UInt8) (z : Call) (k : Nat) (hk : k < l.length) : cTaken x l z (k + 1) = cCopy (cTaken x l z k) x l[k].toNat := by
  unfold cTaken
  rw [List.take_add_one, List.getElem?_eq_getElem hk, List.foldl_append]
  rfl
/-- what holds while a call is looked at -/
structure Looked (w0 : World) (g b : Nat) (x : Call) (l : List UInt8) (z : Call) (k : Nat) (W : World) : Prop where
  A : Blk W g 34 (cTaken x l z k).vals
  X : Blk W b 34 x.vals
  B : Below w0.heap.size w0 W

end Go.Proofs.YtgifmpobokaejaaGreatDoor


/-
  Layer 7, walks: why a call may not be. No condition.
-/
namespace Go.Proofs.YtgifmpobokaejaaGreatDoor
open Go.RowKit
attribute [local go_sem ↓] Go.wp_at_zero Go.wp_at_succ
attribute [local go_sem] rowAt_ptr rowOf_drew rowOf_drewN rowOf_alloc_past rowOf_new
theorem ldCall {ρ : Operand → Value} {w : World} {dst : Option Tmp} {ty : TypeId} {pos : String} {after : Array Edge} {g : Option (Nat × Bool)} {x : Operand} (h : (rowAt w 24 (ρ x)).isSome = true) :
    (execOp ρ ⟨dst, .load 34 x, ty, pos, after, g⟩).run Tryz.prog w = .ok (.value (.agg ((rowAt w 24 (ρ x)).getD #[]))) w := ex_load 34 24 Tryz.underlying34 rfl (by kernel_rfl) h
attribute [local go_sem ↓] ldSet ldOpt ldCall

attribute [local go_sem] Call.at0 Call.lat0 Call.at1 Call.lat1 Call.at2 Call.lat2 Call.at3 Call.lat3 Call.at4 Call.lat4 Call.at5 Call.lat5 Call.at6 Call.lat6 Call.at7 Call.lat7 Call.at8 Call.lat8 Call.at9 Call.lat9 Call.at10 Call.lat10 Call.at11 Call.lat11 Call.at12 Call.lat12 Call.at13 Call.lat13 Call.at14 Call.lat14 Call.at15 Call.lat15 Call.at16 Call.lat16 Call.at17 Call.lat17 Call.at18 Call.lat18 Call.at19 Call.lat19 Call.at20 Call.lat20 Call.at21 Call.lat21 Call.at22 Call.lat22 Call.at23 Call.lat23 Call.sub0_24 Call.lsub0_24 Call.sub9_10 Call.lsub9_10 Call.sub9_2 Call.lsub9_2 Call.sub11_2 Call.lsub11_2 Call.sub13_2 Call.lsub13_2 Call.sub15_2 Call.lsub15_2 Call.sub17_2 Call.lsub17_2 Call.sub19_2 Call.lsub19_2 Call.len Sett.at0 Sett.lat0 Sett.at1 Sett.lat1 Sett.at2 Sett.lat2 Sett.at3 Sett.lat3 Sett.at4 Sett.lat4 Sett.at5 Sett.lat5 Sett.at6 Sett.lat6 Sett.at7 Sett.lat7 Sett.at8 Sett.lat8 Sett.at9 Sett.lat9 Sett.sub0_10 Sett.lsub0_10 Sett.sub0_2 Sett.lsub0_2 Sett.sub2_2 Sett.lsub2_2 Sett.sub4_2 Sett.lsub4_2 Sett.sub6_2 Sett.lsub6_2 Sett.sub8_2 Sett.lsub8_2 Sett.len Opt.at0 Opt.lat0 Opt.at1 Opt.lat1 Opt.sub0_2 Opt.lsub0_2 Opt.len

def callZ : Call := ⟨0, [], [], [], [], 0, 0, 0, [], ⟨⟨false, 0⟩, ⟨false, 0⟩, ⟨false, 0⟩, ⟨false, 0⟩, ⟨false, 0⟩⟩, ⟨false, 0⟩, 0, 0, []⟩
theorem infoCall : (Tryz.prog.info? 34).map (fun i => (i.zero, i.size)) = some (some (.agg callZ.vals.toArray), 24) := by kernel_rfl
theorem guardCall : Tryz.prog.eqGuardType Tryz.prog.depth 34 = false := by kernel_rfl
def lfCall : List Leaf := [.i .i64, .s, .s, .s, .s, .i .i64, .i .i64, .i .i64, .s, .b, .i .i64, .b, .i .i64, .b, .i .i64, .b, .i .i64, .b, .i .i64, .b, .i .i64, .i .i64, .i .i64, .s]
theorem leafsCall : leafs Tryz.prog 8 34 = some lfCall := by kernel_rfl
theorem Call.inj {x y : Call} (h : x.vals = y.vals) : x = y := by
  obtain ⟨_, _, _, _, _, _, _, _, _, ⟨⟨_, _⟩, ⟨_, _⟩, ⟨_, _⟩, ⟨_, _⟩, ⟨_, _⟩⟩, ⟨_, _⟩, _, _, _⟩ := x
  obtain ⟨_, _, _, _, _, _, _, _, _, ⟨⟨_, _⟩, ⟨_, _⟩, ⟨_, _⟩, ⟨_, _⟩, ⟨_, _⟩⟩, ⟨_, _⟩, _, _, _⟩ := y
  simp only [Call.vals, Sett.vals, Opt.vals, List.cons_append, List.nil_append, List.cons.injEq, Value.int.injEq, Value.bool.injEq, Value.string.injEq, true_and, and_true] at h
  obtain ⟨h0, h1, h2, h3, h4, h5, h6, h7, h8, h9, h10, h11, h12, h13, h14, h15, h16, h17, h18, h19, h20, h21, h22, h23⟩ := h
  have h1 := bs_inj h1
  have h2 := bs_inj h2
  have h3 := bs_inj h3
  have h4 := bs_inj h4
  have h8 := bs_inj h8
  have h23 := bs_inj h23
  subst_vars
  rfl
theorem neqCallS (x y : Call) (h : x = y) (w : World) : (binOp .neq 34 (.agg x.vals.toArray) (.agg y.vals.toArray)).run Tryz.prog w = .ok (.bool false) w := neq_same leafsCall (by kernel_rfl) w _ _ (by rfl) (by rw [h])
theorem neqCallO (x y : Call) (h : x ≠ y) (w : World) : (binOp .neq 34 (.agg x.vals.toArray) (.agg y.vals.toArray)).run Tryz.prog w = .ok (.bool true) w := neq_other leafsCall (by kernel_rfl) w _ _ (by rfl) (by rfl) (fun e => h (Call.inj e))

attribute [local go_sem] guardCall

theorem neqCall (x y : Call) (w : World) : (binOp .neq 34 (.agg x.vals.toArray) (.agg y.vals.toArray)).run Tryz.prog w = .ok (.bool (decide (x ≠ y))) w := by
  by_cases h : x = y
  · rw [neqCallS x y h, decide_eq_false (by simpa using h)]
  · rw [neqCallO x y h, decide_eq_true h]
attribute [local go_sem ↓] neqCall

def cThere (p : Int) : Bool := decide (0 ≤ p) && decide (p ≤ 21)
/-- may each letter's field be? -/
def cMayAll (x : Call) (l : List UInt8) : Bool := l.all fun c => cMay x c.toNat
/-- why a call may not be -/
def cCheck (x : Call) : Int :=
  if cThere x.proc = false then 22
  else if cMayAll x (cFields x.proc) = true ∧ cTaken x (cFields x.proc) { callZ with proc := x.proc } (cFields x.proc).length = x then 0 else 14

end Go.Proofs.YtgifmpobokaejaaGreatDoor
