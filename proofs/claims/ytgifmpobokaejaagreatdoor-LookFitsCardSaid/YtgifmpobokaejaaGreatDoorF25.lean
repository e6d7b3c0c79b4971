/-
  Layer 7, walks: may the field of a letter be (written by wip/tools/genmay.py). Condition: a call at a block of its own.
-/
import Derived.Test.YtgifmpobokaejaaGreatDoorF11
import Derived.Test.YtgifmpobokaejaaGreatDoorF24
import Derived.Test.YtgifmpobokaejaaGreatDoorF03
import Derived.Test.YtgifmpobokaejaaGreatDoorF04
import Derived.Test.YtgifmpobokaejaaGreatDoorF14
import Derived.Test.YtgifmpobokaejaaGreatDoorF13
import Derived.Test.YtgifmpobokaejaaGreatDoorF18
import Derived.Deep.Cut
namespace Go.Proofs.YtgifmpobokaejaaGreatDoor
open Go.RowKit
attribute [local go_sem ↓] Go.wp_at_zero Go.wp_at_succ
attribute [local go_sem] rowAt_ptr rowOf_drew rowOf_drewN rowOf_alloc_past rowOf_new
attribute [local go_sem ↓] ldSet ldOpt

attribute [local go_sem] Call.at0 Call.lat0 Call.at1 Call.lat1 Call.at2 Call.lat2 Call.at3 Call.lat3 Call.at4 Call.lat4 Call.at5 Call.lat5 Call.at6 Call.lat6 Call.at7 Call.lat7 Call.at8 Call.lat8 Call.at9 Call.lat9 Call.at10 Call.lat10 Call.at11 Call.lat11 Call.at12 Call.lat12 Call.at13 Call.lat13 Call.at14 Call.lat14 Call.at15 Call.lat15 Call.at16 Call.lat16 Call.at17 Call.lat17 Call.at18 Call.lat18 Call.at19 Call.lat19 Call.at20 Call.lat20 Call.at21 Call.lat21 Call.at22 Call.lat22 Call.at23 Call.lat23 Call.sub0_24 Call.lsub0_24 Call.sub9_10 Call.lsub9_10 Call.sub9_2 Call.lsub9_2 Call.sub11_2 Call.lsub11_2 Call.sub13_2 Call.lsub13_2 Call.sub15_2 Call.lsub15_2 Call.sub17_2 Call.lsub17_2 Call.sub19_2 Call.lsub19_2 Call.len Sett.at0 Sett.lat0 Sett.at1 Sett.lat1 Sett.at2 Sett.lat2 Sett.at3 Sett.lat3 Sett.at4 Sett.lat4 Sett.at5 Sett.lat5 Sett.at6 Sett.lat6 Sett.at7 Sett.lat7 Sett.at8 Sett.lat8 Sett.at9 Sett.lat9 Sett.sub0_10 Sett.lsub0_10 Sett.sub0_2 Sett.lsub0_2 Sett.sub2_2 Sett.lsub2_2 Sett.sub4_2 Sett.lsub4_2 Sett.sub6_2 Sett.lsub6_2 Sett.sub8_2 Sett.lsub8_2 Sett.len Opt.at0 Opt.lat0 Opt.at1 Opt.lat1 Opt.sub0_2 Opt.lsub0_2 Opt.len

/-- may the field of a letter be -/
def cMay (x : Call) (c : Nat) : Bool :=
  if c = 102 then decide (x.fh.length ≤ 64) else
  if c = 70 then decide (x.fh2.length ≤ 64) else
  if c = 110 then decide (x.name.length ≤ 255) else
  if c = 78 then decide (x.name2.length ≤ 255) else
  if c = 116 then decide (x.text.length ≤ 255) else
  if c = 100 then decide (x.data.length ≤ 256) else
  if c = 111 then decide (0 ≤ x.offset) else
  if c = 107 then decide (0 ≤ x.cookie) else
  if c = 118 then decide (0 ≤ x.verf) else
  if c = 99 then decide (0 ≤ x.count) && decide (x.count ≤ 4294967295) else
  if c = 104 then decide (0 ≤ x.how) && decide (x.how ≤ 4294967295) else
  if c = 115 then x.set.ok else
  decide (0 ≤ x.guard.n) && (x.guard.is || x.guard.n == 0)

end Go.Proofs.YtgifmpobokaejaaGreatDoor

/-
  Layer 7, walks: what is to be set, and the guard, may be; the field of a letter is copied (written by wip/tools/gencopied.py). Condition: calls at blocks of their own.
-/
namespace Go.Proofs.YtgifmpobokaejaaGreatDoor
open Go.RowKit
attribute [local go_sem ↓] Go.wp_at_zero Go.wp_at_succ
attribute [local go_sem] rowAt_ptr rowOf_drew rowOf_drewN rowOf_alloc_past rowOf_new
attribute [local go_sem ↓] ldSet ldOpt

attribute [local go_sem] Call.at0 Call.lat0 Call.at1 Call.lat1 Call.at2 Call.lat2 Call.at3 Call.lat3 Call.at4 Call.lat4 Call.at5 Call.lat5 Call.at6 Call.lat6 Call.at7 Call.lat7 Call.at8 Call.lat8 Call.at9 Call.lat9 Call.at10 Call.lat10 Call.at11 Call.lat11 Call.at12 Call.lat12 Call.at13 Call.lat13 Call.at14 Call.lat14 Call.at15 Call.lat15 Call.at16 Call.lat16 Call.at17 Call.lat17 Call.at18 Call.lat18 Call.at19 Call.lat19 Call.at20 Call.lat20 Call.at21 Call.lat21 Call.at22 Call.lat22 Call.at23 Call.lat23 Call.sub0_24 Call.lsub0_24 Call.sub9_10 Call.lsub9_10 Call.sub9_2 Call.lsub9_2 Call.sub11_2 Call.lsub11_2 Call.sub13_2 Call.lsub13_2 Call.sub15_2 Call.lsub15_2 Call.sub17_2 Call.lsub17_2 Call.sub19_2 Call.lsub19_2 Call.len Sett.at0 Sett.lat0 Sett.at1 Sett.lat1 Sett.at2 Sett.lat2 Sett.at3 Sett.lat3 Sett.at4 Sett.lat4 Sett.at5 Sett.lat5 Sett.at6 Sett.lat6 Sett.at7 Sett.lat7 Sett.at8 Sett.lat8 Sett.at9 Sett.lat9 Sett.sub0_10 Sett.lsub0_10 Sett.sub0_2 Sett.lsub0_2 Sett.sub2_2 Sett.lsub2_2 Sett.sub4_2 Sett.lsub4_2 Sett.sub6_2 Sett.lsub6_2 Sett.sub8_2 Sett.lsub8_2 Sett.len Opt.at0 Opt.lat0 Opt.at1 Opt.lat1 Opt.sub0_2 Opt.lsub0_2 Opt.len

/-- the field of a letter is copied -/
def cCopy (z x : Call) (c : Nat) : Call :=
  if c = 102 then { z with fh := x.fh } else
  if c = 70 then { z with fh2 := x.fh2 } else
  if c = 110 then { z with name := x.name } else
  if c = 78 then { z with name2 := x.name2 } else
  if c = 116 then { z with text := x.text } else
  if c = 100 then { z with data := x.data } else
  if c = 111 then { z with offset := x.offset } else
  if c = 107 then { z with cookie := x.cookie } else
  if c = 118 then { z with verf := x.verf } else
  if c = 99 then { z with count := x.count } else
  if c = 104 then { z with how := x.how } else
  if c = 115 then { z with set := x.set } else
  if c = 103 then { z with guard := x.guard } else z
end Go.Proofs.YtgifmpobokaejaaGreatDoor


/-
  Layer 7, walks: why a call may not be. No condition.
-/
namespace Go.Proofs.YtgifmpobokaejaaGreatDoor
open Go.RowKit
attribute [local go_sem ↓] Go.wp_at_zero Go.wp_at_succ
attribute [local go_sem] rowAt_ptr rowOf_drew rowOf_drewN rowOf_alloc_past rowOf_new
attribute [local go_sem ↓] ldSet ldOpt

attribute [local go_sem] Call.at0 Call.lat0 Call.at1 Call.lat1 Call.at2 Call.lat2 Call.at3 Call.lat3 Call.at4 Call.lat4 Call.at5 Call.lat5 Call.at6 Call.lat6 Call.at7 Call.lat7 Call.at8 Call.lat8 Call.at9 Call.lat9 Call.at10 Call.lat10 Call.at11 Call.lat11 Call.at12 Call.lat12 Call.at13 Call.lat13 Call.at14 Call.lat14 Call.at15 Call.lat15 Call.at16 Call.lat16 Call.at17 Call.lat17 Call.at18 Call.lat18 Call.at19 Call.lat19 Call.at20 Call.lat20 Call.at21 Call.lat21 Call.at22 Call.lat22 Call.at23 Call.lat23 Call.sub0_24 Call.lsub0_24 Call.sub9_10 Call.lsub9_10 Call.sub9_2 Call.lsub9_2 Call.sub11_2 Call.lsub11_2 Call.sub13_2 Call.lsub13_2 Call.sub15_2 Call.lsub15_2 Call.sub17_2 Call.lsub17_2 Call.sub19_2 Call.lsub19_2 Call.len Sett.at0 Sett.lat0 Sett.at1 Sett.lat1 Sett.at2 Sett.lat2 Sett.at3 Sett.lat3 Sett.at4 Sett.lat4 Sett.at5 Sett.lat5 Sett.at6 Sett.lat6 Sett.at7 Sett.lat7 Sett.at8 Sett.lat8 Sett.at9 Sett.lat9 Sett.sub0_10 Sett.lsub0_10 Sett.sub0_2 Sett.lsub0_2 Sett.sub2_2 Sett.lsub2_2 Sett.sub4_2 Sett.lsub4_2 Sett.sub6_2 Sett.lsub6_2 Sett.sub8_2 Sett.lsub8_2 Sett.len Opt.at0 Opt.lat0 Opt.at1 Opt.lat1 Opt.sub0_2 Opt.lsub0_2 Opt.len

def cLetter (c : Nat) : Prop := c = 102 ∨ c = 70 ∨ c = 110 ∨ c = 78 ∨ c = 116 ∨ c = 100 ∨ c = 111 ∨ c = 107 ∨ c = 118 ∨ c = 99 ∨ c = 104 ∨ c = 115 ∨ c = 103
instance (c : Nat) : Decidable (cLetter c) := by unfold cLetter; infer_instance
theorem lettersC_are : ∀ s ∈ lettersC, ∀ c ∈ s, cLetter c.toNat := by decide
theorem cFields_letter (p : Int) {k : Nat} (hk : k < (cFields p).length) : cLetter (cFields p)[k].toNat := by
  have hm : (cFields p)[k] ∈ cFields p := List.getElem_mem hk
  generalize (cFields p)[k] = c at *
  unfold cFields at hm
  split at hm
  · simp at hm
  · rcases Nat.lt_or_ge p.toNat lettersC.length with h | h
    · have he : lettersC.getD p.toNat [] = lettersC[p.toNat] := by simp [List.getD, List.getElem?_eq_getElem h]
      rw [he] at hm
      exact lettersC_are _ (List.getElem_mem h) _ hm
    · simp [List.getD, List.getElem?_eq_none h] at hm
theorem Blk.ne_itr {w : World} {g b pos : Nat} {T : TypeId} {cs : List Value} {l : List UInt8} (h : Blk w g T cs) (hI : Itr w b l pos) : g ≠ b := by
  intro e
  subst e
  unfold Blk at h
  unfold Itr at hI
  rw [h] at hI
  cases hI

/-- the first k letters' fields are copied -/
def cTaken (x : Call) (l : List UInt8) (z : Call) (k : Nat) : Call := (l.take k).foldl (fun z c => cCopy z x c.toNat) z
theorem cTaken_succ (x : Call) (l : List UInt8) (z : Call) (k : Nat) (hk : k < l.length) : cTaken x l z (k + 1) = cCopy (cTaken x l z k) x l[k].toNat := by
  unfold cTaken
  rw [List.take_add_one, List.getElem?_eq_getElem hk, List.foldl_append]
  rfl
/-- what holds while a call is looked at -/
structure Looked (w0 : World) (g b : Nat) (x : Call) (l : List UInt8) (z : Call) (k : Nat) (W : World) : Prop where
  A : Blk W g 34 (cTaken x l z k).vals
  X : Blk W b 34 x.vals
  B : Below w0.heap.size w0 W

end Go.Proofs.YtgifmpobokaejaaGreatDoor


/-
  Layer 7, walks: why a call may not be. No condition.
-/
namespace Go.Proofs.YtgifmpobokaejaaGreatDoor
open Go.RowKit
attribute [local go_sem ↓] Go.wp_at_zero Go.wp_at_succ
attribute [local go_sem] rowAt_ptr rowOf_drew rowOf_drewN rowOf_alloc_past rowOf_new
theorem ldCall {ρ : Operand → Value} {w : World} {dst : Option Tmp} {ty : TypeId} {pos : String} {after : Array Edge} {g : Option (Nat × Bool)} {x : Operand} (h : (rowAt w 24 (ρ x)).isSome = true) :
    (execOp ρ ⟨dst, .load 34 x, ty, pos, after, g⟩).run Tryz.prog w = .ok (.value (.agg ((rowAt w 24 (ρ x)).getD #[]))) w := ex_load 34 24 Tryz.underlying34 rfl (by kernel_rfl) h
attribute [local go_sem ↓] ldSet ldOpt ldCall

attribute [local go_sem] Call.at0 Call.lat0 Call.at1 Call.lat1 Call.at2 Call.lat2 Call.at3 Call.lat3 Call.at4 Call.lat4 Call.at5 Call.lat5 Call.at6 Call.lat6 Call.at7 Call.lat7 Call.at8 Call.lat8 Call.at9 Call.lat9 Call.at10 Call.lat10 Call.at11 Call.lat11 Call.at12 Call.lat12 Call.at13 Call.lat13 Call.at14 Call.lat14 Call.at15 Call.lat15 Call.at16 Call.lat16 Call.at17 Call.lat17 Call.at18 Call.lat18 Call.at19 Call.lat19 Call.at20 Call.lat20 Call.at21 Call.lat21 Call.at22 Call.lat22 Call.at23 Call.lat23 Call.sub0_24 Call.lsub0_24 Call.sub9_10 Call.lsub9_10 Call.sub9_2 Call.lsub9_2 Call.sub11_2 Call.lsub11_2 Call.sub13_2 Call.lsub13_2 Call.sub15_2 Call.lsub15_2 Call.sub17_2 Call.lsub17_2 Call.sub19_2 Call.lsub19_2 Call.len Sett.at0 Sett.lat0 Sett.at1 Sett.lat1 Sett.at2 Sett.lat2 Sett.at3 Sett.lat3 Sett.at4 Sett.lat4 Sett.at5 Sett.lat5 Sett.at6 Sett.lat6 Sett.at7 Sett.lat7 Sett.at8 Sett.lat8 Sett.at9 Sett.lat9 Sett.sub0_10 Sett.lsub0_10 Sett.sub0_2 Sett.lsub0_2 Sett.sub2_2 Sett.lsub2_2 Sett.sub4_2 Sett.lsub4_2 Sett.sub6_2 Sett.lsub6_2 Sett.sub8_2 Sett.lsub8_2 Sett.len Opt.at0 Opt.lat0 Opt.at1 Opt.lat1 Opt.sub0_2 Opt.lsub0_2 Opt.len

def callZ : Call := ⟨0, [], [], [], [], 0, 0, 0, [], ⟨⟨false, 0⟩, ⟨false, 0⟩, ⟨false, 0⟩, ⟨false, 0⟩, ⟨false, 0⟩⟩, ⟨false, 0⟩, 0, 0, []⟩
theorem infoCall : (Tryz.prog.info? 34).map (fun i => (i.zero, i.size)) = some (some (.agg callZ.vals.toArray), 24) := by kernel_rfl
theorem guardCall : Tryz.prog.eqGuardType Tryz.prog.depth 34 = false := by kernel_rfl
def lfCall : List Leaf := [.i .i64, .s, .s, .s, .s, .i .i64, .i .i64, .i .i64, .s, .b, .i .i64, .b, .i .i64, .b, .i .i64, .b, .i .i64, .b, .i .i64, .b, .i .i64, .i .i64, .i .i64, .s]
theorem leafsCall : leafs Tryz.prog 8 34 = some lfCall := by kernel_rfl
theorem Call.inj {x y : Call} (h : x.vals = y.vals) : x = y := by
  obtain ⟨_, _, _, _, _, _, _, _, _, ⟨⟨_, _⟩, ⟨_, _⟩, ⟨_, _⟩, ⟨_, _⟩, ⟨_, _⟩⟩, ⟨_, _⟩, _, _, _⟩ := x
  obtain ⟨_, _, _, _, _, _, _, _, _, ⟨⟨_, _⟩, ⟨_, _⟩, ⟨_, _⟩, ⟨_, _⟩, ⟨_, _⟩⟩, ⟨_, _⟩, _, _, _⟩ := y
  simp only [Call.vals, Sett.vals, Opt.vals, List.cons_append, List.nil_append, List.cons.injEq, Value.int.injEq, Value.bool.injEq, Value.string.injEq, true_and, and_true] at h
  obtain ⟨h0, h1, h2, h3, h4, h5, h6, h7, h8, h9, h10, h11, h12, h13, h14, h15, h16, h17, h18, h19, h20, h21, h22, h23⟩ := h
  have h1 := bs_inj h1
  have h2 := bs_inj h2
  have h3 := bs_inj h3
  have h4 := bs_inj h4
  have h8 := bs_inj h8
  have h23 := bs_inj h23
  subst_vars
  rfl
theorem neqCallS (x y : Call) (h : x = y) (w : World) : (binOp .neq 34 (.agg x.vals.toArray) (.agg y.vals.toArray)).run Tryz.prog w = .ok (.bool false) w := neq_same leafsCall (by kernel_rfl) w _ _ (by rfl) (by rw [h])
theorem neqCallO (x y : Call) (h : x ≠ y) (w : World) : (binOp .neq 34 (.agg x.vals.toArray) (.agg y.vals.toArray)).run Tryz.prog w = .ok (.bool true) w := neq_other leafsCall (by kernel_rfl) w _ _ (by rfl) (by rfl) (fun e => h (Call.inj e))

attribute [local go_sem] guardCall

theorem neqCall (x y : Call) (w : World) : (binOp .neq 34 (.agg x.vals.toArray) (.agg y.vals.toArray)).run Tryz.prog w = .ok (.bool (decide (x ≠ y))) w := by
  by_cases h : x = y
  · rw [neqCallS x y h, decide_eq_false (by simpa using h)]
  · rw [neqCallO x y h, decide_eq_true h]
attribute [local go_sem ↓] neqCall

def cThere (p : Int) : Bool := decide (0 ≤ p) && decide (p ≤ 21)
/-- may each letter's field be? -/
def cMayAll (x : Call) (l : List UInt8) : Bool := l.all fun c => cMay x c.toNat
/-- why a call may not be -/
def cCheck (x : Call) : Int :=
  if cThere x.proc = false then 22
  else if cMayAll x (cFields x.proc) = true ∧ cTaken x (cFields x.proc) { callZ with proc := x.proc } (cFields x.proc).length = x then 0 else 14

end Go.Proofs.YtgifmpobokaejaaGreatDoor


/-
  Layer 7, walks of the document's own: has, text, num, There, Large. No condition but machine texts.
-/
namespace Go.Proofs.YtgifmpobokaejaaGreatDoor
open Go.RowKit
attribute [local go_sem ↓] Go.wp_at_zero Go.wp_at_succ
attribute [local go_sem] rowAt_ptr rowOf_drew rowOf_drewN rowOf_alloc_past rowOf_new
attribute [local go_sem] Call.at0 Call.lat0 Call.at1 Call.lat1 Call.at2 Call.lat2 Call.at3 Call.lat3 Call.at4 Call.lat4 Call.at5 Call.lat5 Call.at6 Call.lat6 Call.at7 Call.lat7 Call.at8 Call.lat8 Call.at9 Call.lat9 Call.at10 Call.lat10 Call.at11 Call.lat11 Call.at12 Call.lat12 Call.at13 Call.lat13 Call.at14 Call.lat14 Call.at15 Call.lat15 Call.at16 Call.lat16 Call.at17 Call.lat17 Call.at18 Call.lat18 Call.at19 Call.lat19 Call.at20 Call.lat20 Call.at21 Call.lat21 Call.at22 Call.lat22 Call.at23 Call.lat23 Call.sub0_24 Call.lsub0_24 Call.sub9_10 Call.lsub9_10 Call.sub9_2 Call.lsub9_2 Call.sub11_2 Call.lsub11_2 Call.sub13_2 Call.lsub13_2 Call.sub15_2 Call.lsub15_2 Call.sub17_2 Call.lsub17_2 Call.sub19_2 Call.lsub19_2 Call.len Sett.at0 Sett.lat0 Sett.at1 Sett.lat1 Sett.at2 Sett.lat2 Sett.at3 Sett.lat3 Sett.at4 Sett.lat4 Sett.at5 Sett.lat5 Sett.at6 Sett.lat6 Sett.at7 Sett.lat7 Sett.at8 Sett.lat8 Sett.at9 Sett.lat9 Sett.sub0_10 Sett.lsub0_10 Sett.sub0_2 Sett.lsub0_2 Sett.sub2_2 Sett.lsub2_2 Sett.sub4_2 Sett.lsub4_2 Sett.sub6_2 Sett.lsub6_2 Sett.sub8_2 Sett.lsub8_2 Sett.len Opt.at0 Opt.lat0 Opt.at1 Opt.lat1 Opt.sub0_2 Opt.lsub0_2 Opt.len

set_option maxHeartbeats 800000 in
theorem refHas7_any (l : List UInt8) (c : UInt8) (w : World) (hl : l.length ≤ 1000) : Calls Tryz.prog 41 #[.string (bs l), .int .u8 c.toNat] w fun e w' => e = .returned (.bool (l.contains c)) ∧ w = w' := by
  have hsz := bs_size l
  go_enter Tryz.func41, Tryz.ntmps41
  go_wp2
  go_loopw [5] (fun iv wr => ∃ k : Nat, k ≤ l.length ∧ iv = .int .i64 k ∧ (∀ j (hj : j < l.length), j < k → l[j] ≠ c) ∧ wr = w) (fun iv _ => l.length - (intOf iv).toNat)
  case atStart => exact ⟨0, Nat.zero_le _, rfl, fun _ _ h => absurd h (Nat.not_lt_zero _), rfl⟩
  case round =>
    obtain ⟨k, hk, rfl, hno, rfl⟩ := hrel
    by_cases hlt : k < l.length
    · by_cases he : l[k] = c
      · have HC := Lib.hid (show l.contains c = true by rw [List.contains_iff_mem, ← he]; exact List.getElem_mem hlt)
        have hq : ((((bs l)[k]'(by rw [hsz]; exact hlt)).toNat : Int) == (c.toNat : Int)) = true := by rw [bs_get, he]; simp
        go_wp2
        go_ret
        rw [HC.out]
        exact ⟨rfl, rfl⟩
      · have hq : ((((bs l)[k]'(by rw [hsz]; exact hlt)).toNat : Int) == (c.toNat : Int)) = false := beq_false_of_ne fun h => he (UInt8.toNat_inj.1 (by rw [bs_get] at h; omega))
        have HN := Lib.hid (show ∀ j (hj : j < l.length), j < k + 1 → l[j] ≠ c from fun j hj h => by
          rcases Nat.lt_or_ge j k with h3 | h3
          · exact hno j hj h3
          · obtain rfl : j = k := by omega
            exact he)
        clear hno
        go_wp2
        go_roundw
        case rel => exact ⟨k + 1, by omega, by go_num, HN.out, trivial⟩
        case measure => simp [intOf]; omega
    · obtain rfl : k = l.length := by omega
      have HC := Lib.hid (show l.contains c = false by
        rw [← Bool.not_eq_true, List.contains_iff_mem]
        intro hm
        obtain ⟨j, hj, e⟩ := List.getElem_of_mem hm
        exact hno j hj hj e)
      clear hno
      go_wp2
      go_ret
      rw [HC.out]
      exact ⟨rfl, rfl⟩
theorem refTextIs7_any (is : Bool) (l : List UInt8) (most : Int) (w : World) : Calls Tryz.prog 40 #[.bool is, .string (bs l), .int .i64 most] w fun e w' => e = .returned (.bool (if is then decide ((l.length : Int) ≤ most) else l == [])) ∧ w = w' := by
  have hsz := bs_size l
  cases is
  · by_cases hl : l = []
    · subst hl
      go_enter Tryz.func40, Tryz.ntmps40
      go_wp2
      go_ret
      exact ⟨rfl, rfl⟩
    · have h2 : (l == []) = false := by simpa using hl
      go_enter Tryz.func40, Tryz.ntmps40
      go_wp2
      go_ret
      simp
  · go_enter Tryz.func40, Tryz.ntmps40
    go_wp2
    go_ret
    exact ⟨rfl, rfl⟩
theorem refNum7_any (is : Bool) (n most : Int) (w : World) : Calls Tryz.prog 42 #[.bool is, .int .i64 n, .int .i64 most] w fun e w' => e = .returned (.bool (if is then decide (0 ≤ n) && decide (n ≤ most) else n == 0)) ∧ w = w' := by
  cases is
  all_goals
    go_enter Tryz.func42, Tryz.ntmps42
    go_wp2
    all_goals (go_ret; go_light; exact ⟨ret_bool (by grind), rfl⟩)
theorem refThere_any (p : Int) (w : World) : Calls Tryz.prog 14 #[.int .i64 p] w fun e w' => e = .returned (.bool (cThere p)) ∧ w = w' := by
  go_enter Tryz.func14, Tryz.ntmps14
  go_wp2
  all_goals (go_ret; go_light; exact ⟨ret_bool (by grind [cThere]), rfl⟩)
/-- is a call too large to be looked at -/
def cLarge (x : Call) : Bool := decide (80 < x.fh.length) || decide (80 < x.fh2.length) || decide (300 < x.name.length) || decide (300 < x.name2.length) || decide (300 < x.text.length) || decide (300 < x.data.length)
set_option maxHeartbeats 1600000 in
theorem refLarge7_any (x : Call) (w : World) : Calls Tryz.prog 8 #[.agg x.vals.toArray] w fun e w' => e = .returned (.bool (cLarge x)) ∧ Below w.heap.size w w' := by
  have hb := Blk.new w 34 x.vals
  have hc := hb.cell
  have hB : Below w.heap.size w (w.alloc (.cells x.vals.toArray 34)) := (Below.refl _ _).alloc (Nat.le_refl _) _
  have h1 := bs_size x.fh
  have h2 := bs_size x.fh2
  have h3 := bs_size x.name
  have h4 := bs_size x.name2
  have h5 := bs_size x.text
  have h6 := bs_size x.data
  have HB := Lib.hid hB
  clear hB hb
  go_enter Tryz.func8, Tryz.ntmps8
  go_wp2
  all_goals (go_ret; go_light; exact ⟨ret_bool (by grind [cLarge]), HB.out⟩)
end Go.Proofs.YtgifmpobokaejaaGreatDoor


/-
  Layer 5, walks: what was ahead and behind, and what is to be set, are got. Conditions: a reader at a block of its own; texts are machine texts.
-/
namespace Go.Proofs.YtgifmpobokaejaaGreatDoor
open Go.RowKit
attribute [local go_sem ↓] Go.wp_at_zero Go.wp_at_succ
attribute [local go_sem] rowAt_ptr rowOf_drew rowOf_drewN rowOf_alloc_past rowOf_new
attribute [local go_sem ↓] ldAttrR ldOpt ldSet ldPost ldWcc

attribute [local go_sem] Attr.at0 Attr.lat0 Attr.at1 Attr.lat1 Attr.at2 Attr.lat2 Attr.at3 Attr.lat3 Attr.at4 Attr.lat4 Attr.at5 Attr.lat5 Attr.at6 Attr.lat6 Attr.at7 Attr.lat7 Attr.at8 Attr.lat8 Attr.at9 Attr.lat9 Attr.sub0_10 Attr.lsub0_10 Attr.len Opt.at0 Opt.lat0 Opt.at1 Opt.lat1 Opt.sub0_2 Opt.lsub0_2 Opt.len Sett.at0 Sett.lat0 Sett.at1 Sett.lat1 Sett.at2 Sett.lat2 Sett.at3 Sett.lat3 Sett.at4 Sett.lat4 Sett.at5 Sett.lat5 Sett.at6 Sett.lat6 Sett.at7 Sett.lat7 Sett.at8 Sett.lat8 Sett.at9 Sett.lat9 Sett.sub0_10 Sett.lsub0_10 Sett.sub0_2 Sett.lsub0_2 Sett.sub2_2 Sett.lsub2_2 Sett.sub4_2 Sett.lsub4_2 Sett.sub6_2 Sett.lsub6_2 Sett.sub8_2 Sett.lsub8_2 Sett.len Post.at0 Post.lat0 Post.at1 Post.lat1 Post.at2 Post.lat2 Post.at3 Post.lat3 Post.at4 Post.lat4 Post.at5 Post.lat5 Post.at6 Post.lat6 Post.at7 Post.lat7 Post.at8 Post.lat8 Post.at9 Post.lat9 Post.at10 Post.lat10 Post.sub0_11 Post.lsub0_11 Post.sub1_10 Post.lsub1_10 Post.len Wcc.at0 Wcc.lat0 Wcc.at1 Wcc.lat1 Wcc.at2 Wcc.lat2 Wcc.at3 Wcc.lat3 Wcc.at4 Wcc.lat4 Wcc.at5 Wcc.lat5 Wcc.at6 Wcc.lat6 Wcc.at7 Wcc.lat7 Wcc.at8 Wcc.lat8 Wcc.at9 Wcc.lat9 Wcc.at10 Wcc.lat10 Wcc.at11 Wcc.lat11 Wcc.at12 Wcc.lat12 Wcc.sub0_13 Wcc.lsub0_13 Wcc.sub0_2 Wcc.lsub0_2 Wcc.sub2_11 Wcc.lsub2_11 Wcc.sub3_10 Wcc.lsub3_10 Wcc.len optV

theorem setAt_wcc (o : Opt) (p : Post) : setAt (Wcc.vals ⟨o, postZ⟩) 2 p.vals = Wcc.vals ⟨o, p⟩ := rfl
/-- the first k options are read -/
def setOpt (s : Sett) (o : Opt) : Nat → Sett
  | 0 => { s with mode := o }
  | 1 => { s with uid := o }
  | 2 => { s with gid := o }
  | 3 => { s with size := o }
  | _ => { s with time := o }
def settK : Nat → Rs → Sett × Rs
  | 0, r => (settZ, r)
  | k + 1, r => (setOpt (settK k r).1 (optOf (rOpt (settK k r).2).1) k, (rOpt (settK k r).2).2)
def rSett (r : Rs) : Sett × Rs := settK 5 r
theorem settK_step (r : Rs) {k : Nat} (hk : k < 5) : setAt (settK k r).1.vals (2 * k) (optV (rOpt (settK k r).2).1) = (settK (k + 1) r).1.vals ∧ (settK (k + 1) r).2 = (rOpt (settK k r).2).2 := by
  match k, hk with
  | 0, _ | 1, _ | 2, _ | 3, _ | 4, _ => exact ⟨rfl, rfl⟩
theorem settK_len (r : Rs) (k : Nat) (h : r.s.length ≤ 9223372036854775807) : (settK k r).2.s.length ≤ 9223372036854775807 := by
  induction k with
  | zero => exact h
  | succ k ih => exact Nat.le_trans (rOpt_len ih) ih
theorem rSett_good {r : Rs} (h : r.s.length ≤ 9223372036854775807) : (rSett r).1.good :=
  ⟨rOpt_good h, rOpt_good (settK_len r 1 h), rOpt_good (settK_len r 2 h), rOpt_good (settK_len r 3 h), rOpt_good (settK_len r 4 h)⟩

end Go.Proofs.YtgifmpobokaejaaGreatDoor


/-
  Layer 5, walks: attributes are laid. Conditions: they may be; at most 2^39 bytes so far.
-/
namespace Go.Proofs.YtgifmpobokaejaaGreatDoor
open Go.RowKit
attribute [local go_sem ↓] Go.wp_at_zero Go.wp_at_succ
attribute [local go_sem] rowAt_ptr rowOf_drew rowOf_drewN rowOf_alloc_past rowOf_new
attribute [local go_sem] Attr.at0 Attr.lat0 Attr.at1 Attr.lat1 Attr.at2 Attr.lat2 Attr.at3 Attr.lat3 Attr.at4 Attr.lat4 Attr.at5 Attr.lat5 Attr.at6 Attr.lat6 Attr.at7 Attr.lat7 Attr.at8 Attr.lat8 Attr.at9 Attr.lat9 Attr.sub0_10 Attr.lsub0_10 Attr.len Opt.at0 Opt.lat0 Opt.at1 Opt.lat1 Opt.sub0_2 Opt.lsub0_2 Opt.len Post.at0 Post.lat0 Post.at1 Post.lat1 Post.at2 Post.lat2 Post.at3 Post.lat3 Post.at4 Post.lat4 Post.at5 Post.lat5 Post.at6 Post.lat6 Post.at7 Post.lat7 Post.at8 Post.lat8 Post.at9 Post.lat9 Post.at10 Post.lat10 Post.sub0_11 Post.lsub0_11 Post.sub1_10 Post.lsub1_10 Post.len Wcc.at0 Wcc.lat0 Wcc.at1 Wcc.lat1 Wcc.at2 Wcc.lat2 Wcc.at3 Wcc.lat3 Wcc.at4 Wcc.lat4 Wcc.at5 Wcc.lat5 Wcc.at6 Wcc.lat6 Wcc.at7 Wcc.lat7 Wcc.at8 Wcc.lat8 Wcc.at9 Wcc.lat9 Wcc.at10 Wcc.lat10 Wcc.at11 Wcc.lat11 Wcc.at12 Wcc.lat12 Wcc.sub0_13 Wcc.lsub0_13 Wcc.sub0_2 Wcc.lsub0_2 Wcc.sub2_11 Wcc.lsub2_11 Wcc.sub3_10 Wcc.lsub3_10 Wcc.len

def Attr.bytes (a : Attr) : List UInt8 :=
  num a.type.toNat 4 ++ num a.mode.toNat 4 ++ num a.nlink.toNat 4 ++ num a.uid.toNat 4 ++ num a.gid.toNat 4 ++ num a.size.toNat 8 ++ num a.id.toNat 4 ++ num a.gen.toNat 8 ++ num a.change.toNat 8 ++ num a.time.toNat 8
theorem Attr.bytes_len (a : Attr) : a.bytes.length = 56 := by simp [Attr.bytes, num_len]
/-- numbers, one behind the other -/
def numsOf (L : List Nat) (sz : Nat) : List UInt8 := L.flatMap fun n => num n sz
theorem numsOf_succ (L : List Nat) (sz k : Nat) (hk : k < L.length) : numsOf (L.take (k + 1)) sz = numsOf (L.take k) sz ++ num L[k] sz := by
  unfold numsOf; rw [take_next _ _ hk, List.flatMap_append]; simp
theorem numsOf_len (L : List Nat) (sz : Nat) : (numsOf L sz).length = L.length * sz := by
  induction L with
  | nil => simp [numsOf]
  | cons n L ih => unfold numsOf at *; simp only [List.flatMap_cons, List.length_append, num_len, ih, List.length_cons, Nat.add_mul]; omega
def i64s (L : List Nat) : List Value := L.map fun n : Nat => .int .i64 n
theorem i64s_at (L : List Nat) (k : Nat) (hk : k < L.length) : (i64s L)[k]? = some (.int .i64 L[k]) := by
  unfold i64s; rw [List.getElem?_map, List.getElem?_eq_getElem hk]; rfl
theorem Attr.nats {a : Attr} (h : a.ok = true) (hg : a.good) : ∃ t m k u g s i n c z : Nat, a = ⟨t, m, k, u, g, s, i, n, c, z⟩ ∧ (∀ x ∈ [t, m, k, u, g, i], x < 4294967296) ∧ ∀ x ∈ [s, n, c, z], (x : Int) ≤ 9223372036854775807 := by
  obtain ⟨t, m, k, u, g, s, i, n, c, z⟩ := a
  simp only [Attr.ok, okN, Bool.and_eq_true, decide_eq_true_eq] at h
  obtain ⟨g0, g1, g2, g3, g4, g5, g6, g7, g8, g9⟩ := hg
  have g5 := Go.bounds_i64 g5
  have g7 := Go.bounds_i64 g7
  have g8 := Go.bounds_i64 g8
  have g9 := Go.bounds_i64 g9
  simp only at h g5 g7 g8 g9
  refine ⟨t.toNat, m.toNat, k.toNat, u.toNat, g.toNat, s.toNat, i.toNat, n.toNat, c.toNat, z.toNat, ?_, ?_, ?_⟩
  · simp only [Attr.mk.injEq]; omega
  · intro x hx
    simp only [List.mem_cons, List.not_mem_nil, or_false] at hx
    omega
  · intro x hx
    simp only [List.mem_cons, List.not_mem_nil, or_false] at hx
    omega

end Go.Proofs.YtgifmpobokaejaaGreatDoor


/-
  Layer 5, walks: attributes or none, and what was ahead of a call and behind it, are laid or refused. Conditions: at most 2^39 bytes so far.
-/
namespace Go.Proofs.YtgifmpobokaejaaGreatDoor
open Go.RowKit
attribute [local go_sem ↓] Go.wp_at_zero Go.wp_at_succ
attribute [local go_sem] rowAt_ptr rowOf_drew rowOf_drewN rowOf_alloc_past rowOf_new
attribute [local go_sem ↓] ldAttrR ldOpt ldSet ldPost ldWcc

attribute [local go_sem] Attr.at0 Attr.lat0 Attr.at1 Attr.lat1 Attr.at2 Attr.lat2 Attr.at3 Attr.lat3 Attr.at4 Attr.lat4 Attr.at5 Attr.lat5 Attr.at6 Attr.lat6 Attr.at7 Attr.lat7 Attr.at8 Attr.lat8 Attr.at9 Attr.lat9 Attr.sub0_10 Attr.lsub0_10 Attr.len Opt.at0 Opt.lat0 Opt.at1 Opt.lat1 Opt.sub0_2 Opt.lsub0_2 Opt.len Post.at0 Post.lat0 Post.at1 Post.lat1 Post.at2 Post.lat2 Post.at3 Post.lat3 Post.at4 Post.lat4 Post.at5 Post.lat5 Post.at6 Post.lat6 Post.at7 Post.lat7 Post.at8 Post.lat8 Post.at9 Post.lat9 Post.at10 Post.lat10 Post.sub0_11 Post.lsub0_11 Post.sub1_10 Post.lsub1_10 Post.len Wcc.at0 Wcc.lat0 Wcc.at1 Wcc.lat1 Wcc.at2 Wcc.lat2 Wcc.at3 Wcc.lat3 Wcc.at4 Wcc.lat4 Wcc.at5 Wcc.lat5 Wcc.at6 Wcc.lat6 Wcc.at7 Wcc.lat7 Wcc.at8 Wcc.lat8 Wcc.at9 Wcc.lat9 Wcc.at10 Wcc.lat10 Wcc.at11 Wcc.lat11 Wcc.at12 Wcc.lat12 Wcc.sub0_13 Wcc.lsub0_13 Wcc.sub0_2 Wcc.lsub0_2 Wcc.sub2_11 Wcc.lsub2_11 Wcc.sub3_10 Wcc.lsub3_10 Wcc.len

def Post.bytes (p : Post) : List UInt8 := truth p.is ++ (if p.is then p.attr.bytes else [])
def Wcc.bytes (c : Wcc) : List UInt8 := c.before.bytes ++ c.after.bytes
theorem Post.bytes_len (p : Post) : p.bytes.length ≤ 60 := by
  unfold Post.bytes; cases p.is <;> simp [truth, num_len, Attr.bytes_len]
theorem Wcc.bytes_len (c : Wcc) : c.bytes.length ≤ 72 := by
  have := c.after.bytes_len
  have := c.before.bytes_len
  simp only [Wcc.bytes, List.length_append]; omega

end Go.Proofs.YtgifmpobokaejaaGreatDoor


/-
  Layer 1, walks: the law XdrReads. No condition but machine numbers.
-/
namespace Go.Proofs.YtgifmpobokaejaaGreatDoor
open Go.RowKit
attribute [local go_sem ↓] Go.wp_at_zero Go.wp_at_succ
attribute [local go_sem] rowAt_ptr rowOf_drew rowOf_drewN rowOf_alloc_past rowOf_new
attribute [local go_sem] Thing.tlat0 Thing.tlat1 Thing.tlat2 Thing.tlat3

def otherKind (k : Int) : Prop := k ≠ 1 ∧ k ≠ 2 ∧ k ≠ 3 ∧ k ≠ 4 ∧ k ≠ 5 ∧ k ≠ 6
theorem tTake_other {k n : Int} {r : Rs} (h : otherKind k) : tTake k n r = (⟨k, 0, false, []⟩, r) := by
  obtain ⟨h1, h2, h3, h4, h5, h6⟩ := h
  simp [tTake, h1, h2, h3, h4, h5, h6]
theorem kind_cases (k : Int) : k = 1 ∨ k = 2 ∨ k = 3 ∨ k = 4 ∨ k = 5 ∨ k = 6 ∨ otherKind k := by unfold otherKind; omega
theorem rFixed_len {n : Int} {r : Rs} (h : r.s.length ≤ 9223372036854775807) : (rFixed n r).2.s.length ≤ r.s.length := by
  unfold rFixed; split
  · exact Nat.le_refl _
  · split
    · simp [Rs.fail]
    · exact rPadded_len h
theorem rOpaque_len {n : Int} {r : Rs} (h : r.s.length ≤ 9223372036854775807) : (rOpaque n r).2.s.length ≤ r.s.length := by
  unfold rOpaque; split
  · exact rU32_len h
  · split
    · simp [Rs.fail]
    · exact Nat.le_trans (rPadded_len (Nat.le_trans (rU32_len h) h)) (rU32_len h)
theorem tTake_len {k n : Int} {r : Rs} (h : r.s.length ≤ 9223372036854775807) : (tTake k n r).2.s.length ≤ r.s.length := by
  rcases kind_cases k with rfl | rfl | rfl | rfl | rfl | rfl | hk
  · exact rU32_len h
  · exact rU64_len h
  · exact rBool_len h
  · exact rFixed_len h
  · exact rOpaque_len h
  · exact rOpt_len h
  · rw [tTake_other hk]; exact Nat.le_refl _
end Go.Proofs.YtgifmpobokaejaaGreatDoor


/-
  Layer 1 in plain words: what was written is read again. Conditions: numbers that may be written; texts below 2^32 bytes.
-/
namespace Go.Proofs.YtgifmpobokaejaaGreatDoor

theorem rNum_back (n k : Nat) (rest : List UInt8) (h : n < 256 ^ k) : rNum k ⟨num n k ++ rest, 0⟩ = (n, ⟨rest, 0⟩) := by
  have h1 : (num n k ++ rest).take k = num n k := List.take_left' (num_len n k)
  have h2 : (num n k ++ rest).drop k = rest := List.drop_left' (num_len n k)
  have h3 : ¬ (num n k ++ rest).length < k := by rw [List.length_append, num_len]; omega
  simp only [rNum, ne_eq, not_true_eq_false, if_false]
  rw [if_neg h3, h1, h2, beVal_num n k h]
theorem rU32_back (n : Nat) (rest : List UInt8) (h : n < 4294967296) : rU32 ⟨num n 4 ++ rest, 0⟩ = (n, ⟨rest, 0⟩) := rNum_back n 4 rest h
theorem rU64_back (n : Nat) (rest : List UInt8) (h : n < 9223372036854775808) : rU64 ⟨num n 8 ++ rest, 0⟩ = (n, ⟨rest, 0⟩) := by
  have h1 := rNum_back n 8 rest (by omega)
  simp [rU64, h1]; omega
theorem rBool_back (b : Bool) (rest : List UInt8) : rBool ⟨truth b ++ rest, 0⟩ = (b, ⟨rest, 0⟩) := by
  have h1 := rU32_back (if b then 1 else 0) rest (by split <;> omega)
  unfold rBool truth
  rw [h1]
  cases b <;> simp
theorem rPadded_back (s rest : List UInt8) : rPadded s.length ⟨filled s ++ rest, 0⟩ = (s, ⟨rest, 0⟩) := by
  have hf : filled s ++ rest = s ++ (List.replicate (padn s.length) 0 ++ rest) := by simp [filled]
  have h1 : ¬ (filled s ++ rest).length < s.length := by rw [hf, List.length_append]; omega
  have h2 : (filled s ++ rest).drop s.length = List.replicate (padn s.length) 0 ++ rest := by rw [hf]; exact List.drop_left
  have h3 : (filled s ++ rest).take s.length = s := by rw [hf]; exact List.take_left
  have h4 : ¬ (List.replicate (padn s.length) (0 : UInt8) ++ rest).length < padn s.length := by rw [List.length_append, List.length_replicate]; omega
  have h5 : (List.replicate (padn s.length) (0 : UInt8) ++ rest).take (padn s.length) = List.replicate (padn s.length) 0 := List.take_left' (by simp)
  have h6 : (List.replicate (padn s.length) (0 : UInt8) ++ rest).drop (padn s.length) = rest := List.drop_left' (by simp)
  simp only [rPadded, ne_eq, not_true_eq_false, if_false, h1, h2, h3, h4, h5, h6]
  rw [if_pos]
  simp
theorem rFixed_back (s rest : List UInt8) : rFixed s.length ⟨filled s ++ rest, 0⟩ = (s, ⟨rest, 0⟩) := by
  have hn : ¬ ((s.length : Int) < 0) := by omega
  simp only [rFixed, ne_eq, not_true_eq_false, if_false, hn, Int.toNat_natCast]
  exact rPadded_back s rest
theorem rOpaque_back (s rest : List UInt8) (most : Int) (hs : s.length < 4294967296) (hm : (s.length : Int) ≤ most) : rOpaque most ⟨opq s ++ rest, 0⟩ = (s, ⟨rest, 0⟩) := by
  have h1 : rU32 ⟨opq s ++ rest, 0⟩ = (s.length, ⟨filled s ++ rest, 0⟩) := by
    rw [opq, List.append_assoc]; exact rU32_back _ _ hs
  have h2 : ¬ most < (s.length : Int) := by omega
  simp only [rOpaque, h1, ne_eq, not_true_eq_false, if_false, h2]
  exact rPadded_back s rest
theorem rOpt_back (b : Bool) (n : Int) (rest : List UInt8) (h : b = true → 0 ≤ n) (hn : n ≤ 9223372036854775807) : rOpt ⟨optB b n ++ rest, 0⟩ = ((b, if b then n.toNat else 0), ⟨rest, 0⟩) := by
  cases b
  · have h1 := rBool_back false rest
    simp only [optB, Bool.false_eq_true, if_false, List.append_nil] at *
    simp [rOpt, h1]
  · have h1 := rBool_back true (num n.toNat 8 ++ rest)
    have h2 := rU64_back n.toNat rest (by have := h rfl; omega)
    simp only [optB, if_true, List.append_assoc] at *
    simp [rOpt, h1, h2]

/-- a thing as it is read again -/
def Thing.norm (t : Thing) : Thing :=
  if t.kind = 1 ∨ t.kind = 2 then ⟨t.kind, t.n, false, []⟩
  else if t.kind = 3 then ⟨3, 0, t.is, []⟩
  else if t.kind = 4 ∨ t.kind = 5 then ⟨t.kind, 0, false, t.s⟩
  else if t.kind = 6 then ⟨6, if t.is then t.n else 0, t.is, []⟩
  else t
theorem tTake_back (t : Thing) (rest : List UInt8) (he : t.err = 0) (hk : ¬ otherKind t.kind) (hs : t.s.length ≤ 200) (hn : t.n ≤ 9223372036854775807) :
    tTake t.norm.kind t.s.length ⟨t.bytes ++ rest, 0⟩ = (t.norm, ⟨rest, 0⟩) := by
  obtain ⟨k, n, is, s⟩ := t
  simp only at hs hn hk
  rcases kind_cases k with rfl | rfl | rfl | rfl | rfl | rfl | h
  · simp only [Thing.err, if_true] at he
    have h1 : ¬ (n < 0 ∨ 4294967295 < n) := fun h => by rw [if_pos h] at he; cases he
    obtain ⟨m, rfl⟩ := Int.eq_ofNat_of_zero_le (show 0 ≤ n by omega)
    have := rU32_back m rest (by omega)
    simp [Thing.norm, Thing.bytes, tTake, h1, this]
  · have he : (if n < 0 then (3 : Int) else 0) = 0 := he
    have h1 : ¬ n < 0 := fun h => by rw [if_pos h] at he; cases he
    obtain ⟨m, rfl⟩ := Int.eq_ofNat_of_zero_le (show 0 ≤ n by omega)
    have := rU64_back m rest (by omega)
    simp [Thing.norm, Thing.bytes, tTake, h1, this]
  · have := rBool_back is rest
    simp [Thing.norm, Thing.bytes, tTake, this]
  · have := rFixed_back s rest
    simp [Thing.norm, Thing.bytes, tTake, this]
  · have := rOpaque_back s rest s.length (by omega) (Int.le_refl _)
    simp [Thing.norm, Thing.bytes, tTake, this]
  · have he : (if is = true ∧ n < 0 then (3 : Int) else 0) = 0 := he
    have h1 : ¬ (is = true ∧ n < 0) := fun h => by rw [if_pos h] at he; cases he
    have h2 : is = true → 0 ≤ n := fun h => by
      rcases Int.lt_or_le n 0 with h3 | h3
      · exact absurd ⟨h, h3⟩ h1
      · exact h3
    have := rOpt_back is n rest h2 hn
    have hb : Thing.bytes ⟨6, n, is, s⟩ = optB is n := by simp [Thing.bytes, h1]
    rw [hb]
    cases is
    · simp [Thing.norm, tTake, this]
    · obtain ⟨m, rfl⟩ := Int.eq_ofNat_of_zero_le (h2 rfl)
      simp only [if_true, Int.toNat_natCast] at this
      simp [Thing.norm, tTake, this]
  · exact absurd h hk
theorem Thing.bytes_other {t : Thing} (h : otherKind t.kind) : t.bytes = [] := by
  obtain ⟨h1, h2, h3, h4, h5, h6⟩ := h
  simp [Thing.bytes, h1, h2, h3, h4, h5, h6]
end Go.Proofs.YtgifmpobokaejaaGreatDoor


/-
  Layer 5, walks: what the reference gets. Conditions: a reader at a block of its own; texts are machine texts.
-/
namespace Go.Proofs.YtgifmpobokaejaaGreatDoor
open Go.RowKit
attribute [local go_sem ↓] Go.wp_at_zero Go.wp_at_succ
attribute [local go_sem] rowAt_ptr rowOf_drew rowOf_drewN rowOf_alloc_past rowOf_new
attribute [local go_sem ↓] ldAttrR ldOpt ldSet ldPost ldWcc

attribute [local go_sem] Attr.at0 Attr.lat0 Attr.at1 Attr.lat1 Attr.at2 Attr.lat2 Attr.at3 Attr.lat3 Attr.at4 Attr.lat4 Attr.at5 Attr.lat5 Attr.at6 Attr.lat6 Attr.at7 Attr.lat7 Attr.at8 Attr.lat8 Attr.at9 Attr.lat9 Attr.sub0_10 Attr.lsub0_10 Attr.len Opt.at0 Opt.lat0 Opt.at1 Opt.lat1 Opt.sub0_2 Opt.lsub0_2 Opt.len Sett.at0 Sett.lat0 Sett.at1 Sett.lat1 Sett.at2 Sett.lat2 Sett.at3 Sett.lat3 Sett.at4 Sett.lat4 Sett.at5 Sett.lat5 Sett.at6 Sett.lat6 Sett.at7 Sett.lat7 Sett.at8 Sett.lat8 Sett.at9 Sett.lat9 Sett.sub0_10 Sett.lsub0_10 Sett.sub0_2 Sett.lsub0_2 Sett.sub2_2 Sett.lsub2_2 Sett.sub4_2 Sett.lsub4_2 Sett.sub6_2 Sett.lsub6_2 Sett.sub8_2 Sett.lsub8_2 Sett.len Post.at0 Post.lat0 Post.at1 Post.lat1 Post.at2 Post.lat2 Post.at3 Post.lat3 Post.at4 Post.lat4 Post.at5 Post.lat5 Post.at6 Post.lat6 Post.at7 Post.lat7 Post.at8 Post.lat8 Post.at9 Post.lat9 Post.at10 Post.lat10 Post.sub0_11 Post.lsub0_11 Post.sub1_10 Post.lsub1_10 Post.len Wcc.at0 Wcc.lat0 Wcc.at1 Wcc.lat1 Wcc.at2 Wcc.lat2 Wcc.at3 Wcc.lat3 Wcc.at4 Wcc.lat4 Wcc.at5 Wcc.lat5 Wcc.at6 Wcc.lat6 Wcc.at7 Wcc.lat7 Wcc.at8 Wcc.lat8 Wcc.at9 Wcc.lat9 Wcc.at10 Wcc.lat10 Wcc.at11 Wcc.lat11 Wcc.at12 Wcc.lat12 Wcc.sub0_13 Wcc.lsub0_13 Wcc.sub0_2 Wcc.lsub0_2 Wcc.sub2_11 Wcc.lsub2_11 Wcc.sub3_10 Wcc.lsub3_10 Wcc.len optV

theorem infoAttrR : (Tryz.prog.info? 40).map (fun i => (i.zero, i.size)) = some (some (.agg attrZ.vals.toArray), 10) := by kernel_rfl
theorem infoPostR : (Tryz.prog.info? 42).map (fun i => (i.zero, i.size)) = some (some (.agg postZ.vals.toArray), 11) := by kernel_rfl
end Go.Proofs.YtgifmpobokaejaaGreatDoor


/-
  Layer 7, walks: the field of a letter is taken (written by wip/tools/gentaken.py). Conditions: a reader and a call at blocks of their own; machine texts.
-/
namespace Go.Proofs.YtgifmpobokaejaaGreatDoor
open Go.RowKit
attribute [local go_sem ↓] Go.wp_at_zero Go.wp_at_succ
attribute [local go_sem] rowAt_ptr rowOf_drew rowOf_drewN rowOf_alloc_past rowOf_new
attribute [local go_sem ↓] ldSet ldOpt

theorem infoSettM : (Tryz.prog.info? 32).map (fun i => (i.zero, i.size)) = some (some (.agg settZ.vals.toArray), 10) := by kernel_rfl
/-- the field of a letter is taken -/
def cTk (c : Nat) (z : Call) (r : Rs) : Call × Rs :=
  if c = 102 then ({ z with fh := (rOpaque 64 r).1 }, (rOpaque 64 r).2) else
  if c = 70 then ({ z with fh2 := (rOpaque 64 r).1 }, (rOpaque 64 r).2) else
  if c = 110 then ({ z with name := (rOpaque 255 r).1 }, (rOpaque 255 r).2) else
  if c = 78 then ({ z with name2 := (rOpaque 255 r).1 }, (rOpaque 255 r).2) else
  if c = 116 then ({ z with text := (rOpaque 255 r).1 }, (rOpaque 255 r).2) else
  if c = 100 then ({ z with data := (rOpaque 256 r).1 }, (rOpaque 256 r).2) else
  if c = 111 then ({ z with offset := (rU64 r).1 }, (rU64 r).2) else
  if c = 107 then ({ z with cookie := (rU64 r).1 }, (rU64 r).2) else
  if c = 118 then ({ z with verf := (rU64 r).1 }, (rU64 r).2) else
  if c = 99 then ({ z with count := (rU32 r).1 }, (rU32 r).2) else
  if c = 104 then ({ z with how := (rU32 r).1 }, (rU32 r).2) else
  if c = 115 then ({ z with set := (gotR Sett.ok settZ (rSett r)).1 }, (rSett r).2) else
  if c = 103 then ({ z with guard := optOf (rOpt r).1 }, (rOpt r).2) else (z, r)
/-- may it be -/
def cTkOk (c : Nat) (r : Rs) : Bool := if c = 115 then (gotR Sett.ok settZ (rSett r)).2 == 0 else (cTk c callZ r).2.e == 0
end Go.Proofs.YtgifmpobokaejaaGreatDoor