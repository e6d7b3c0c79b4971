/-
  Layer 7, walks: why a call may not be. No condition.
-/
import Derived.Test.YtjepemfllgjhfaaCallWalkE
namespace Go.Proofs.Ytjepemfllgjhfaa
open Go.RowKit
attribute [local go_sem ↓] Go.wp_at_zero Go.wp_at_succ
attribute [local go_sem] rowAt_ptr rowOf_drew rowOf_drewN rowOf_alloc_past rowOf_new
theorem ldCall {ρ : Operand → Value} {w : World} {dst : Option Tmp} {ty : TypeId} {pos : String} {after : Array Edge} {g : Option (Nat × Bool)} {x : Operand} (h : (rowAt w 24 (ρ x)).isSome = true) :
    (execOp ρ ⟨dst, .load 89 x, ty, pos, after, g⟩).run Try.prog w = .ok (.value (.agg ((rowAt w 24 (ρ x)).getD #[]))) w := ex_load 89 24 Try.underlying89 rfl (by kernel_rfl) h
attribute [local go_sem ↓] ldSet ldOpt ldCall

attribute [local go_sem] Call.at0 Call.lat0 Call.at1 Call.lat1 Call.at2 Call.lat2 Call.at3 Call.lat3 Call.at4 Call.lat4 Call.at5 Call.lat5 Call.at6 Call.lat6 Call.at7 Call.lat7 Call.at8 Call.lat8 Call.at9 Call.lat9 Call.at10 Call.lat10 Call.at11 Call.lat11 Call.at12 Call.lat12 Call.at13 Call.lat13 Call.at14 Call.lat14 Call.at15 Call.lat15 Call.at16 Call.lat16 Call.at17 Call.lat17 Call.at18 Call.lat18 Call.at19 Call.lat19 Call.at20 Call.lat20 Call.at21 Call.lat21 Call.at22 Call.lat22 Call.at23 Call.lat23 Call.sub0_24 Call.lsub0_24 Call.sub9_10 Call.lsub9_10 Call.sub9_2 Call.lsub9_2 Call.sub11_2 Call.lsub11_2 Call.sub13_2 Call.lsub13_2 Call.sub15_2 Call.lsub15_2 Call.sub17_2 Call.lsub17_2 Call.sub19_2 Call.lsub19_2 Call.len Sett.at0 Sett.lat0 Sett.at1 Sett.lat1 Sett.at2 Sett.lat2 Sett.at3 Sett.lat3 Sett.at4 Sett.lat4 Sett.at5 Sett.lat5 Sett.at6 Sett.lat6 Sett.at7 Sett.lat7 Sett.at8 Sett.lat8 Sett.at9 Sett.lat9 Sett.sub0_10 Sett.lsub0_10 Sett.sub0_2 Sett.lsub0_2 Sett.sub2_2 Sett.lsub2_2 Sett.sub4_2 Sett.lsub4_2 Sett.sub6_2 Sett.lsub6_2 Sett.sub8_2 Sett.lsub8_2 Sett.len Opt.at0 Opt.lat0 Opt.at1 Opt.lat1 Opt.sub0_2 Opt.lsub0_2 Opt.len

def callZ : Call := ⟨0, [], [], [], [], 0, 0, 0, [], ⟨⟨false, 0⟩, ⟨false, 0⟩, ⟨false, 0⟩, ⟨false, 0⟩, ⟨false, 0⟩⟩, ⟨false, 0⟩, 0, 0, []⟩
theorem infoCall : (Try.prog.info? 89).map (fun i => (i.zero, i.size)) = some (some (.agg callZ.vals.toArray), 24) := by kernel_rfl
theorem guardCall : Try.prog.eqGuardType Try.prog.depth 89 = false := by kernel_rfl
def lfCall : List Leaf := [.i .i64, .s, .s, .s, .s, .i .i64, .i .i64, .i .i64, .s, .b, .i .i64, .b, .i .i64, .b, .i .i64, .b, .i .i64, .b, .i .i64, .b, .i .i64, .i .i64, .i .i64, .s]
theorem leafsCall : leafs Try.prog 8 89 = some lfCall := by kernel_rfl
theorem Call.inj {x y : Call} (h : x.vals = y.vals) : x = y := by
  obtain ⟨_, _, _, _, _, _, _, _, _, ⟨⟨_, _⟩, ⟨_, _⟩, ⟨_, _⟩, ⟨_, _⟩, ⟨_, _⟩⟩, ⟨_, _⟩, _, _, _⟩ := x
  obtain ⟨_, _, _, _, _, _, _, _, _, ⟨⟨_, _⟩, ⟨_, _⟩, ⟨_, _⟩, ⟨_, _⟩, ⟨_, _⟩⟩, ⟨_, _⟩, _, _, _⟩ := y
  simp only [Call.vals, Sett.vals, Opt.vals, List.cons_append, List.nil_append, List.cons.injEq, Value.int.injEq, Value.bool.injEq, Value.string.injEq, true_and, and_true] at h
  obtain ⟨h0, h1, h2, h3, h4, h5, h6, h7, h8, h9, h10, h11, h12, h13, h14, h15, h16, h17, h18, h19, h20, h21, h22, h23⟩ := h
  have h1 := bs_inj h1
  have h2 := bs_inj h2
  have h3 := bs_inj h3
  have h4 := bs_inj h4
  have h8 := bs_inj h8
  have h23 := bs_inj h23
  subst_vars
  rfl
theorem neqCallS (x y : Call) (h : x = y) (w : World) : (binOp .neq 89 (.agg x.vals.toArray) (.agg y.vals.toArray)).run Try.prog w = .ok (.bool false) w := neq_same leafsCall (by kernel_rfl) w _ _ (by rfl) (by rw [h])
theorem neqCallO (x y : Call) (h : x ≠ y) (w : World) : (binOp .neq 89 (.agg x.vals.toArray) (.agg y.vals.toArray)).run Try.prog w = .ok (.bool true) w := neq_other leafsCall (by kernel_rfl) w _ _ (by rfl) (by rfl) (fun e => h (Call.inj e))

attribute [local go_sem] guardCall

theorem neqCall (x y : Call) (w : World) : (binOp .neq 89 (.agg x.vals.toArray) (.agg y.vals.toArray)).run Try.prog w = .ok (.bool (decide (x ≠ y))) w := by
  by_cases h : x = y
  · rw [neqCallS x y h, decide_eq_false (by simpa using h)]
  · rw [neqCallO x y h, decide_eq_true h]
attribute [local go_sem ↓] neqCall

def cThere (p : Int) : Bool := decide (0 ≤ p) && decide (p ≤ 21)
theorem there_any (p : Int) (w : World) : Calls Try.prog 68 #[.int .i64 p] w fun e w' => e = .returned (.bool (cThere p)) ∧ w = w' := by
  go_enter Try.func68, Try.ntmps68
  go_wp2
  all_goals (go_ret; go_light; exact ⟨ret_bool (by unfold cThere; grind), rfl⟩)
/-- may each letter's field be? -/
def cMayAll (x : Call) (l : List UInt8) : Bool := l.all fun c => cMay x c.toNat
/-- why a call may not be -/
def cCheck (x : Call) : Int :=
  if cThere x.proc = false then 22
  else if cMayAll x (cFields x.proc) = true ∧ cTaken x (cFields x.proc) { callZ with proc := x.proc } (cFields x.proc).length = x then 0 else 14

set_option maxRecDepth 20000 in
set_option maxHeartbeats 400000 in
theorem check7_any (x : Call) (w : World) : Calls Try.prog 56 #[.agg x.vals.toArray] w fun e w' => e = .returned (.int .i64 (cCheck x)) ∧ Below w.heap.size w w' := by
  have hb := Blk.new w 89 x.vals
  have hB : Below w.heap.size w (w.alloc (.cells x.vals.toArray 89)) := (Below.refl _ _).alloc (Nat.le_refl _) _
  have hc := hb.cell
  have hcf : ∀ args W, (callFunc 69 args).run Try.prog W = .ok (.enter 69 args) W := fun args W => by kernel_rfl
  cases ht : cThere x.proc with
  | false =>
    have HS := Lib.hid (show cCheck x = 22 by simp [cCheck, ht])
    go_enter Try.func56, Try.ntmps56
    go_wp2_with fail
    refine (there_any _ _).mono ?_
    rintro e w1 ⟨rfl, rfl⟩
    rw [ht]
    go_wp2
    go_ret
    rw [HS.out]
    exact ⟨rfl, hB⟩
  | true =>
    have HS := Lib.hid (show cCheck x = if cMayAll x (cFields x.proc) = true ∧ cTaken x (cFields x.proc) { callZ with proc := x.proc } (cFields x.proc).length = x then 0 else 14 by simp [cCheck, ht])
    go_enter Try.func56, Try.ntmps56
    go_wp2_with fail
    refine (there_any _ _).mono ?_
    rintro e w1 ⟨rfl, rfl⟩
    rw [ht]
    have hsz : (w.alloc (.cells x.vals.toArray 89)).heap.size = w.heap.size + 1 := by simp
    generalize w.alloc (.cells x.vals.toArray 89) = w1 at *
    obtain ⟨z, hz⟩ : ∃ z : Call, z = { callZ with proc := x.proc } := ⟨_, rfl⟩
    have hA := Blk.new w1 89 z.vals
    have hX := hb.alloc (.cells z.vals.toArray 89)
    have hB2 := hB.alloc hB.size (.cells z.vals.toArray 89)
    obtain ⟨w2, hw2⟩ : ∃ u, u = w1.alloc (.cells z.vals.toArray 89) := ⟨_, rfl⟩
    rw [← hw2] at hA hX hB2
    have hc2 := hX.cell
    have HW := Lib.hid hw2
    have HZ := Lib.hid hz
    rw [← hz] at HS
    rw [hsz] at hA
    clear hw2 hz hb hB
    go_wp2_with (first | (refine wpList_new_struct (by rfl) (by rfl) 89 (by rfl) _ _ (by rfl) z.vals infoCall (by rfl) (by rfl) (Call.one _) (by rfl) (by rw [HZ.out]; rfl) ?_; rw [← HW.out]) | fail)
    refine (each_any x.proc 69 [.pointer (some ⟨w.heap.size + 1, 0, none⟩), .pointer (some ⟨w.heap.size, 0, none⟩)] w2 (fun k => cMay x ((cFields x.proc).getD k 0).toNat) (Looked w (w.heap.size + 1) w.heap.size x (cFields x.proc) z) hcf ?_ ?_ ?_).mono ?_
    · exact fun W h => ⟨hA.stays h, hX.stays h, below_then hB2 h⟩
    · exact fun k W b l pos pos' hb h hI => ⟨h.A.farIter (h.A.ne_itr hI) _ _, h.X.farIter (h.X.ne_itr hI) _ _, Below.setIter h.B (by have := hB2.size; omega) _ _⟩
    · intro k hk W hS
      have hg : (cFields x.proc).getD k 0 = (cFields x.proc)[k] := by simp [List.getD, List.getElem?_eq_getElem hk]
      simp only [hg]
      exact check1_any w _ _ (by omega) (Nat.le_refl _) (by omega) x z _ k hk (cFields_letter _ hk) W hS
    · rintro e w5 ⟨m, hS, hcase⟩
      clear hA hX hB2 hc2 hc hcf
      have hl : ∀ k (hk : k < (cFields x.proc).length), (cFields x.proc).getD k 0 = (cFields x.proc)[k] := fun k hk => by simp [List.getD, List.getElem?_eq_getElem hk]
      generalize cFields x.proc = l at *
      have rX : rowOf w5 w.heap.size 0 24 = some x.vals.toArray := hS.X.row 0 24 (by simp [Call.len])
      have rA : rowOf w5 (w.heap.size + 1) 0 24 = some (cTaken x l z m).vals.toArray := hS.A.row 0 24 (by simp [Call.len])
      have HB := Lib.hid hS.B
      rcases hcase with ⟨rfl, hall, rfl⟩ | ⟨j, rfl, hj, hok, hbad, rfl⟩
      · have hma : cMayAll x l = true := by
          rw [cMayAll, List.all_eq_true]
          intro c hc
          obtain ⟨k, hk, rfl⟩ := List.getElem_of_mem hc
          have := hall k hk
          simp only [hl k hk] at this
          exact this
        rw [hma] at HS
        generalize cTaken x l z l.length = y at *
        clear hall hl hS
        by_cases he : y = x
        · have hn : decide (y ≠ x) = false := decide_eq_false (by simpa using he)
          have HV := Lib.hid (HS.out.trans (if_pos ⟨rfl, he⟩))
          clear HZ
          go_wp2
          go_ret
          rw [HV.out]
          exact ⟨rfl, HB.out⟩
        · have hn : decide (y ≠ x) = true := decide_eq_true he
          have HV := Lib.hid (HS.out.trans (if_neg (fun h => he h.2)))
          clear HZ
          go_wp2
          go_ret
          rw [HV.out]
          exact ⟨rfl, HB.out⟩
      · have HV := Lib.hid (HS.out.trans (if_neg (fun h => by
          have h1 := h.1
          rw [cMayAll, List.all_eq_true] at h1
          have := h1 l[j] (List.getElem_mem hj)
          simp only [hl j hj] at hbad
          rw [hbad] at this
          cases this)))
        clear hS hl hok hbad rX rA
        go_wp2
        go_ret
        rw [HV.out]
        exact ⟨rfl, HB.out⟩
end Go.Proofs.Ytjepemfllgjhfaa
