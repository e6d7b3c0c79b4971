/-
  Layer 7, walks: why a call may not be. No condition.
-/
import Derived.Test.YthfhdighniiodaaDoorC12
namespace Go.Proofs.YthfhdighniiodaaDoor
open Go.RowKit
attribute [local go_sem ↓] Go.wp_at_zero Go.wp_at_succ
attribute [local go_sem] rowAt_ptr rowOf_drew rowOf_drewN rowOf_alloc_past rowOf_new
theorem ldCall {ρ : Operand → Value} {w : World} {dst : Option Tmp} {ty : TypeId} {pos : String} {after : Array Edge} {g : Option (Nat × Bool)} {x : Operand} (h : (rowAt w 24 (ρ x)).isSome = true) :
    (execOp ρ ⟨dst, .load 57 x, ty, pos, after, g⟩).run Tryd.prog w = .ok (.value (.agg ((rowAt w 24 (ρ x)).getD #[]))) w := ex_load 57 24 Tryd.underlying57 rfl (by kernel_rfl) h
attribute [local go_sem ↓] ldSet ldOpt ldCall

attribute [local go_sem] Call.at0 Call.lat0 Call.at1 Call.lat1 Call.at2 Call.lat2 Call.at3 Call.lat3 Call.at4 Call.lat4 Call.at5 Call.lat5 Call.at6 Call.lat6 Call.at7 Call.lat7 Call.at8 Call.lat8 Call.at9 Call.lat9 Call.at10 Call.lat10 Call.at11 Call.lat11 Call.at12 Call.lat12 Call.at13 Call.lat13 Call.at14 Call.lat14 Call.at15 Call.lat15 Call.at16 Call.lat16 Call.at17 Call.lat17 Call.at18 Call.lat18 Call.at19 Call.lat19 Call.at20 Call.lat20 Call.at21 Call.lat21 Call.at22 Call.lat22 Call.at23 Call.lat23 Call.sub0_24 Call.lsub0_24 Call.sub9_10 Call.lsub9_10 Call.sub9_2 Call.lsub9_2 Call.sub11_2 Call.lsub11_2 Call.sub13_2 Call.lsub13_2 Call.sub15_2 Call.lsub15_2 Call.sub17_2 Call.lsub17_2 Call.sub19_2 Call.lsub19_2 Call.len Sett.at0 Sett.lat0 Sett.at1 Sett.lat1 Sett.at2 Sett.lat2 Sett.at3 Sett.lat3 Sett.at4 Sett.lat4 Sett.at5 Sett.lat5 Sett.at6 Sett.lat6 Sett.at7 Sett.lat7 Sett.at8 Sett.lat8 Sett.at9 Sett.lat9 Sett.sub0_10 Sett.lsub0_10 Sett.sub0_2 Sett.lsub0_2 Sett.sub2_2 Sett.lsub2_2 Sett.sub4_2 Sett.lsub4_2 Sett.sub6_2 Sett.lsub6_2 Sett.sub8_2 Sett.lsub8_2 Sett.len Opt.at0 Opt.lat0 Opt.at1 Opt.lat1 Opt.sub0_2 Opt.lsub0_2 Opt.len

def callZ : Call := ⟨0, [], [], [], [], 0, 0, 0, [], ⟨⟨false, 0⟩, ⟨false, 0⟩, ⟨false, 0⟩, ⟨false, 0⟩, ⟨false, 0⟩⟩, ⟨false, 0⟩, 0, 0, []⟩
theorem infoCall : (Tryd.prog.info? 57).map (fun i => (i.zero, i.size)) = some (some (.agg callZ.vals.toArray), 24) := by kernel_rfl
theorem guardCall : Tryd.prog.eqGuardType Tryd.prog.depth 57 = false := by kernel_rfl
def lfCall : List Leaf := [.i .i64, .s, .s, .s, .s, .i .i64, .i .i64, .i .i64, .s, .b, .i .i64, .b, .i .i64, .b, .i .i64, .b, .i .i64, .b, .i .i64, .b, .i .i64, .i .i64, .i .i64, .s]
theorem leafsCall : leafs Tryd.prog 8 57 = some lfCall := by kernel_rfl
theorem Call.inj {x y : Call} (h : x.vals = y.vals) : x = y := by
  obtain ⟨_, _, _, _, _, _, _, _, _, ⟨⟨_, _⟩, ⟨_, _⟩, ⟨_, _⟩, ⟨_, _⟩, ⟨_, _⟩⟩, ⟨_, _⟩, _, _, _⟩ := x
  obtain ⟨_, _, _, _, _, _, _, _, _, ⟨⟨_, _⟩, ⟨_, _⟩, ⟨_, _⟩, ⟨_, _⟩, ⟨_, _⟩⟩, ⟨_, _⟩, _, _, _⟩ := y
  simp only [Call.vals, Sett.vals, Opt.vals, List.cons_append, List.nil_append, List.cons.injEq, Value.int.injEq, Value.bool.injEq, Value.string.injEq, true_and, and_true] at h
  obtain ⟨h0, h1, h2, h3, h4, h5, h6, h7, h8, h9, h10, h11, h12, h13, h14, h15, h16, h17, h18, h19, h20, h21, h22, h23⟩ := h
  have h1 := bs_inj h1
  have h2 := bs_inj h2
  have h3 := bs_inj h3
  have h4 := bs_inj h4
  have h8 := bs_inj h8
  have h23 := bs_inj h23
  subst_vars
  rfl
theorem neqCallS (x y : Call) (h : x = y) (w : World) : (binOp .neq 57 (.agg x.vals.toArray) (.agg y.vals.toArray)).run Tryd.prog w = .ok (.bool false) w := neq_same leafsCall (by kernel_rfl) w _ _ (by rfl) (by rw [h])
theorem neqCallO (x y : Call) (h : x ≠ y) (w : World) : (binOp .neq 57 (.agg x.vals.toArray) (.agg y.vals.toArray)).run Tryd.prog w = .ok (.bool true) w := neq_other leafsCall (by kernel_rfl) w _ _ (by rfl) (by rfl) (fun e => h (Call.inj e))

attribute [local go_sem] guardCall

theorem neqCall (x y : Call) (w : World) : (binOp .neq 57 (.agg x.vals.toArray) (.agg y.vals.toArray)).run Tryd.prog w = .ok (.bool (decide (x ≠ y))) w := by
  by_cases h : x = y
  · rw [neqCallS x y h, decide_eq_false (by simpa using h)]
  · rw [neqCallO x y h, decide_eq_true h]
attribute [local go_sem ↓] neqCall

def cThere (p : Int) : Bool := decide (0 ≤ p) && decide (p ≤ 21)
theorem there_any (p : Int) (w : World) : Calls Tryd.prog 74 #[.int .i64 p] w fun e w' => e = .returned (.bool (cThere p)) ∧ w = w' := by
  go_enter Tryd.func74, Tryd.ntmps74
  go_wp2
  all_goals (go_ret; go_light; exact ⟨ret_bool (by unfold cThere; grind), rfl⟩)
/-- may each letter's field be? -/
def cMayAll (x : Call) (l : List UInt8) : Bool := l.all fun c => cMay x c.toNat
/-- why a call may not be -/
def cCheck (x : Call) : Int :=
  if cThere x.proc = false then 22
  else if cMayAll x (cFields x.proc) = true ∧ cTaken x (cFields x.proc) { callZ with proc := x.proc } (cFields x.proc).length = x then 0 else 14

set_option maxRecDepth 20000 in
set_option maxHeartbeats 400000 in
theorem check7_any (x : Call) (w : World) : Calls Tryd.prog 31 #[.agg x.vals.toArray] w fun e w' => e = .returned (.int .i64 (cCheck x)) ∧ Below w.heap.size w w' := by
  have hb := Blk.new w 57 x.vals
  have hB : Below w.heap.size w (w.alloc (.cells x.vals.toArray 57)) := (Below.refl _ _).alloc (Nat.le_refl _) _
  have hc := hb.cell
  have hcf : ∀ args W, (callFunc 75 args).run Tryd.prog W = .ok (.enter 75 args) W := fun args W => by kernel_rfl
  cases ht : cThere x.proc with
  | false =>
    have HS := Lib.hid (show cCheck x = 22 by simp [cCheck, ht])
    go_enter Tryd.func31, Tryd.ntmps31
    go_wp2_with fail
    refine (there_any _ _).mono ?_
    rintro e w1 ⟨rfl, rfl⟩
    rw [ht]
    go_wp2
    go_ret
    rw [HS.out]
    exact ⟨rfl, hB⟩
  | true =>
    have HS := Lib.hid (show cCheck x = if cMayAll x (cFields x.proc) = true ∧ cTaken x (cFields x.proc) { callZ with proc := x.proc } (cFields x.proc).length = x then 0 else 14 by simp [cCheck, ht])
    go_enter Tryd.func31, Tryd.ntmps31
    go_wp2_with fail
    refine (there_any _ _).mono ?_
    rintro e w1 ⟨rfl, rfl⟩
    rw [ht]
    have hsz : (w.alloc (.cells x.vals.toArray 57)).heap.size = w.heap.size + 1 := by simp
    generalize w.alloc (.cells x.vals.toArray 57) = w1 at *
    obtain ⟨z, hz⟩ : ∃ z : Call, z = { callZ with proc := x.proc } := ⟨_, rfl⟩
    have hA := Blk.new w1 57 z.vals
    have hX := hb.alloc (.cells z.vals.toArray 57)
    have hB2 := hB.alloc hB.size (.cells z.vals.toArray 57)
    obtain ⟨w2, hw2⟩ : ∃ u, u = w1.alloc (.cells z.vals.toArray 57) := ⟨_, rfl⟩
    rw [← hw2] at hA hX hB2
    have hc2 := hX.cell
    have HW := Lib.hid hw2
    have HZ := Lib.hid hz
    rw [← hz] at HS
    rw [hsz] at hA
    clear hw2 hz hb hB
    go_wp2_with (first | (refine wpList_new_struct (by rfl) (by rfl) 57 (by rfl) _ _ (by rfl) z.vals infoCall (by rfl) (by rfl) (Call.one _) (by rfl) (by rw [HZ.out]; rfl) ?_; rw [← HW.out]) | fail)
    refine (each_any x.proc 75 [.pointer (some ⟨w.heap.size + 1, 0, none⟩), .pointer (some ⟨w.heap.size, 0, none⟩)] w2 (fun k => cMay x ((cFields x.proc).getD k 0).toNat) (Looked w (w.heap.size + 1) w.heap.size x (cFields x.proc) z) hcf ?_ ?_ ?_).mono ?_
    · exact fun W h => ⟨hA.stays h, hX.stays h, below_then hB2 h⟩
    · exact fun k W b l pos pos' hb h hI => ⟨h.A.farIter (h.A.ne_itr hI) _ _, h.X.farIter (h.X.ne_itr hI) _ _, Below.setIter h.B (by have := hB2.size; omega) _ _⟩
    · intro k hk W hS
      have hg : (cFields x.proc).getD k 0 = (cFields x.proc)[k] := by simp [List.getD, List.getElem?_eq_getElem hk]
      simp only [hg]
      exact check1_any w _ _ (by omega) (Nat.le_refl _) (by omega) x z _ k hk (cFields_letter _ hk) W hS
    · rintro e w5 ⟨m, hS, hcase⟩
      clear hA hX hB2 hc2 hc hcf
      have hl : ∀ k (hk : k < (cFields x.proc).length), (cFields x.proc).getD k 0 = (cFields x.proc)[k] := fun k hk => by simp [List.getD, List.getElem?_eq_getElem hk]
      generalize cFields x.proc = l at *
      have rX : rowOf w5 w.heap.size 0 24 = some x.vals.toArray := hS.X.row 0 24 (by simp [Call.len])
      have rA : rowOf w5 (w.heap.size + 1) 0 24 = some (cTaken x l z m).vals.toArray := hS.A.row 0 24 (by simp [Call.len])
      have HB := Lib.hid hS.B
      rcases hcase with ⟨rfl, hall, rfl⟩ | ⟨j, rfl, hj, hok, hbad, rfl⟩
      · have hma : cMayAll x l = true := by
          rw [cMayAll, List.all_eq_true]
          intro c hc
          obtain ⟨k, hk, rfl⟩ := List.getElem_of_mem hc
          have := hall k hk
          simp only [hl k hk] at this
          exact this
        rw [hma] at HS
        generalize cTaken x l z l.length = y at *
        clear hall hl hS
        by_cases he : y = x
        · have hn : decide (y ≠ x) = false := decide_eq_false (by simpa using he)
          have HV := Lib.hid (HS.out.trans (if_pos ⟨rfl, he⟩))
          clear HZ
          go_wp2
          go_ret
          rw [HV.out]
          exact ⟨rfl, HB.out⟩
        · have hn : decide (y ≠ x) = true := decide_eq_true he
          have HV := Lib.hid (HS.out.trans (if_neg (fun h => he h.2)))
          clear HZ
          go_wp2
          go_ret
          rw [HV.out]
          exact ⟨rfl, HB.out⟩
      · have HV := Lib.hid (HS.out.trans (if_neg (fun h => by
          have h1 := h.1
          rw [cMayAll, List.all_eq_true] at h1
          have := h1 l[j] (List.getElem_mem hj)
          simp only [hl j hj] at hbad
          rw [hbad] at this
          cases this)))
        clear hS hl hok hbad rX rA
        go_wp2
        go_ret
        rw [HV.out]
        exact ⟨rfl, HB.out⟩
end Go.Proofs.YthfhdighniiodaaDoor

/-
  Layer 7, walks of the document's own: has, text, num, There, Large. No condition but machine texts.
-/
namespace Go.Proofs.YthfhdighniiodaaDoor
open Go.RowKit
attribute [local go_sem ↓] Go.wp_at_zero Go.wp_at_succ
attribute [local go_sem] rowAt_ptr rowOf_drew rowOf_drewN rowOf_alloc_past rowOf_new
attribute [local go_sem] Call.at0 Call.lat0 Call.at1 Call.lat1 Call.at2 Call.lat2 Call.at3 Call.lat3 Call.at4 Call.lat4 Call.at5 Call.lat5 Call.at6 Call.lat6 Call.at7 Call.lat7 Call.at8 Call.lat8 Call.at9 Call.lat9 Call.at10 Call.lat10 Call.at11 Call.lat11 Call.at12 Call.lat12 Call.at13 Call.lat13 Call.at14 Call.lat14 Call.at15 Call.lat15 Call.at16 Call.lat16 Call.at17 Call.lat17 Call.at18 Call.lat18 Call.at19 Call.lat19 Call.at20 Call.lat20 Call.at21 Call.lat21 Call.at22 Call.lat22 Call.at23 Call.lat23 Call.sub0_24 Call.lsub0_24 Call.sub9_10 Call.lsub9_10 Call.sub9_2 Call.lsub9_2 Call.sub11_2 Call.lsub11_2 Call.sub13_2 Call.lsub13_2 Call.sub15_2 Call.lsub15_2 Call.sub17_2 Call.lsub17_2 Call.sub19_2 Call.lsub19_2 Call.len Sett.at0 Sett.lat0 Sett.at1 Sett.lat1 Sett.at2 Sett.lat2 Sett.at3 Sett.lat3 Sett.at4 Sett.lat4 Sett.at5 Sett.lat5 Sett.at6 Sett.lat6 Sett.at7 Sett.lat7 Sett.at8 Sett.lat8 Sett.at9 Sett.lat9 Sett.sub0_10 Sett.lsub0_10 Sett.sub0_2 Sett.lsub0_2 Sett.sub2_2 Sett.lsub2_2 Sett.sub4_2 Sett.lsub4_2 Sett.sub6_2 Sett.lsub6_2 Sett.sub8_2 Sett.lsub8_2 Sett.len Opt.at0 Opt.lat0 Opt.at1 Opt.lat1 Opt.sub0_2 Opt.lsub0_2 Opt.len

set_option maxHeartbeats 800000 in
theorem refHas7_any (l : List UInt8) (c : UInt8) (w : World) (hl : l.length ≤ 1000) : Calls Tryd.prog 109 #[.string (bs l), .int .u8 c.toNat] w fun e w' => e = .returned (.bool (l.contains c)) ∧ w = w' := by
  have hsz := bs_size l
  go_enter Tryd.func109, Tryd.ntmps109
  go_wp2
  go_loopw [5] (fun iv wr => ∃ k : Nat, k ≤ l.length ∧ iv = .int .i64 k ∧ (∀ j (hj : j < l.length), j < k → l[j] ≠ c) ∧ wr = w) (fun iv _ => l.length - (intOf iv).toNat)
  case atStart => exact ⟨0, Nat.zero_le _, rfl, fun _ _ h => absurd h (Nat.not_lt_zero _), rfl⟩
  case round =>
    obtain ⟨k, hk, rfl, hno, rfl⟩ := hrel
    by_cases hlt : k < l.length
    · by_cases he : l[k] = c
      · have HC := Lib.hid (show l.contains c = true by rw [List.contains_iff_mem, ← he]; exact List.getElem_mem hlt)
        have hq : ((((bs l)[k]'(by rw [hsz]; exact hlt)).toNat : Int) == (c.toNat : Int)) = true := by rw [bs_get, he]; simp
        go_wp2
        go_ret
        rw [HC.out]
        exact ⟨rfl, rfl⟩
      · have hq : ((((bs l)[k]'(by rw [hsz]; exact hlt)).toNat : Int) == (c.toNat : Int)) = false := beq_false_of_ne fun h => he (UInt8.toNat_inj.1 (by rw [bs_get] at h; omega))
        have HN := Lib.hid (show ∀ j (hj : j < l.length), j < k + 1 → l[j] ≠ c from fun j hj h => by
          rcases Nat.lt_or_ge j k with h3 | h3
          · exact hno j hj h3
          · obtain rfl : j = k := by omega
            exact he)
        clear hno
        go_wp2
        go_roundw
        case rel => exact ⟨k + 1, by omega, by go_num, HN.out, trivial⟩
        case measure => simp [intOf]; omega
    · obtain rfl : k = l.length := by omega
      have HC := Lib.hid (show l.contains c = false by
        rw [← Bool.not_eq_true, List.contains_iff_mem]
        intro hm
        obtain ⟨j, hj, e⟩ := List.getElem_of_mem hm
        exact hno j hj hj e)
      clear hno
      go_wp2
      go_ret
      rw [HC.out]
      exact ⟨rfl, rfl⟩
theorem refTextIs7_any (is : Bool) (l : List UInt8) (most : Int) (w : World) : Calls Tryd.prog 108 #[.bool is, .string (bs l), .int .i64 most] w fun e w' => e = .returned (.bool (if is then decide ((l.length : Int) ≤ most) else l == [])) ∧ w = w' := by
  have hsz := bs_size l
  cases is
  · by_cases hl : l = []
    · subst hl
      go_enter Tryd.func108, Tryd.ntmps108
      go_wp2
      go_ret
      exact ⟨rfl, rfl⟩
    · have h2 : (l == []) = false := by simpa using hl
      go_enter Tryd.func108, Tryd.ntmps108
      go_wp2
      go_ret
      simp
  · go_enter Tryd.func108, Tryd.ntmps108
    go_wp2
    go_ret
    exact ⟨rfl, rfl⟩
theorem refNum7_any (is : Bool) (n most : Int) (w : World) : Calls Tryd.prog 110 #[.bool is, .int .i64 n, .int .i64 most] w fun e w' => e = .returned (.bool (if is then decide (0 ≤ n) && decide (n ≤ most) else n == 0)) ∧ w = w' := by
  cases is
  all_goals
    go_enter Tryd.func110, Tryd.ntmps110
    go_wp2
    all_goals (go_ret; go_light; exact ⟨ret_bool (by grind), rfl⟩)
theorem refThere_any (p : Int) (w : World) : Calls Tryd.prog 34 #[.int .i64 p] w fun e w' => e = .returned (.bool (cThere p)) ∧ w = w' := by
  go_enter Tryd.func34, Tryd.ntmps34
  go_wp2
  all_goals (go_ret; go_light; exact ⟨ret_bool (by grind [cThere]), rfl⟩)
/-- is a call too large to be looked at -/
def cLarge (x : Call) : Bool := decide (80 < x.fh.length) || decide (80 < x.fh2.length) || decide (300 < x.name.length) || decide (300 < x.name2.length) || decide (300 < x.text.length) || decide (300 < x.data.length)
set_option maxHeartbeats 1600000 in
theorem refLarge7_any (x : Call) (w : World) : Calls Tryd.prog 27 #[.agg x.vals.toArray] w fun e w' => e = .returned (.bool (cLarge x)) ∧ Below w.heap.size w w' := by
  have hb := Blk.new w 57 x.vals
  have hc := hb.cell
  have hB : Below w.heap.size w (w.alloc (.cells x.vals.toArray 57)) := (Below.refl _ _).alloc (Nat.le_refl _) _
  have h1 := bs_size x.fh
  have h2 := bs_size x.fh2
  have h3 := bs_size x.name
  have h4 := bs_size x.name2
  have h5 := bs_size x.text
  have h6 := bs_size x.data
  have HB := Lib.hid hB
  clear hB hb
  go_enter Tryd.func27, Tryd.ntmps27
  go_wp2
  all_goals (go_ret; go_light; exact ⟨ret_bool (by grind [cLarge]), HB.out⟩)
end Go.Proofs.YthfhdighniiodaaDoor
