/-
  Layer 7, walks: the document's Check (written by wip/tools/gencheck7.py). No condition.
-/
import Derived.Test.YtgifmpobokaejaaGreatDoorF25
import Derived.Test.YtgifmpobokaejaaGreatDoorF26
import Derived.BigQuiet
namespace Go.Proofs.YtgifmpobokaejaaGreatDoor
open Go.RowKit
attribute [local go_sem ↓] Go.wp_at_zero Go.wp_at_succ
attribute [local go_sem] rowAt_ptr rowOf_drew rowOf_drewN rowOf_alloc_past rowOf_new
attribute [local go_sem ↓] ldSet ldOpt

attribute [local go_sem] Call.at0 Call.lat0 Call.at1 Call.lat1 Call.at2 Call.lat2 Call.at3 Call.lat3 Call.at4 Call.lat4 Call.at5 Call.lat5 Call.at6 Call.lat6 Call.at7 Call.lat7 Call.at8 Call.lat8 Call.at9 Call.lat9 Call.at10 Call.lat10 Call.at11 Call.lat11 Call.at12 Call.lat12 Call.at13 Call.lat13 Call.at14 Call.lat14 Call.at15 Call.lat15 Call.at16 Call.lat16 Call.at17 Call.lat17 Call.at18 Call.lat18 Call.at19 Call.lat19 Call.at20 Call.lat20 Call.at21 Call.lat21 Call.at22 Call.lat22 Call.at23 Call.lat23 Call.sub0_24 Call.lsub0_24 Call.sub9_10 Call.lsub9_10 Call.sub9_2 Call.lsub9_2 Call.sub11_2 Call.lsub11_2 Call.sub13_2 Call.lsub13_2 Call.sub15_2 Call.lsub15_2 Call.sub17_2 Call.lsub17_2 Call.sub19_2 Call.lsub19_2 Call.len Sett.at0 Sett.lat0 Sett.at1 Sett.lat1 Sett.at2 Sett.lat2 Sett.at3 Sett.lat3 Sett.at4 Sett.lat4 Sett.at5 Sett.lat5 Sett.at6 Sett.lat6 Sett.at7 Sett.lat7 Sett.at8 Sett.lat8 Sett.at9 Sett.lat9 Sett.sub0_10 Sett.lsub0_10 Sett.sub0_2 Sett.lsub0_2 Sett.sub2_2 Sett.lsub2_2 Sett.sub4_2 Sett.lsub4_2 Sett.sub6_2 Sett.lsub6_2 Sett.sub8_2 Sett.lsub8_2 Sett.len Opt.at0 Opt.lat0 Opt.at1 Opt.lat1 Opt.sub0_2 Opt.lsub0_2 Opt.len

theorem quiet7 {P : Program} {f : FuncId} {args : Array Value} {w : World} {v : Value} (h : Calls P f args w fun e w' => e = .returned v ∧ w = w') : Calls P f args w fun e w' => e = .returned v ∧ ∃ n, w' = w.drewN n := h.mono fun _ _ ⟨h1, h2⟩ => ⟨h1, 0, h2.symm⟩
theorem stb_drewN (w : World) (n : Nat) : Stb w (w.drewN n) := Stb.of (((Touch.refl (fun _ => False) w).drewN n).below (fun _ _ h => h.elim) (Nat.le_refl _))
theorem Stb.drewN_ {w W : World} (h : Stb w W) (n : Nat) : Stb w (W.drewN n) := Stb.of (below_then h.2.2 (stb_drewN W n).2.2)
def inB (l : List UInt8) (c : UInt8) : Bool := l.contains c
def tIs (is : Bool) (l : List UInt8) (most : Int) : Bool := if is then decide ((l.length : Int) ≤ most) else l == []
def nIs (is : Bool) (n most : Int) : Bool := if is then decide (0 ≤ n) && decide (n ≤ most) else n == 0
theorem tIs_any (is : Bool) (l : List UInt8) (most : Int) (w : World) : Calls Tryz.prog 40 #[.bool is, .string (bs l), .int .i64 most] w fun e w' => e = .returned (.bool (tIs is l most)) ∧ w = w' := refTextIs7_any is l most w
theorem nIs_any (is : Bool) (n most : Int) (w : World) : Calls Tryz.prog 42 #[.bool is, .int .i64 n, .int .i64 most] w fun e w' => e = .returned (.bool (nIs is n most)) ∧ w = w' := refNum7_any is n most w
def cTexts (x : Call) (l : List UInt8) : Bool := (tIs (inB l 102) x.fh 64) && (tIs (inB l 70) x.fh2 64) && (tIs (inB l 110) x.name 255) && (tIs (inB l 78) x.name2 255) && (tIs (inB l 116) x.text 255) && (tIs (inB l 100) x.data 256)
def cNums (x : Call) (l : List UInt8) : Bool := (nIs (inB l 111) x.offset 9223372036854775807) && (nIs (inB l 99) x.count 4294967295) && (nIs (inB l 104) x.how 4294967295) && (nIs (inB l 107) x.cookie 9223372036854775807) && (nIs (inB l 118) x.verf 9223372036854775807)
theorem leafsSett7 : leafs Tryz.prog 8 32 = some [.b, .i .i64, .b, .i .i64, .b, .i .i64, .b, .i .i64, .b, .i .i64] := by kernel_rfl
theorem guardSett7 : Tryz.prog.eqGuardType Tryz.prog.depth 32 = false := by kernel_rfl
theorem leafsOpt7 : leafs Tryz.prog 8 30 = some [.b, .i .i64] := by kernel_rfl
theorem guardOpt7 : Tryz.prog.eqGuardType Tryz.prog.depth 30 = false := by kernel_rfl
def optZ7 : Opt := ⟨false, 0⟩
theorem Opt.inj7 {x y : Opt} (h : x.vals = y.vals) : x = y := by
  obtain ⟨_, _⟩ := x
  obtain ⟨_, _⟩ := y
  simp only [Opt.vals, List.cons.injEq, Value.int.injEq, Value.bool.injEq, true_and, and_true] at h
  obtain ⟨h0, h1⟩ := h
  subst_vars
  rfl
theorem Sett.inj7 {x y : Sett} (h : x.vals = y.vals) : x = y := by
  obtain ⟨⟨_, _⟩, ⟨_, _⟩, ⟨_, _⟩, ⟨_, _⟩, ⟨_, _⟩⟩ := x
  obtain ⟨⟨_, _⟩, ⟨_, _⟩, ⟨_, _⟩, ⟨_, _⟩, ⟨_, _⟩⟩ := y
  simp only [Sett.vals, Opt.vals, List.cons_append, List.nil_append, List.cons.injEq, Value.int.injEq, Value.bool.injEq, true_and, and_true] at h
  obtain ⟨h0, h1, h2, h3, h4, h5, h6, h7, h8, h9⟩ := h
  subst_vars
  rfl
theorem eqlSett7 (x y : Sett) (w : World) : (binOp .eql 32 (.agg x.vals.toArray) (.agg y.vals.toArray)).run Tryz.prog w = .ok (.bool (decide (x = y))) w := by
  by_cases h : x = y
  · rw [eql_same leafsSett7 (by kernel_rfl) w _ _ (by rfl) (by rw [h]), decide_eq_true h]
  · rw [eql_other leafsSett7 (by kernel_rfl) w _ _ (by rfl) (by rfl) (fun e => h (Sett.inj7 e)), decide_eq_false h]
theorem eqlOpt7 (x y : Opt) (w : World) : (binOp .eql 30 (.agg x.vals.toArray) (.agg y.vals.toArray)).run Tryz.prog w = .ok (.bool (decide (x = y))) w := by
  by_cases h : x = y
  · rw [eql_same leafsOpt7 (by kernel_rfl) w _ _ (by rfl) (by rw [h]), decide_eq_true h]
  · rw [eql_other leafsOpt7 (by kernel_rfl) w _ _ (by rfl) (by rfl) (fun e => h (Opt.inj7 e)), decide_eq_false h]
theorem eqlSettZ7 (x : Sett) (w : World) : (binOp .eql 32 (.agg x.vals.toArray) (.agg #[.bool false, .int .i64 0, .bool false, .int .i64 0, .bool false, .int .i64 0, .bool false, .int .i64 0, .bool false, .int .i64 0])).run Tryz.prog w = .ok (.bool (decide (x = settZ))) w := eqlSett7 x settZ w
theorem eqlOptZ7 (x : Opt) (w : World) : (binOp .eql 30 (.agg x.vals.toArray) (.agg #[.bool false, .int .i64 0])).run Tryz.prog w = .ok (.bool (decide (x = optZ7))) w := eqlOpt7 x optZ7 w
attribute [local go_sem ↓] eqlSettZ7 eqlOptZ7

attribute [local go_sem] guardSett7 guardOpt7

def cSetIs (x : Call) (l : List UInt8) : Bool := x.set.ok && (inB l 115 || decide (x.set = settZ))
def cGuardIs (x : Call) (l : List UInt8) : Bool := x.guard.ok 9223372036854775807 && (inB l 103 || decide (x.guard = optZ7))
/-- may a call be, whose procedure is one -/
def cIs (x : Call) : Bool := cTexts x (cFields x.proc) && cNums x (cFields x.proc) && cSetIs x (cFields x.proc) && cGuardIs x (cFields x.proc)

set_option maxRecDepth 20000 in
set_option maxHeartbeats 3200000 in
theorem refCheck7_any (x : Call) (w : World) : Calls Tryz.prog 15 #[.agg x.vals.toArray] w fun e w' => e = .returned (.bool (cIs x)) ∧ Below w.heap.size w w' := by
  have hb := Blk.new w 34 x.vals
  have hB : Below w.heap.size w (w.alloc (.cells x.vals.toArray 34)) := (Below.refl _ _).alloc (Nat.le_refl _) _
  have hc := hb.cell
  have HS := Lib.hid (show cIs x = (cTexts x (cFields x.proc) && cNums x (cFields x.proc) && cSetIs x (cFields x.proc) && cGuardIs x (cFields x.proc)) from rfl)
  have hsh : (cFields x.proc).length ≤ 1000 := Nat.le_trans (cFields_short _) (by decide)
  go_enter Tryz.func15, Tryz.ntmps15
  go_wp2_with fail
  refine (refFields_any x.proc _).mono ?_
  rintro e w1 ⟨rfl, hb1⟩
  have hX := hb.stays hb1
  have HB1 := Lib.hid (below_then hB hb1)
  have hcx := hX.cell
  have rs : rowOf w1 w.heap.size 9 10 = some x.set.vals.toArray := hX.row 9 10 (by simp [Call.len])
  have rg : rowOf w1 w.heap.size 19 2 = some x.guard.vals.toArray := hX.row 19 2 (by simp [Call.len])
  have hlt := hX.lt
  clear hb hB hc hb1 hX
  have K102 : ∀ W, Calls Tryz.prog 41 #[.string (bs (cFields x.proc)), .int .u8 102] W fun e w' => e = .returned (.bool (inB (cFields x.proc) 102)) ∧ W = w' := fun W => refHas7_any _ 102 W hsh
  have K70 : ∀ W, Calls Tryz.prog 41 #[.string (bs (cFields x.proc)), .int .u8 70] W fun e w' => e = .returned (.bool (inB (cFields x.proc) 70)) ∧ W = w' := fun W => refHas7_any _ 70 W hsh
  have K110 : ∀ W, Calls Tryz.prog 41 #[.string (bs (cFields x.proc)), .int .u8 110] W fun e w' => e = .returned (.bool (inB (cFields x.proc) 110)) ∧ W = w' := fun W => refHas7_any _ 110 W hsh
  have K78 : ∀ W, Calls Tryz.prog 41 #[.string (bs (cFields x.proc)), .int .u8 78] W fun e w' => e = .returned (.bool (inB (cFields x.proc) 78)) ∧ W = w' := fun W => refHas7_any _ 78 W hsh
  have K116 : ∀ W, Calls Tryz.prog 41 #[.string (bs (cFields x.proc)), .int .u8 116] W fun e w' => e = .returned (.bool (inB (cFields x.proc) 116)) ∧ W = w' := fun W => refHas7_any _ 116 W hsh
  have K100 : ∀ W, Calls Tryz.prog 41 #[.string (bs (cFields x.proc)), .int .u8 100] W fun e w' => e = .returned (.bool (inB (cFields x.proc) 100)) ∧ W = w' := fun W => refHas7_any _ 100 W hsh
  have K111 : ∀ W, Calls Tryz.prog 41 #[.string (bs (cFields x.proc)), .int .u8 111] W fun e w' => e = .returned (.bool (inB (cFields x.proc) 111)) ∧ W = w' := fun W => refHas7_any _ 111 W hsh
  have K99 : ∀ W, Calls Tryz.prog 41 #[.string (bs (cFields x.proc)), .int .u8 99] W fun e w' => e = .returned (.bool (inB (cFields x.proc) 99)) ∧ W = w' := fun W => refHas7_any _ 99 W hsh
  have K104 : ∀ W, Calls Tryz.prog 41 #[.string (bs (cFields x.proc)), .int .u8 104] W fun e w' => e = .returned (.bool (inB (cFields x.proc) 104)) ∧ W = w' := fun W => refHas7_any _ 104 W hsh
  have K107 : ∀ W, Calls Tryz.prog 41 #[.string (bs (cFields x.proc)), .int .u8 107] W fun e w' => e = .returned (.bool (inB (cFields x.proc) 107)) ∧ W = w' := fun W => refHas7_any _ 107 W hsh
  have K118 : ∀ W, Calls Tryz.prog 41 #[.string (bs (cFields x.proc)), .int .u8 118] W fun e w' => e = .returned (.bool (inB (cFields x.proc) 118)) ∧ W = w' := fun W => refHas7_any _ 118 W hsh
  have K115 : ∀ W, Calls Tryz.prog 41 #[.string (bs (cFields x.proc)), .int .u8 115] W fun e w' => e = .returned (.bool (inB (cFields x.proc) 115)) ∧ W = w' := fun W => refHas7_any _ 115 W hsh
  have K103 : ∀ W, Calls Tryz.prog 41 #[.string (bs (cFields x.proc)), .int .u8 103] W fun e w' => e = .returned (.bool (inB (cFields x.proc) 103)) ∧ W = w' := fun W => refHas7_any _ 103 W hsh
  generalize cFields x.proc = l at *
  clear hsh

  have HST3 := Lib.hid (Stb.of (Below.refl w1.heap.size w1))
  go_upto_region 4 with fail
  go_cut [6] from 10 (fun v wx => v = .bool (cTexts x l) ∧ Stb w1 wx)
  case first =>
    cases h0 : tIs (inB l 102) x.fh 64 with
    | false =>
      have HV := Lib.hid (show cTexts x l = false by simp [cTexts, h0])
      have Q0 : ∀ W, Calls Tryz.prog 40 #[.bool (inB l 102), .string (bs x.fh), .int .i64 64] W fun e w' => e = .returned (.bool false) ∧ ∃ n, w' = W.drewN n := fun W => by rw [← h0]; exact quiet7 (tIs_any _ _ _ _)
      clear h0
      go_quiet (first
        | (go_at_call_of 41 (Value.int IntKind.u8 102); refine Calls.quiet_of (quiet7 (K102 _)))
        | (go_at_call_of 40 (x.fh); refine Calls.quiet_of (Q0 _)))
      all_goals
        go_wp2
        go_meet
        case rel => exact ⟨by rw [HV.out], by exact HST3.out.drewN_ _⟩
    | true =>
      cases h1 : tIs (inB l 70) x.fh2 64 with
      | false =>
        have HV := Lib.hid (show cTexts x l = false by simp [cTexts, h0, h1])
        have Q0 : ∀ W, Calls Tryz.prog 40 #[.bool (inB l 102), .string (bs x.fh), .int .i64 64] W fun e w' => e = .returned (.bool true) ∧ ∃ n, w' = W.drewN n := fun W => by rw [← h0]; exact quiet7 (tIs_any _ _ _ _)
        have Q1 : ∀ W, Calls Tryz.prog 40 #[.bool (inB l 70), .string (bs x.fh2), .int .i64 64] W fun e w' => e = .returned (.bool false) ∧ ∃ n, w' = W.drewN n := fun W => by rw [← h1]; exact quiet7 (tIs_any _ _ _ _)
        clear h0 h1
        go_quiet (first
          | (go_at_call_of 41 (Value.int IntKind.u8 102); refine Calls.quiet_of (quiet7 (K102 _)))
          | (go_at_call_of 40 (x.fh); refine Calls.quiet_of (Q0 _))
          | (go_at_call_of 41 (Value.int IntKind.u8 70); refine Calls.quiet_of (quiet7 (K70 _)))
          | (go_at_call_of 40 (x.fh2); refine Calls.quiet_of (Q1 _)))
        all_goals
          go_wp2
          go_meet
          case rel => exact ⟨by rw [HV.out], by exact HST3.out.drewN_ _⟩
      | true =>
        cases h2 : tIs (inB l 110) x.name 255 with
        | false =>
          have HV := Lib.hid (show cTexts x l = false by simp [cTexts, h0, h1, h2])
          have Q0 : ∀ W, Calls Tryz.prog 40 #[.bool (inB l 102), .string (bs x.fh), .int .i64 64] W fun e w' => e = .returned (.bool true) ∧ ∃ n, w' = W.drewN n := fun W => by rw [← h0]; exact quiet7 (tIs_any _ _ _ _)
          have Q1 : ∀ W, Calls Tryz.prog 40 #[.bool (inB l 70), .string (bs x.fh2), .int .i64 64] W fun e w' => e = .returned (.bool true) ∧ ∃ n, w' = W.drewN n := fun W => by rw [← h1]; exact quiet7 (tIs_any _ _ _ _)
          have Q2 : ∀ W, Calls Tryz.prog 40 #[.bool (inB l 110), .string (bs x.name), .int .i64 255] W fun e w' => e = .returned (.bool false) ∧ ∃ n, w' = W.drewN n := fun W => by rw [← h2]; exact quiet7 (tIs_any _ _ _ _)
          clear h0 h1 h2
          go_quiet (first
            | (go_at_call_of 41 (Value.int IntKind.u8 102); refine Calls.quiet_of (quiet7 (K102 _)))
            | (go_at_call_of 40 (x.fh); refine Calls.quiet_of (Q0 _))
            | (go_at_call_of 41 (Value.int IntKind.u8 70); refine Calls.quiet_of (quiet7 (K70 _)))
            | (go_at_call_of 40 (x.fh2); refine Calls.quiet_of (Q1 _))
            | (go_at_call_of 41 (Value.int IntKind.u8 110); refine Calls.quiet_of (quiet7 (K110 _)))
            | (go_at_call_of 40 (x.name); refine Calls.quiet_of (Q2 _)))
          all_goals
            go_wp2
            go_meet
            case rel => exact ⟨by rw [HV.out], by exact HST3.out.drewN_ _⟩
        | true =>
          cases h3 : tIs (inB l 78) x.name2 255 with
          | false =>
            have HV := Lib.hid (show cTexts x l = false by simp [cTexts, h0, h1, h2, h3])
            have Q0 : ∀ W, Calls Tryz.prog 40 #[.bool (inB l 102), .string (bs x.fh), .int .i64 64] W fun e w' => e = .returned (.bool true) ∧ ∃ n, w' = W.drewN n := fun W => by rw [← h0]; exact quiet7 (tIs_any _ _ _ _)
            have Q1 : ∀ W, Calls Tryz.prog 40 #[.bool (inB l 70), .string (bs x.fh2), .int .i64 64] W fun e w' => e = .returned (.bool true) ∧ ∃ n, w' = W.drewN n := fun W => by rw [← h1]; exact quiet7 (tIs_any _ _ _ _)
            have Q2 : ∀ W, Calls Tryz.prog 40 #[.bool (inB l 110), .string (bs x.name), .int .i64 255] W fun e w' => e = .returned (.bool true) ∧ ∃ n, w' = W.drewN n := fun W => by rw [← h2]; exact quiet7 (tIs_any _ _ _ _)
            have Q3 : ∀ W, Calls Tryz.prog 40 #[.bool (inB l 78), .string (bs x.name2), .int .i64 255] W fun e w' => e = .returned (.bool false) ∧ ∃ n, w' = W.drewN n := fun W => by rw [← h3]; exact quiet7 (tIs_any _ _ _ _)
            clear h0 h1 h2 h3
            go_quiet (first
              | (go_at_call_of 41 (Value.int IntKind.u8 102); refine Calls.quiet_of (quiet7 (K102 _)))
              | (go_at_call_of 40 (x.fh); refine Calls.quiet_of (Q0 _))
              | (go_at_call_of 41 (Value.int IntKind.u8 70); refine Calls.quiet_of (quiet7 (K70 _)))
              | (go_at_call_of 40 (x.fh2); refine Calls.quiet_of (Q1 _))
              | (go_at_call_of 41 (Value.int IntKind.u8 110); refine Calls.quiet_of (quiet7 (K110 _)))
              | (go_at_call_of 40 (x.name); refine Calls.quiet_of (Q2 _))
              | (go_at_call_of 41 (Value.int IntKind.u8 78); refine Calls.quiet_of (quiet7 (K78 _)))
              | (go_at_call_of 40 (x.name2); refine Calls.quiet_of (Q3 _)))
            all_goals
              go_wp2
              go_meet
              case rel => exact ⟨by rw [HV.out], by exact HST3.out.drewN_ _⟩
          | true =>
            cases h4 : tIs (inB l 116) x.text 255 with
            | false =>
              have HV := Lib.hid (show cTexts x l = false by simp [cTexts, h0, h1, h2, h3, h4])
              have Q0 : ∀ W, Calls Tryz.prog 40 #[.bool (inB l 102), .string (bs x.fh), .int .i64 64] W fun e w' => e = .returned (.bool true) ∧ ∃ n, w' = W.drewN n := fun W => by rw [← h0]; exact quiet7 (tIs_any _ _ _ _)
              have Q1 : ∀ W, Calls Tryz.prog 40 #[.bool (inB l 70), .string (bs x.fh2), .int .i64 64] W fun e w' => e = .returned (.bool true) ∧ ∃ n, w' = W.drewN n := fun W => by rw [← h1]; exact quiet7 (tIs_any _ _ _ _)
              have Q2 : ∀ W, Calls Tryz.prog 40 #[.bool (inB l 110), .string (bs x.name), .int .i64 255] W fun e w' => e = .returned (.bool true) ∧ ∃ n, w' = W.drewN n := fun W => by rw [← h2]; exact quiet7 (tIs_any _ _ _ _)
              have Q3 : ∀ W, Calls Tryz.prog 40 #[.bool (inB l 78), .string (bs x.name2), .int .i64 255] W fun e w' => e = .returned (.bool true) ∧ ∃ n, w' = W.drewN n := fun W => by rw [← h3]; exact quiet7 (tIs_any _ _ _ _)
              have Q4 : ∀ W, Calls Tryz.prog 40 #[.bool (inB l 116), .string (bs x.text), .int .i64 255] W fun e w' => e = .returned (.bool false) ∧ ∃ n, w' = W.drewN n := fun W => by rw [← h4]; exact quiet7 (tIs_any _ _ _ _)
              clear h0 h1 h2 h3 h4
              go_quiet (first
                | (go_at_call_of 41 (Value.int IntKind.u8 102); refine Calls.quiet_of (quiet7 (K102 _)))
                | (go_at_call_of 40 (x.fh); refine Calls.quiet_of (Q0 _))
                | (go_at_call_of 41 (Value.int IntKind.u8 70); refine Calls.quiet_of (quiet7 (K70 _)))
                | (go_at_call_of 40 (x.fh2); refine Calls.quiet_of (Q1 _))
                | (go_at_call_of 41 (Value.int IntKind.u8 110); refine Calls.quiet_of (quiet7 (K110 _)))
                | (go_at_call_of 40 (x.name); refine Calls.quiet_of (Q2 _))
                | (go_at_call_of 41 (Value.int IntKind.u8 78); refine Calls.quiet_of (quiet7 (K78 _)))
                | (go_at_call_of 40 (x.name2); refine Calls.quiet_of (Q3 _))
                | (go_at_call_of 41 (Value.int IntKind.u8 116); refine Calls.quiet_of (quiet7 (K116 _)))
                | (go_at_call_of 40 (x.text); refine Calls.quiet_of (Q4 _)))
              all_goals
                go_wp2
                go_meet
                case rel => exact ⟨by rw [HV.out], by exact HST3.out.drewN_ _⟩
            | true =>
              cases h5 : tIs (inB l 100) x.data 256 with
              | false =>
                have HV := Lib.hid (show cTexts x l = false by simp [cTexts, h0, h1, h2, h3, h4, h5])
                have Q0 : ∀ W, Calls Tryz.prog 40 #[.bool (inB l 102), .string (bs x.fh), .int .i64 64] W fun e w' => e = .returned (.bool true) ∧ ∃ n, w' = W.drewN n := fun W => by rw [← h0]; exact quiet7 (tIs_any _ _ _ _)
                have Q1 : ∀ W, Calls Tryz.prog 40 #[.bool (inB l 70), .string (bs x.fh2), .int .i64 64] W fun e w' => e = .returned (.bool true) ∧ ∃ n, w' = W.drewN n := fun W => by rw [← h1]; exact quiet7 (tIs_any _ _ _ _)
                have Q2 : ∀ W, Calls Tryz.prog 40 #[.bool (inB l 110), .string (bs x.name), .int .i64 255] W fun e w' => e = .returned (.bool true) ∧ ∃ n, w' = W.drewN n := fun W => by rw [← h2]; exact quiet7 (tIs_any _ _ _ _)
                have Q3 : ∀ W, Calls Tryz.prog 40 #[.bool (inB l 78), .string (bs x.name2), .int .i64 255] W fun e w' => e = .returned (.bool true) ∧ ∃ n, w' = W.drewN n := fun W => by rw [← h3]; exact quiet7 (tIs_any _ _ _ _)
                have Q4 : ∀ W, Calls Tryz.prog 40 #[.bool (inB l 116), .string (bs x.text), .int .i64 255] W fun e w' => e = .returned (.bool true) ∧ ∃ n, w' = W.drewN n := fun W => by rw [← h4]; exact quiet7 (tIs_any _ _ _ _)
                have Q5 : ∀ W, Calls Tryz.prog 40 #[.bool (inB l 100), .string (bs x.data), .int .i64 256] W fun e w' => e = .returned (.bool false) ∧ ∃ n, w' = W.drewN n := fun W => by rw [← h5]; exact quiet7 (tIs_any _ _ _ _)
                clear h0 h1 h2 h3 h4 h5
                go_quiet (first
                  | (go_at_call_of 41 (Value.int IntKind.u8 102); refine Calls.quiet_of (quiet7 (K102 _)))
                  | (go_at_call_of 40 (x.fh); refine Calls.quiet_of (Q0 _))
                  | (go_at_call_of 41 (Value.int IntKind.u8 70); refine Calls.quiet_of (quiet7 (K70 _)))
                  | (go_at_call_of 40 (x.fh2); refine Calls.quiet_of (Q1 _))
                  | (go_at_call_of 41 (Value.int IntKind.u8 110); refine Calls.quiet_of (quiet7 (K110 _)))
                  | (go_at_call_of 40 (x.name); refine Calls.quiet_of (Q2 _))
                  | (go_at_call_of 41 (Value.int IntKind.u8 78); refine Calls.quiet_of (quiet7 (K78 _)))
                  | (go_at_call_of 40 (x.name2); refine Calls.quiet_of (Q3 _))
                  | (go_at_call_of 41 (Value.int IntKind.u8 116); refine Calls.quiet_of (quiet7 (K116 _)))
                  | (go_at_call_of 40 (x.text); refine Calls.quiet_of (Q4 _))
                  | (go_at_call_of 41 (Value.int IntKind.u8 100); refine Calls.quiet_of (quiet7 (K100 _)))
                  | (go_at_call_of 40 (x.data); refine Calls.quiet_of (Q5 _)))
                all_goals
                  go_wp2
                  go_meet
                  case rel => exact ⟨by rw [HV.out], by exact HST3.out.drewN_ _⟩
              | true =>
                have HV := Lib.hid (show cTexts x l = true by simp [cTexts, h0, h1, h2, h3, h4, h5])
                have Q0 : ∀ W, Calls Tryz.prog 40 #[.bool (inB l 102), .string (bs x.fh), .int .i64 64] W fun e w' => e = .returned (.bool true) ∧ ∃ n, w' = W.drewN n := fun W => by rw [← h0]; exact quiet7 (tIs_any _ _ _ _)
                have Q1 : ∀ W, Calls Tryz.prog 40 #[.bool (inB l 70), .string (bs x.fh2), .int .i64 64] W fun e w' => e = .returned (.bool true) ∧ ∃ n, w' = W.drewN n := fun W => by rw [← h1]; exact quiet7 (tIs_any _ _ _ _)
                have Q2 : ∀ W, Calls Tryz.prog 40 #[.bool (inB l 110), .string (bs x.name), .int .i64 255] W fun e w' => e = .returned (.bool true) ∧ ∃ n, w' = W.drewN n := fun W => by rw [← h2]; exact quiet7 (tIs_any _ _ _ _)
                have Q3 : ∀ W, Calls Tryz.prog 40 #[.bool (inB l 78), .string (bs x.name2), .int .i64 255] W fun e w' => e = .returned (.bool true) ∧ ∃ n, w' = W.drewN n := fun W => by rw [← h3]; exact quiet7 (tIs_any _ _ _ _)
                have Q4 : ∀ W, Calls Tryz.prog 40 #[.bool (inB l 116), .string (bs x.text), .int .i64 255] W fun e w' => e = .returned (.bool true) ∧ ∃ n, w' = W.drewN n := fun W => by rw [← h4]; exact quiet7 (tIs_any _ _ _ _)
                have Q5 : ∀ W, Calls Tryz.prog 40 #[.bool (inB l 100), .string (bs x.data), .int .i64 256] W fun e w' => e = .returned (.bool true) ∧ ∃ n, w' = W.drewN n := fun W => by rw [← h5]; exact quiet7 (tIs_any _ _ _ _)
                clear h0 h1 h2 h3 h4 h5
                go_quiet (first
                  | (go_at_call_of 41 (Value.int IntKind.u8 102); refine Calls.quiet_of (quiet7 (K102 _)))
                  | (go_at_call_of 40 (x.fh); refine Calls.quiet_of (Q0 _))
                  | (go_at_call_of 41 (Value.int IntKind.u8 70); refine Calls.quiet_of (quiet7 (K70 _)))
                  | (go_at_call_of 40 (x.fh2); refine Calls.quiet_of (Q1 _))
                  | (go_at_call_of 41 (Value.int IntKind.u8 110); refine Calls.quiet_of (quiet7 (K110 _)))
                  | (go_at_call_of 40 (x.name); refine Calls.quiet_of (Q2 _))
                  | (go_at_call_of 41 (Value.int IntKind.u8 78); refine Calls.quiet_of (quiet7 (K78 _)))
                  | (go_at_call_of 40 (x.name2); refine Calls.quiet_of (Q3 _))
                  | (go_at_call_of 41 (Value.int IntKind.u8 116); refine Calls.quiet_of (quiet7 (K116 _)))
                  | (go_at_call_of 40 (x.text); refine Calls.quiet_of (Q4 _))
                  | (go_at_call_of 41 (Value.int IntKind.u8 100); refine Calls.quiet_of (quiet7 (K100 _)))
                  | (go_at_call_of 40 (x.data); refine Calls.quiet_of (Q5 _)))
                all_goals
                  go_wp2
                  go_meet
                  case rel => exact ⟨by rw [HV.out], by exact HST3.out.drewN_ _⟩
  obtain ⟨rfl, hst4⟩ := hcut
  have HST4 := Lib.hid hst4
  have hcy : ∀ i, wc.cell? ⟨w.heap.size, i, none⟩ = x.vals[i]? := fun i => (HST4.out.1 _ _ hlt).trans (hcx i)
  clear hst4
  go_upto_region 5 with fail
  go_cut [7] from 10 (fun v wx => v = .bool (cNums x l) ∧ Stb w1 wx)
  case first =>
    cases h0 : nIs (inB l 111) x.offset 9223372036854775807 with
    | false =>
      have HV := Lib.hid (show cNums x l = false by simp [cNums, h0])
      have Q0 : ∀ W, Calls Tryz.prog 42 #[.bool (inB l 111), .int .i64 x.offset, .int .i64 9223372036854775807] W fun e w' => e = .returned (.bool false) ∧ ∃ n, w' = W.drewN n := fun W => by rw [← h0]; exact quiet7 (nIs_any _ _ _ _)
      clear h0
      go_quiet (first
        | (go_at_call_of 41 (Value.int IntKind.u8 111); refine Calls.quiet_of (quiet7 (K111 _)))
        | (go_at_call_of 42 (x.offset); refine Calls.quiet_of (Q0 _)))
      all_goals
        go_wp2
        go_meet
        case rel => exact ⟨by rw [HV.out], by exact HST4.out.drewN_ _⟩
    | true =>
      cases h1 : nIs (inB l 99) x.count 4294967295 with
      | false =>
        have HV := Lib.hid (show cNums x l = false by simp [cNums, h0, h1])
        have Q0 : ∀ W, Calls Tryz.prog 42 #[.bool (inB l 111), .int .i64 x.offset, .int .i64 9223372036854775807] W fun e w' => e = .returned (.bool true) ∧ ∃ n, w' = W.drewN n := fun W => by rw [← h0]; exact quiet7 (nIs_any _ _ _ _)
        have Q1 : ∀ W, Calls Tryz.prog 42 #[.bool (inB l 99), .int .i64 x.count, .int .i64 4294967295] W fun e w' => e = .returned (.bool false) ∧ ∃ n, w' = W.drewN n := fun W => by rw [← h1]; exact quiet7 (nIs_any _ _ _ _)
        clear h0 h1
        go_quiet (first
          | (go_at_call_of 41 (Value.int IntKind.u8 111); refine Calls.quiet_of (quiet7 (K111 _)))
          | (go_at_call_of 42 (x.offset); refine Calls.quiet_of (Q0 _))
          | (go_at_call_of 41 (Value.int IntKind.u8 99); refine Calls.quiet_of (quiet7 (K99 _)))
          | (go_at_call_of 42 (x.count); refine Calls.quiet_of (Q1 _)))
        all_goals
          go_wp2
          go_meet
          case rel => exact ⟨by rw [HV.out], by exact HST4.out.drewN_ _⟩
      | true =>
        cases h2 : nIs (inB l 104) x.how 4294967295 with
        | false =>
          have HV := Lib.hid (show cNums x l = false by simp [cNums, h0, h1, h2])
          have Q0 : ∀ W, Calls Tryz.prog 42 #[.bool (inB l 111), .int .i64 x.offset, .int .i64 9223372036854775807] W fun e w' => e = .returned (.bool true) ∧ ∃ n, w' = W.drewN n := fun W => by rw [← h0]; exact quiet7 (nIs_any _ _ _ _)
          have Q1 : ∀ W, Calls Tryz.prog 42 #[.bool (inB l 99), .int .i64 x.count, .int .i64 4294967295] W fun e w' => e = .returned (.bool true) ∧ ∃ n, w' = W.drewN n := fun W => by rw [← h1]; exact quiet7 (nIs_any _ _ _ _)
          have Q2 : ∀ W, Calls Tryz.prog 42 #[.bool (inB l 104), .int .i64 x.how, .int .i64 4294967295] W fun e w' => e = .returned (.bool false) ∧ ∃ n, w' = W.drewN n := fun W => by rw [← h2]; exact quiet7 (nIs_any _ _ _ _)
          clear h0 h1 h2
          go_quiet (first
            | (go_at_call_of 41 (Value.int IntKind.u8 111); refine Calls.quiet_of (quiet7 (K111 _)))
            | (go_at_call_of 42 (x.offset); refine Calls.quiet_of (Q0 _))
            | (go_at_call_of 41 (Value.int IntKind.u8 99); refine Calls.quiet_of (quiet7 (K99 _)))
            | (go_at_call_of 42 (x.count); refine Calls.quiet_of (Q1 _))
            | (go_at_call_of 41 (Value.int IntKind.u8 104); refine Calls.quiet_of (quiet7 (K104 _)))
            | (go_at_call_of 42 (x.how); refine Calls.quiet_of (Q2 _)))
          all_goals
            go_wp2
            go_meet
            case rel => exact ⟨by rw [HV.out], by exact HST4.out.drewN_ _⟩
        | true =>
          cases h3 : nIs (inB l 107) x.cookie 9223372036854775807 with
          | false =>
            have HV := Lib.hid (show cNums x l = false by simp [cNums, h0, h1, h2, h3])
            have Q0 : ∀ W, Calls Tryz.prog 42 #[.bool (inB l 111), .int .i64 x.offset, .int .i64 9223372036854775807] W fun e w' => e = .returned (.bool true) ∧ ∃ n, w' = W.drewN n := fun W => by rw [← h0]; exact quiet7 (nIs_any _ _ _ _)
            have Q1 : ∀ W, Calls Tryz.prog 42 #[.bool (inB l 99), .int .i64 x.count, .int .i64 4294967295] W fun e w' => e = .returned (.bool true) ∧ ∃ n, w' = W.drewN n := fun W => by rw [← h1]; exact quiet7 (nIs_any _ _ _ _)
            have Q2 : ∀ W, Calls Tryz.prog 42 #[.bool (inB l 104), .int .i64 x.how, .int .i64 4294967295] W fun e w' => e = .returned (.bool true) ∧ ∃ n, w' = W.drewN n := fun W => by rw [← h2]; exact quiet7 (nIs_any _ _ _ _)
            have Q3 : ∀ W, Calls Tryz.prog 42 #[.bool (inB l 107), .int .i64 x.cookie, .int .i64 9223372036854775807] W fun e w' => e = .returned (.bool false) ∧ ∃ n, w' = W.drewN n := fun W => by rw [← h3]; exact quiet7 (nIs_any _ _ _ _)
            clear h0 h1 h2 h3
            go_quiet (first
              | (go_at_call_of 41 (Value.int IntKind.u8 111); refine Calls.quiet_of (quiet7 (K111 _)))
              | (go_at_call_of 42 (x.offset); refine Calls.quiet_of (Q0 _))
              | (go_at_call_of 41 (Value.int IntKind.u8 99); refine Calls.quiet_of (quiet7 (K99 _)))
              | (go_at_call_of 42 (x.count); refine Calls.quiet_of (Q1 _))
              | (go_at_call_of 41 (Value.int IntKind.u8 104); refine Calls.quiet_of (quiet7 (K104 _)))
              | (go_at_call_of 42 (x.how); refine Calls.quiet_of (Q2 _))
              | (go_at_call_of 41 (Value.int IntKind.u8 107); refine Calls.quiet_of (quiet7 (K107 _)))
              | (go_at_call_of 42 (x.cookie); refine Calls.quiet_of (Q3 _)))
            all_goals
              go_wp2
              go_meet
              case rel => exact ⟨by rw [HV.out], by exact HST4.out.drewN_ _⟩
          | true =>
            cases h4 : nIs (inB l 118) x.verf 9223372036854775807 with
            | false =>
              have HV := Lib.hid (show cNums x l = false by simp [cNums, h0, h1, h2, h3, h4])
              have Q0 : ∀ W, Calls Tryz.prog 42 #[.bool (inB l 111), .int .i64 x.offset, .int .i64 9223372036854775807] W fun e w' => e = .returned (.bool true) ∧ ∃ n, w' = W.drewN n := fun W => by rw [← h0]; exact quiet7 (nIs_any _ _ _ _)
              have Q1 : ∀ W, Calls Tryz.prog 42 #[.bool (inB l 99), .int .i64 x.count, .int .i64 4294967295] W fun e w' => e = .returned (.bool true) ∧ ∃ n, w' = W.drewN n := fun W => by rw [← h1]; exact quiet7 (nIs_any _ _ _ _)
              have Q2 : ∀ W, Calls Tryz.prog 42 #[.bool (inB l 104), .int .i64 x.how, .int .i64 4294967295] W fun e w' => e = .returned (.bool true) ∧ ∃ n, w' = W.drewN n := fun W => by rw [← h2]; exact quiet7 (nIs_any _ _ _ _)
              have Q3 : ∀ W, Calls Tryz.prog 42 #[.bool (inB l 107), .int .i64 x.cookie, .int .i64 9223372036854775807] W fun e w' => e = .returned (.bool true) ∧ ∃ n, w' = W.drewN n := fun W => by rw [← h3]; exact quiet7 (nIs_any _ _ _ _)
              have Q4 : ∀ W, Calls Tryz.prog 42 #[.bool (inB l 118), .int .i64 x.verf, .int .i64 9223372036854775807] W fun e w' => e = .returned (.bool false) ∧ ∃ n, w' = W.drewN n := fun W => by rw [← h4]; exact quiet7 (nIs_any _ _ _ _)
              clear h0 h1 h2 h3 h4
              go_quiet (first
                | (go_at_call_of 41 (Value.int IntKind.u8 111); refine Calls.quiet_of (quiet7 (K111 _)))
                | (go_at_call_of 42 (x.offset); refine Calls.quiet_of (Q0 _))
                | (go_at_call_of 41 (Value.int IntKind.u8 99); refine Calls.quiet_of (quiet7 (K99 _)))
                | (go_at_call_of 42 (x.count); refine Calls.quiet_of (Q1 _))
                | (go_at_call_of 41 (Value.int IntKind.u8 104); refine Calls.quiet_of (quiet7 (K104 _)))
                | (go_at_call_of 42 (x.how); refine Calls.quiet_of (Q2 _))
                | (go_at_call_of 41 (Value.int IntKind.u8 107); refine Calls.quiet_of (quiet7 (K107 _)))
                | (go_at_call_of 42 (x.cookie); refine Calls.quiet_of (Q3 _))
                | (go_at_call_of 41 (Value.int IntKind.u8 118); refine Calls.quiet_of (quiet7 (K118 _)))
                | (go_at_call_of 42 (x.verf); refine Calls.quiet_of (Q4 _)))
              all_goals
                go_wp2
                go_meet
                case rel => exact ⟨by rw [HV.out], by exact HST4.out.drewN_ _⟩
            | true =>
              have HV := Lib.hid (show cNums x l = true by simp [cNums, h0, h1, h2, h3, h4])
              have Q0 : ∀ W, Calls Tryz.prog 42 #[.bool (inB l 111), .int .i64 x.offset, .int .i64 9223372036854775807] W fun e w' => e = .returned (.bool true) ∧ ∃ n, w' = W.drewN n := fun W => by rw [← h0]; exact quiet7 (nIs_any _ _ _ _)
              have Q1 : ∀ W, Calls Tryz.prog 42 #[.bool (inB l 99), .int .i64 x.count, .int .i64 4294967295] W fun e w' => e = .returned (.bool true) ∧ ∃ n, w' = W.drewN n := fun W => by rw [← h1]; exact quiet7 (nIs_any _ _ _ _)
              have Q2 : ∀ W, Calls Tryz.prog 42 #[.bool (inB l 104), .int .i64 x.how, .int .i64 4294967295] W fun e w' => e = .returned (.bool true) ∧ ∃ n, w' = W.drewN n := fun W => by rw [← h2]; exact quiet7 (nIs_any _ _ _ _)
              have Q3 : ∀ W, Calls Tryz.prog 42 #[.bool (inB l 107), .int .i64 x.cookie, .int .i64 9223372036854775807] W fun e w' => e = .returned (.bool true) ∧ ∃ n, w' = W.drewN n := fun W => by rw [← h3]; exact quiet7 (nIs_any _ _ _ _)
              have Q4 : ∀ W, Calls Tryz.prog 42 #[.bool (inB l 118), .int .i64 x.verf, .int .i64 9223372036854775807] W fun e w' => e = .returned (.bool true) ∧ ∃ n, w' = W.drewN n := fun W => by rw [← h4]; exact quiet7 (nIs_any _ _ _ _)
              clear h0 h1 h2 h3 h4
              go_quiet (first
                | (go_at_call_of 41 (Value.int IntKind.u8 111); refine Calls.quiet_of (quiet7 (K111 _)))
                | (go_at_call_of 42 (x.offset); refine Calls.quiet_of (Q0 _))
                | (go_at_call_of 41 (Value.int IntKind.u8 99); refine Calls.quiet_of (quiet7 (K99 _)))
                | (go_at_call_of 42 (x.count); refine Calls.quiet_of (Q1 _))
                | (go_at_call_of 41 (Value.int IntKind.u8 104); refine Calls.quiet_of (quiet7 (K104 _)))
                | (go_at_call_of 42 (x.how); refine Calls.quiet_of (Q2 _))
                | (go_at_call_of 41 (Value.int IntKind.u8 107); refine Calls.quiet_of (quiet7 (K107 _)))
                | (go_at_call_of 42 (x.cookie); refine Calls.quiet_of (Q3 _))
                | (go_at_call_of 41 (Value.int IntKind.u8 118); refine Calls.quiet_of (quiet7 (K118 _)))
                | (go_at_call_of 42 (x.verf); refine Calls.quiet_of (Q4 _)))
              all_goals
                go_wp2
                go_meet
                case rel => exact ⟨by rw [HV.out], by exact HST4.out.drewN_ _⟩
  obtain ⟨rfl, hst5⟩ := hcut
  have HST5 := Lib.hid hst5
  clear hst5
  have r6 : rowOf wc w.heap.size 9 10 = some x.set.vals.toArray := (HST5.out.2.1 _ _ _ hlt).trans rs
  go_upto_region 6 with fail
  go_cut [8] from 10 (fun v wx => v = .bool (cSetIs x l) ∧ Stb w1 wx)
  case first =>
    go_wp2_with fail
    refine (refSet_any x.set _).mono ?_
    rintro e w5 ⟨rfl, hb5⟩
    have HST5 := Lib.hid (HST5.out.call hb5)
    have r5 : rowOf w5 w.heap.size 9 10 = some x.set.vals.toArray := (HST5.out.2.1 _ _ _ hlt).trans rs
    clear hb5
    cases hs : x.set.ok with
    | false =>
      have HV := Lib.hid (show cSetIs x l = false by simp [cSetIs, hs])
      clear hs
      go_wp2
      go_meet
      case rel => exact ⟨by rw [HV.out], HST5.out⟩
    | true =>
      go_wp2_with fail
      refine (K115 _).mono ?_
      rintro e w6 ⟨rfl, rfl⟩
      cases hi : inB l 115 with
      | true =>
        have HV := Lib.hid (show cSetIs x l = true by simp [cSetIs, hs, hi])
        clear hs hi
        go_wp2
        go_meet
        case rel => exact ⟨by rw [HV.out], HST5.out⟩
      | false =>
        have HV := Lib.hid (show cSetIs x l = decide (x.set = settZ) by simp [cSetIs, hs, hi])
        clear hs hi
        go_wp2
        go_meet
        case rel => exact ⟨by rw [HV.out], HST5.out⟩
  obtain ⟨rfl, hst6⟩ := hcut
  have HST6 := Lib.hid hst6
  clear hst6
  have r7 : rowOf wc w.heap.size 19 2 = some x.guard.vals.toArray := (HST6.out.2.1 _ _ _ hlt).trans rg
  go_upto_region 7 with fail
  go_cut [9] from 10 (fun v wx => v = .bool (cGuardIs x l) ∧ Stb w1 wx)
  case first =>
    go_wp2_with fail
    refine (refOption_any x.guard _ _).mono ?_
    rintro e w5 ⟨rfl, hb5⟩
    have HST5 := Lib.hid (HST6.out.call hb5)
    have r5 : rowOf w5 w.heap.size 19 2 = some x.guard.vals.toArray := (HST5.out.2.1 _ _ _ hlt).trans rg
    clear hb5
    cases hs : x.guard.ok 9223372036854775807 with
    | false =>
      have HV := Lib.hid (show cGuardIs x l = false by simp [cGuardIs, hs])
      clear hs
      go_wp2
      go_meet
      case rel => exact ⟨by rw [HV.out], HST5.out⟩
    | true =>
      go_wp2_with fail
      refine (K103 _).mono ?_
      rintro e w6 ⟨rfl, rfl⟩
      cases hi : inB l 103 with
      | true =>
        have HV := Lib.hid (show cGuardIs x l = true by simp [cGuardIs, hs, hi])
        clear hs hi
        go_wp2
        go_meet
        case rel => exact ⟨by rw [HV.out], HST5.out⟩
      | false =>
        have HV := Lib.hid (show cGuardIs x l = decide (x.guard = optZ7) by simp [cGuardIs, hs, hi])
        clear hs hi
        go_wp2
        go_meet
        case rel => exact ⟨by rw [HV.out], HST5.out⟩
  obtain ⟨rfl, hst7⟩ := hcut
  have HST7 := Lib.hid hst7
  clear hst7
  have HBW := Lib.hid (below_then HB1.out HST7.out.below)
  generalize cTexts x l = b1 at *
  generalize cNums x l = b2 at *
  generalize cSetIs x l = b3 at *
  generalize cGuardIs x l = b4 at *
  go_wp2
  all_goals (go_ret; go_light; exact ⟨ret_bool (by rw [HS.out]; simp_all), HBW.out⟩)
end Go.Proofs.YtgifmpobokaejaaGreatDoor