/-
  Layer 17, walks of the document's own: has, num, text, Check (written by wip/tools/genreccheck.py). No condition.
-/
import Derived.Test.YthfhdighniiodaaDoorR13
import Derived.Test.YthfhdighniiodaaDoorR11
import Derived.BigQuiet
namespace Go.Proofs.YthfhdighniiodaaDoor
open Go.RowKit
attribute [local go_sem ↓] Go.wp_at_zero Go.wp_at_succ
attribute [local go_sem] rowAt_ptr rowOf_drew rowOf_drewN rowOf_alloc_past rowOf_new
attribute [local go_sem ↓] ldAttrR ldChange

attribute [local go_sem] Change.at0 Change.lat0 Change.at1 Change.lat1 Change.at2 Change.lat2 Change.at3 Change.lat3 Change.at4 Change.lat4 Change.at5 Change.lat5 Change.at6 Change.lat6 Change.at7 Change.lat7 Change.at8 Change.lat8 Change.at9 Change.lat9 Change.at10 Change.lat10 Change.at11 Change.lat11 Change.at12 Change.lat12 Change.at13 Change.lat13 Change.at14 Change.lat14 Change.at15 Change.lat15 Change.at16 Change.lat16 Change.at17 Change.lat17 Change.sub0_18 Change.lsub0_18 Change.sub6_10 Change.lsub6_10 Change.len Attr.at0 Attr.lat0 Attr.at1 Attr.lat1 Attr.at2 Attr.lat2 Attr.at3 Attr.lat3 Attr.at4 Attr.lat4 Attr.at5 Attr.lat5 Attr.at6 Attr.lat6 Attr.at7 Attr.lat7 Attr.at8 Attr.lat8 Attr.at9 Attr.lat9 Attr.sub0_10 Attr.lsub0_10 Attr.len

theorem quiet17 {P : Program} {f : FuncId} {args : Array Value} {w : World} {v : Value} (h : Calls P f args w fun e w' => e = .returned v ∧ w = w') : Calls P f args w fun e w' => e = .returned v ∧ ∃ n, w' = w.drewN n := h.mono fun _ _ ⟨h1, h2⟩ => ⟨h1, 0, h2.symm⟩
theorem stb_drewN17 (w : World) (n : Nat) : Stb w (w.drewN n) := Stb.of (((Touch.refl (fun _ => False) w).drewN n).below (fun _ _ h => h.elim) (Nat.le_refl _))
theorem Stb.drewN17 {w W : World} (h : Stb w W) (n : Nat) : Stb w (W.drewN n) := Stb.of (below_then h.2.2 (stb_drewN17 W n).2.2)
def inR (l : List UInt8) (c : UInt8) : Bool := l.contains c
def tIsR (is : Bool) (l : List UInt8) (least most : Int) : Bool := if is then decide (least ≤ (l.length : Int)) && decide ((l.length : Int) ≤ most) else l == []
def nIsR (is : Bool) (n least most : Int) : Bool := if is then decide (least ≤ n) && decide (n ≤ most) else n == 0
theorem neqAttrZ17 (x : Attr) (w : World) : (binOp .neq 42 (.agg x.vals.toArray) (.agg #[.int .i64 0, .int .i64 0, .int .i64 0, .int .i64 0, .int .i64 0, .int .i64 0, .int .i64 0, .int .i64 0, .int .i64 0, .int .i64 0])).run Tryd.prog w = .ok (.bool (decide (x ≠ attrZ))) w := by
  by_cases h : x = attrZ
  · subst h
    rw [decide_eq_false (by simp)]
    exact neq_same leafsAttrR (by kernel_rfl) w _ _ (fitsAttrR attrZ) rfl
  · rw [decide_eq_true h]
    exact neq_other leafsAttrR (by kernel_rfl) w _ _ (fitsAttrR x) (fitsAttrR attrZ) fun hh => h (valsAttr hh)
attribute [local go_sem ↓] neqAttrZ17

attribute [local go_sem] guardAttrR

set_option maxHeartbeats 800000 in
theorem inR_any (l : List UInt8) (c : UInt8) (w : World) (hl : l.length ≤ 1000) : Calls Tryd.prog 53 #[.string (bs l), .int .u8 c.toNat] w fun e w' => e = .returned (.bool (inR l c)) ∧ w = w' := by
  have hsz := bs_size l
  go_enter Tryd.func53, Tryd.ntmps53
  go_wp2
  go_loopw [5] (fun iv wr => ∃ k : Nat, k ≤ l.length ∧ iv = .int .i64 k ∧ (∀ j (hj : j < l.length), j < k → l[j] ≠ c) ∧ wr = w) (fun iv _ => l.length - (intOf iv).toNat)
  case atStart => exact ⟨0, Nat.zero_le _, rfl, fun _ _ h => absurd h (Nat.not_lt_zero _), rfl⟩
  case round =>
    obtain ⟨k, hk, rfl, hno, rfl⟩ := hrel
    by_cases hlt : k < l.length
    · by_cases he : l[k] = c
      · have HC := Lib.hid (show inR l c = true by rw [inR, List.contains_iff_mem, ← he]; exact List.getElem_mem hlt)
        have hq : ((((bs l)[k]'(by rw [hsz]; exact hlt)).toNat : Int) == (c.toNat : Int)) = true := by rw [bs_get, he]; simp
        go_wp2
        go_ret
        rw [HC.out]
        exact ⟨rfl, rfl⟩
      · have hq : ((((bs l)[k]'(by rw [hsz]; exact hlt)).toNat : Int) == (c.toNat : Int)) = false := beq_false_of_ne fun h => he (UInt8.toNat_inj.1 (by rw [bs_get] at h; omega))
        have HN := Lib.hid (show ∀ j (hj : j < l.length), j < k + 1 → l[j] ≠ c from fun j hj h => by
          rcases Nat.lt_or_ge j k with h3 | h3
          · exact hno j hj h3
          · obtain rfl : j = k := by omega
            exact he)
        clear hno
        go_wp2
        go_roundw
        case rel => exact ⟨k + 1, by omega, by go_num, HN.out, trivial⟩
        case measure => simp [intOf]; omega
    · obtain rfl : k = l.length := by omega
      have HC := Lib.hid (show inR l c = false by
        rw [inR, ← Bool.not_eq_true, List.contains_iff_mem]
        intro hm
        obtain ⟨j, hj, e⟩ := List.getElem_of_mem hm
        exact hno j hj hj e)
      clear hno
      go_wp2
      go_ret
      rw [HC.out]
      exact ⟨rfl, rfl⟩
theorem tIsR_any (is : Bool) (l : List UInt8) (least most : Int) (w : World) : Calls Tryd.prog 56 #[.bool is, .string (bs l), .int .i64 least, .int .i64 most] w fun e w' => e = .returned (.bool (tIsR is l least most)) ∧ w = w' := by
  have hsz := bs_size l
  cases is
  · by_cases hl : l = []
    · subst hl
      go_enter Tryd.func56, Tryd.ntmps56
      go_wp2
      go_ret
      exact ⟨rfl, rfl⟩
    · have h2 : (l == []) = false := by simpa using hl
      have HS := Lib.hid (show tIsR false l least most = false by simp [tIsR, h2])
      go_enter Tryd.func56, Tryd.ntmps56
      go_wp2
      go_ret
      rw [HS.out]
      exact ⟨by simp, rfl⟩
  · go_enter Tryd.func56, Tryd.ntmps56
    go_wp2
    all_goals (go_ret; go_light; exact ⟨ret_bool (by grind [tIsR]), rfl⟩)
theorem nIsR_any (is : Bool) (n least most : Int) (w : World) : Calls Tryd.prog 55 #[.bool is, .int .i64 n, .int .i64 least, .int .i64 most] w fun e w' => e = .returned (.bool (nIsR is n least most)) ∧ w = w' := by
  cases is
  all_goals
    go_enter Tryd.func55, Tryd.ntmps55
    go_wp2
    all_goals (go_ret; go_light; exact ⟨ret_bool (by grind [nIsR]), rfl⟩)
/-- may the attributes not be -/
def rBad (x : Change) (l : List UInt8) : Bool := if l = [] then true else if inR l 97 then !x.attr.ok else decide (x.attr ≠ attrZ)
/-- may the numbers and the texts be -/
def rNums (x : Change) (l : List UInt8) : Bool := (nIsR (inR l 101) x.epoch 1 4294967295) && (nIsR (inR l 115) x.serial 1 9223372036854775807) && (tIsR (inR l 117) x.up 1 64) && (tIsR (inR l 110) x.name 1 255) && (tIsR (inR l 99) x.child 0 64) && (nIsR (inR l 98) x.no 0 65535) && (nIsR (inR l 116) x.slot 0 65535)
/-- may a change be: the document's words -/
def rIs (x : Change) : Bool := !rBad x (rHas x.kind) && rNums x (rHas x.kind)

set_option maxRecDepth 20000 in
set_option maxHeartbeats 3200000 in
theorem refCheck17_any (x : Change) (w : World) : Calls Tryd.prog 21 #[.agg x.vals.toArray] w fun e w' => e = .returned (.bool (rIs x)) ∧ Below w.heap.size w w' := by
  have hb := Blk.new w 44 x.vals
  have hB : Below w.heap.size w (w.alloc (.cells x.vals.toArray 44)) := (Below.refl _ _).alloc (Nat.le_refl _) _
  have hc := hb.cell
  have HS := Lib.hid (show rIs x = (!rBad x (rHas x.kind) && rNums x (rHas x.kind)) from rfl)
  have hsh : (rHas x.kind).length ≤ 1000 := Nat.le_trans (rHas_short _) (by decide)
  go_enter Tryd.func21, Tryd.ntmps21
  go_wp2_with fail
  refine (refLetters_any x.kind _).mono ?_
  rintro e w1 ⟨rfl, hb1⟩
  have hX := hb.stays hb1
  have HB1 := Lib.hid (below_then hB hb1)
  have hcx := hX.cell
  have ra : rowOf w1 w.heap.size 6 10 = some x.attr.vals.toArray := hX.row 6 10 (by simp [Change.len])
  have hlt := hX.lt
  clear hb hB hc hb1 hX
  have K97 : ∀ W, Calls Tryd.prog 53 #[.string (bs (rHas x.kind)), .int .u8 97] W fun e w' => e = .returned (.bool (inR (rHas x.kind) 97)) ∧ W = w' := fun W => inR_any _ 97 W hsh
  have K101 : ∀ W, Calls Tryd.prog 53 #[.string (bs (rHas x.kind)), .int .u8 101] W fun e w' => e = .returned (.bool (inR (rHas x.kind) 101)) ∧ W = w' := fun W => inR_any _ 101 W hsh
  have K115 : ∀ W, Calls Tryd.prog 53 #[.string (bs (rHas x.kind)), .int .u8 115] W fun e w' => e = .returned (.bool (inR (rHas x.kind) 115)) ∧ W = w' := fun W => inR_any _ 115 W hsh
  have K117 : ∀ W, Calls Tryd.prog 53 #[.string (bs (rHas x.kind)), .int .u8 117] W fun e w' => e = .returned (.bool (inR (rHas x.kind) 117)) ∧ W = w' := fun W => inR_any _ 117 W hsh
  have K110 : ∀ W, Calls Tryd.prog 53 #[.string (bs (rHas x.kind)), .int .u8 110] W fun e w' => e = .returned (.bool (inR (rHas x.kind) 110)) ∧ W = w' := fun W => inR_any _ 110 W hsh
  have K99 : ∀ W, Calls Tryd.prog 53 #[.string (bs (rHas x.kind)), .int .u8 99] W fun e w' => e = .returned (.bool (inR (rHas x.kind) 99)) ∧ W = w' := fun W => inR_any _ 99 W hsh
  have K98 : ∀ W, Calls Tryd.prog 53 #[.string (bs (rHas x.kind)), .int .u8 98] W fun e w' => e = .returned (.bool (inR (rHas x.kind) 98)) ∧ W = w' := fun W => inR_any _ 98 W hsh
  have K116 : ∀ W, Calls Tryd.prog 53 #[.string (bs (rHas x.kind)), .int .u8 116] W fun e w' => e = .returned (.bool (inR (rHas x.kind) 116)) ∧ W = w' := fun W => inR_any _ 116 W hsh
  generalize rHas x.kind = l at *
  clear hsh
  go_upto_region 2 with fail
  go_cut [29] from 4 (fun v wx => v = .bool (rBad x l) ∧ Stb w1 wx)
  case first =>
    have HST1 := Lib.hid (Stb.of (Below.refl w1.heap.size w1))
    by_cases hl : l = []
    · have HV := Lib.hid (show rBad x l = true by simp [rBad, hl])
      have hl2 : (l == []) = true := by simp [hl]
      clear hl
      go_wp2
      go_meet
      case rel => exact ⟨by rw [HV.out], HST1.out⟩
    · have hl2 : (l == []) = false := by simpa using hl
      cases hi : inR l 97 with
      | true =>
        rw [hi] at K97
        have HV := Lib.hid (show rBad x l = !x.attr.ok by simp [rBad, hl, hi])
        clear hl hi
        go_wp2_with fail
        refine (K97 _).mono ?_
        rintro e w2 ⟨rfl, rfl⟩
        go_wp2_with fail
        refine (K97 _).mono ?_
        rintro e w2 ⟨rfl, rfl⟩
        go_wp2_with fail
        refine (refCheck5_any x.attr _).mono ?_
        rintro e w2 ⟨rfl, hb2⟩
        have HST2 := Lib.hid (Stb.of hb2)
        clear hb2
        go_wp2
        go_meet
        case rel => exact ⟨by rw [HV.out], HST2.out⟩
      | false =>
        rw [hi] at K97
        by_cases hz : x.attr = attrZ
        · have HV := Lib.hid (show rBad x l = false by simp [rBad, hl, hi, hz])
          have hd : decide (x.attr ≠ attrZ) = false := by simpa using hz
          clear hl hi hz
          go_wp2_with fail
          refine (K97 _).mono ?_
          rintro e w2 ⟨rfl, rfl⟩
          go_wp2_with fail
          refine (K97 _).mono ?_
          rintro e w2 ⟨rfl, rfl⟩
          go_wp2
          go_meet
          case rel => exact ⟨by rw [HV.out], HST1.out⟩
        · have HV := Lib.hid (show rBad x l = true by simp [rBad, hl, hi, hz])
          have hd : decide (x.attr ≠ attrZ) = true := by simpa using hz
          clear hl hi hz
          go_wp2_with fail
          refine (K97 _).mono ?_
          rintro e w2 ⟨rfl, rfl⟩
          go_wp2
          go_meet
          case rel => exact ⟨by rw [HV.out], HST1.out⟩
  obtain ⟨rfl, hst⟩ := hcut
  have HST := Lib.hid hst
  have hcy : ∀ i, wc.cell? ⟨w.heap.size, i, none⟩ = x.vals[i]? := fun i => (HST.out.1 _ _ hlt).trans (hcx i)
  clear hst
  cases hbad : rBad x l with
  | true =>
    rw [hbad] at HS
    have HBW := Lib.hid (below_then HB1.out HST.out.below)
    go_wp2
    go_ret
    rw [HS.out]
    exact ⟨rfl, HBW.out⟩
  | false =>
    rw [hbad] at HS
    clear hbad
    go_upto_region 4 with fail
    go_cut [2] from 4 (fun v wx => v = .bool (rNums x l) ∧ Stb w1 wx)
    case first =>
      cases h0 : nIsR (inR l 101) x.epoch 1 4294967295 with
      | false =>
        have HV := Lib.hid (show rNums x l = false by simp [rNums, h0])
        have Q0 : ∀ W, Calls Tryd.prog 55 #[.bool (inR l 101), .int .i64 x.epoch, .int .i64 1, .int .i64 4294967295] W fun e w' => e = .returned (.bool false) ∧ ∃ n, w' = W.drewN n := fun W => by rw [← h0]; exact quiet17 (nIsR_any _ _ _ _ _)
        clear h0
        go_quiet (first
          | (go_at_call_of 53 (Value.int IntKind.u8 101); refine Calls.quiet_of (quiet17 (K101 _)))
          | (go_at_call_of 55 (x.epoch); refine Calls.quiet_of (Q0 _)))
        all_goals
          go_wp2
          go_meet
          case rel => exact ⟨by rw [HV.out], by exact HST.out.drewN17 _⟩
      | true =>
        cases h1 : nIsR (inR l 115) x.serial 1 9223372036854775807 with
        | false =>
          have HV := Lib.hid (show rNums x l = false by simp [rNums, h0, h1])
          have Q0 : ∀ W, Calls Tryd.prog 55 #[.bool (inR l 101), .int .i64 x.epoch, .int .i64 1, .int .i64 4294967295] W fun e w' => e = .returned (.bool true) ∧ ∃ n, w' = W.drewN n := fun W => by rw [← h0]; exact quiet17 (nIsR_any _ _ _ _ _)
          have Q1 : ∀ W, Calls Tryd.prog 55 #[.bool (inR l 115), .int .i64 x.serial, .int .i64 1, .int .i64 9223372036854775807] W fun e w' => e = .returned (.bool false) ∧ ∃ n, w' = W.drewN n := fun W => by rw [← h1]; exact quiet17 (nIsR_any _ _ _ _ _)
          clear h0 h1
          go_quiet (first
            | (go_at_call_of 53 (Value.int IntKind.u8 101); refine Calls.quiet_of (quiet17 (K101 _)))
            | (go_at_call_of 55 (x.epoch); refine Calls.quiet_of (Q0 _))
            | (go_at_call_of 53 (Value.int IntKind.u8 115); refine Calls.quiet_of (quiet17 (K115 _)))
            | (go_at_call_of 55 (x.serial); refine Calls.quiet_of (Q1 _)))
          all_goals
            go_wp2
            go_meet
            case rel => exact ⟨by rw [HV.out], by exact HST.out.drewN17 _⟩
        | true =>
          cases h2 : tIsR (inR l 117) x.up 1 64 with
          | false =>
            have HV := Lib.hid (show rNums x l = false by simp [rNums, h0, h1, h2])
            have Q0 : ∀ W, Calls Tryd.prog 55 #[.bool (inR l 101), .int .i64 x.epoch, .int .i64 1, .int .i64 4294967295] W fun e w' => e = .returned (.bool true) ∧ ∃ n, w' = W.drewN n := fun W => by rw [← h0]; exact quiet17 (nIsR_any _ _ _ _ _)
            have Q1 : ∀ W, Calls Tryd.prog 55 #[.bool (inR l 115), .int .i64 x.serial, .int .i64 1, .int .i64 9223372036854775807] W fun e w' => e = .returned (.bool true) ∧ ∃ n, w' = W.drewN n := fun W => by rw [← h1]; exact quiet17 (nIsR_any _ _ _ _ _)
            have Q2 : ∀ W, Calls Tryd.prog 56 #[.bool (inR l 117), .string (bs x.up), .int .i64 1, .int .i64 64] W fun e w' => e = .returned (.bool false) ∧ ∃ n, w' = W.drewN n := fun W => by rw [← h2]; exact quiet17 (tIsR_any _ _ _ _ _)
            clear h0 h1 h2
            go_quiet (first
              | (go_at_call_of 53 (Value.int IntKind.u8 101); refine Calls.quiet_of (quiet17 (K101 _)))
              | (go_at_call_of 55 (x.epoch); refine Calls.quiet_of (Q0 _))
              | (go_at_call_of 53 (Value.int IntKind.u8 115); refine Calls.quiet_of (quiet17 (K115 _)))
              | (go_at_call_of 55 (x.serial); refine Calls.quiet_of (Q1 _))
              | (go_at_call_of 53 (Value.int IntKind.u8 117); refine Calls.quiet_of (quiet17 (K117 _)))
              | (go_at_call_of 56 (x.up); refine Calls.quiet_of (Q2 _)))
            all_goals
              go_wp2
              go_meet
              case rel => exact ⟨by rw [HV.out], by exact HST.out.drewN17 _⟩
          | true =>
            cases h3 : tIsR (inR l 110) x.name 1 255 with
            | false =>
              have HV := Lib.hid (show rNums x l = false by simp [rNums, h0, h1, h2, h3])
              have Q0 : ∀ W, Calls Tryd.prog 55 #[.bool (inR l 101), .int .i64 x.epoch, .int .i64 1, .int .i64 4294967295] W fun e w' => e = .returned (.bool true) ∧ ∃ n, w' = W.drewN n := fun W => by rw [← h0]; exact quiet17 (nIsR_any _ _ _ _ _)
              have Q1 : ∀ W, Calls Tryd.prog 55 #[.bool (inR l 115), .int .i64 x.serial, .int .i64 1, .int .i64 9223372036854775807] W fun e w' => e = .returned (.bool true) ∧ ∃ n, w' = W.drewN n := fun W => by rw [← h1]; exact quiet17 (nIsR_any _ _ _ _ _)
              have Q2 : ∀ W, Calls Tryd.prog 56 #[.bool (inR l 117), .string (bs x.up), .int .i64 1, .int .i64 64] W fun e w' => e = .returned (.bool true) ∧ ∃ n, w' = W.drewN n := fun W => by rw [← h2]; exact quiet17 (tIsR_any _ _ _ _ _)
              have Q3 : ∀ W, Calls Tryd.prog 56 #[.bool (inR l 110), .string (bs x.name), .int .i64 1, .int .i64 255] W fun e w' => e = .returned (.bool false) ∧ ∃ n, w' = W.drewN n := fun W => by rw [← h3]; exact quiet17 (tIsR_any _ _ _ _ _)
              clear h0 h1 h2 h3
              go_quiet (first
                | (go_at_call_of 53 (Value.int IntKind.u8 101); refine Calls.quiet_of (quiet17 (K101 _)))
                | (go_at_call_of 55 (x.epoch); refine Calls.quiet_of (Q0 _))
                | (go_at_call_of 53 (Value.int IntKind.u8 115); refine Calls.quiet_of (quiet17 (K115 _)))
                | (go_at_call_of 55 (x.serial); refine Calls.quiet_of (Q1 _))
                | (go_at_call_of 53 (Value.int IntKind.u8 117); refine Calls.quiet_of (quiet17 (K117 _)))
                | (go_at_call_of 56 (x.up); refine Calls.quiet_of (Q2 _))
                | (go_at_call_of 53 (Value.int IntKind.u8 110); refine Calls.quiet_of (quiet17 (K110 _)))
                | (go_at_call_of 56 (x.name); refine Calls.quiet_of (Q3 _)))
              all_goals
                go_wp2
                go_meet
                case rel => exact ⟨by rw [HV.out], by exact HST.out.drewN17 _⟩
            | true =>
              cases h4 : tIsR (inR l 99) x.child 0 64 with
              | false =>
                have HV := Lib.hid (show rNums x l = false by simp [rNums, h0, h1, h2, h3, h4])
                have Q0 : ∀ W, Calls Tryd.prog 55 #[.bool (inR l 101), .int .i64 x.epoch, .int .i64 1, .int .i64 4294967295] W fun e w' => e = .returned (.bool true) ∧ ∃ n, w' = W.drewN n := fun W => by rw [← h0]; exact quiet17 (nIsR_any _ _ _ _ _)
                have Q1 : ∀ W, Calls Tryd.prog 55 #[.bool (inR l 115), .int .i64 x.serial, .int .i64 1, .int .i64 9223372036854775807] W fun e w' => e = .returned (.bool true) ∧ ∃ n, w' = W.drewN n := fun W => by rw [← h1]; exact quiet17 (nIsR_any _ _ _ _ _)
                have Q2 : ∀ W, Calls Tryd.prog 56 #[.bool (inR l 117), .string (bs x.up), .int .i64 1, .int .i64 64] W fun e w' => e = .returned (.bool true) ∧ ∃ n, w' = W.drewN n := fun W => by rw [← h2]; exact quiet17 (tIsR_any _ _ _ _ _)
                have Q3 : ∀ W, Calls Tryd.prog 56 #[.bool (inR l 110), .string (bs x.name), .int .i64 1, .int .i64 255] W fun e w' => e = .returned (.bool true) ∧ ∃ n, w' = W.drewN n := fun W => by rw [← h3]; exact quiet17 (tIsR_any _ _ _ _ _)
                have Q4 : ∀ W, Calls Tryd.prog 56 #[.bool (inR l 99), .string (bs x.child), .int .i64 0, .int .i64 64] W fun e w' => e = .returned (.bool false) ∧ ∃ n, w' = W.drewN n := fun W => by rw [← h4]; exact quiet17 (tIsR_any _ _ _ _ _)
                clear h0 h1 h2 h3 h4
                go_quiet (first
                  | (go_at_call_of 53 (Value.int IntKind.u8 101); refine Calls.quiet_of (quiet17 (K101 _)))
                  | (go_at_call_of 55 (x.epoch); refine Calls.quiet_of (Q0 _))
                  | (go_at_call_of 53 (Value.int IntKind.u8 115); refine Calls.quiet_of (quiet17 (K115 _)))
                  | (go_at_call_of 55 (x.serial); refine Calls.quiet_of (Q1 _))
                  | (go_at_call_of 53 (Value.int IntKind.u8 117); refine Calls.quiet_of (quiet17 (K117 _)))
                  | (go_at_call_of 56 (x.up); refine Calls.quiet_of (Q2 _))
                  | (go_at_call_of 53 (Value.int IntKind.u8 110); refine Calls.quiet_of (quiet17 (K110 _)))
                  | (go_at_call_of 56 (x.name); refine Calls.quiet_of (Q3 _))
                  | (go_at_call_of 53 (Value.int IntKind.u8 99); refine Calls.quiet_of (quiet17 (K99 _)))
                  | (go_at_call_of 56 (x.child); refine Calls.quiet_of (Q4 _)))
                all_goals
                  go_wp2
                  go_meet
                  case rel => exact ⟨by rw [HV.out], by exact HST.out.drewN17 _⟩
              | true =>
                cases h5 : nIsR (inR l 98) x.no 0 65535 with
                | false =>
                  have HV := Lib.hid (show rNums x l = false by simp [rNums, h0, h1, h2, h3, h4, h5])
                  have Q0 : ∀ W, Calls Tryd.prog 55 #[.bool (inR l 101), .int .i64 x.epoch, .int .i64 1, .int .i64 4294967295] W fun e w' => e = .returned (.bool true) ∧ ∃ n, w' = W.drewN n := fun W => by rw [← h0]; exact quiet17 (nIsR_any _ _ _ _ _)
                  have Q1 : ∀ W, Calls Tryd.prog 55 #[.bool (inR l 115), .int .i64 x.serial, .int .i64 1, .int .i64 9223372036854775807] W fun e w' => e = .returned (.bool true) ∧ ∃ n, w' = W.drewN n := fun W => by rw [← h1]; exact quiet17 (nIsR_any _ _ _ _ _)
                  have Q2 : ∀ W, Calls Tryd.prog 56 #[.bool (inR l 117), .string (bs x.up), .int .i64 1, .int .i64 64] W fun e w' => e = .returned (.bool true) ∧ ∃ n, w' = W.drewN n := fun W => by rw [← h2]; exact quiet17 (tIsR_any _ _ _ _ _)
                  have Q3 : ∀ W, Calls Tryd.prog 56 #[.bool (inR l 110), .string (bs x.name), .int .i64 1, .int .i64 255] W fun e w' => e = .returned (.bool true) ∧ ∃ n, w' = W.drewN n := fun W => by rw [← h3]; exact quiet17 (tIsR_any _ _ _ _ _)
                  have Q4 : ∀ W, Calls Tryd.prog 56 #[.bool (inR l 99), .string (bs x.child), .int .i64 0, .int .i64 64] W fun e w' => e = .returned (.bool true) ∧ ∃ n, w' = W.drewN n := fun W => by rw [← h4]; exact quiet17 (tIsR_any _ _ _ _ _)
                  have Q5 : ∀ W, Calls Tryd.prog 55 #[.bool (inR l 98), .int .i64 x.no, .int .i64 0, .int .i64 65535] W fun e w' => e = .returned (.bool false) ∧ ∃ n, w' = W.drewN n := fun W => by rw [← h5]; exact quiet17 (nIsR_any _ _ _ _ _)
                  clear h0 h1 h2 h3 h4 h5
                  go_quiet (first
                    | (go_at_call_of 53 (Value.int IntKind.u8 101); refine Calls.quiet_of (quiet17 (K101 _)))
                    | (go_at_call_of 55 (x.epoch); refine Calls.quiet_of (Q0 _))
                    | (go_at_call_of 53 (Value.int IntKind.u8 115); refine Calls.quiet_of (quiet17 (K115 _)))
                    | (go_at_call_of 55 (x.serial); refine Calls.quiet_of (Q1 _))
                    | (go_at_call_of 53 (Value.int IntKind.u8 117); refine Calls.quiet_of (quiet17 (K117 _)))
                    | (go_at_call_of 56 (x.up); refine Calls.quiet_of (Q2 _))
                    | (go_at_call_of 53 (Value.int IntKind.u8 110); refine Calls.quiet_of (quiet17 (K110 _)))
                    | (go_at_call_of 56 (x.name); refine Calls.quiet_of (Q3 _))
                    | (go_at_call_of 53 (Value.int IntKind.u8 99); refine Calls.quiet_of (quiet17 (K99 _)))
                    | (go_at_call_of 56 (x.child); refine Calls.quiet_of (Q4 _))
                    | (go_at_call_of 53 (Value.int IntKind.u8 98); refine Calls.quiet_of (quiet17 (K98 _)))
                    | (go_at_call_of 55 (x.no); refine Calls.quiet_of (Q5 _)))
                  all_goals
                    go_wp2
                    go_meet
                    case rel => exact ⟨by rw [HV.out], by exact HST.out.drewN17 _⟩
                | true =>
                  cases h6 : nIsR (inR l 116) x.slot 0 65535 with
                  | false =>
                    have HV := Lib.hid (show rNums x l = false by simp [rNums, h0, h1, h2, h3, h4, h5, h6])
                    have Q0 : ∀ W, Calls Tryd.prog 55 #[.bool (inR l 101), .int .i64 x.epoch, .int .i64 1, .int .i64 4294967295] W fun e w' => e = .returned (.bool true) ∧ ∃ n, w' = W.drewN n := fun W => by rw [← h0]; exact quiet17 (nIsR_any _ _ _ _ _)
                    have Q1 : ∀ W, Calls Tryd.prog 55 #[.bool (inR l 115), .int .i64 x.serial, .int .i64 1, .int .i64 9223372036854775807] W fun e w' => e = .returned (.bool true) ∧ ∃ n, w' = W.drewN n := fun W => by rw [← h1]; exact quiet17 (nIsR_any _ _ _ _ _)
                    have Q2 : ∀ W, Calls Tryd.prog 56 #[.bool (inR l 117), .string (bs x.up), .int .i64 1, .int .i64 64] W fun e w' => e = .returned (.bool true) ∧ ∃ n, w' = W.drewN n := fun W => by rw [← h2]; exact quiet17 (tIsR_any _ _ _ _ _)
                    have Q3 : ∀ W, Calls Tryd.prog 56 #[.bool (inR l 110), .string (bs x.name), .int .i64 1, .int .i64 255] W fun e w' => e = .returned (.bool true) ∧ ∃ n, w' = W.drewN n := fun W => by rw [← h3]; exact quiet17 (tIsR_any _ _ _ _ _)
                    have Q4 : ∀ W, Calls Tryd.prog 56 #[.bool (inR l 99), .string (bs x.child), .int .i64 0, .int .i64 64] W fun e w' => e = .returned (.bool true) ∧ ∃ n, w' = W.drewN n := fun W => by rw [← h4]; exact quiet17 (tIsR_any _ _ _ _ _)
                    have Q5 : ∀ W, Calls Tryd.prog 55 #[.bool (inR l 98), .int .i64 x.no, .int .i64 0, .int .i64 65535] W fun e w' => e = .returned (.bool true) ∧ ∃ n, w' = W.drewN n := fun W => by rw [← h5]; exact quiet17 (nIsR_any _ _ _ _ _)
                    have Q6 : ∀ W, Calls Tryd.prog 55 #[.bool (inR l 116), .int .i64 x.slot, .int .i64 0, .int .i64 65535] W fun e w' => e = .returned (.bool false) ∧ ∃ n, w' = W.drewN n := fun W => by rw [← h6]; exact quiet17 (nIsR_any _ _ _ _ _)
                    clear h0 h1 h2 h3 h4 h5 h6
                    go_quiet (first
                      | (go_at_call_of 53 (Value.int IntKind.u8 101); refine Calls.quiet_of (quiet17 (K101 _)))
                      | (go_at_call_of 55 (x.epoch); refine Calls.quiet_of (Q0 _))
                      | (go_at_call_of 53 (Value.int IntKind.u8 115); refine Calls.quiet_of (quiet17 (K115 _)))
                      | (go_at_call_of 55 (x.serial); refine Calls.quiet_of (Q1 _))
                      | (go_at_call_of 53 (Value.int IntKind.u8 117); refine Calls.quiet_of (quiet17 (K117 _)))
                      | (go_at_call_of 56 (x.up); refine Calls.quiet_of (Q2 _))
                      | (go_at_call_of 53 (Value.int IntKind.u8 110); refine Calls.quiet_of (quiet17 (K110 _)))
                      | (go_at_call_of 56 (x.name); refine Calls.quiet_of (Q3 _))
                      | (go_at_call_of 53 (Value.int IntKind.u8 99); refine Calls.quiet_of (quiet17 (K99 _)))
                      | (go_at_call_of 56 (x.child); refine Calls.quiet_of (Q4 _))
                      | (go_at_call_of 53 (Value.int IntKind.u8 98); refine Calls.quiet_of (quiet17 (K98 _)))
                      | (go_at_call_of 55 (x.no); refine Calls.quiet_of (Q5 _))
                      | (go_at_call_of 53 (Value.int IntKind.u8 116); refine Calls.quiet_of (quiet17 (K116 _)))
                      | (go_at_call_of 55 (x.slot); refine Calls.quiet_of (Q6 _)))
                    all_goals
                      go_wp2
                      go_meet
                      case rel => exact ⟨by rw [HV.out], by exact HST.out.drewN17 _⟩
                  | true =>
                    have HV := Lib.hid (show rNums x l = true by simp [rNums, h0, h1, h2, h3, h4, h5, h6])
                    have Q0 : ∀ W, Calls Tryd.prog 55 #[.bool (inR l 101), .int .i64 x.epoch, .int .i64 1, .int .i64 4294967295] W fun e w' => e = .returned (.bool true) ∧ ∃ n, w' = W.drewN n := fun W => by rw [← h0]; exact quiet17 (nIsR_any _ _ _ _ _)
                    have Q1 : ∀ W, Calls Tryd.prog 55 #[.bool (inR l 115), .int .i64 x.serial, .int .i64 1, .int .i64 9223372036854775807] W fun e w' => e = .returned (.bool true) ∧ ∃ n, w' = W.drewN n := fun W => by rw [← h1]; exact quiet17 (nIsR_any _ _ _ _ _)
                    have Q2 : ∀ W, Calls Tryd.prog 56 #[.bool (inR l 117), .string (bs x.up), .int .i64 1, .int .i64 64] W fun e w' => e = .returned (.bool true) ∧ ∃ n, w' = W.drewN n := fun W => by rw [← h2]; exact quiet17 (tIsR_any _ _ _ _ _)
                    have Q3 : ∀ W, Calls Tryd.prog 56 #[.bool (inR l 110), .string (bs x.name), .int .i64 1, .int .i64 255] W fun e w' => e = .returned (.bool true) ∧ ∃ n, w' = W.drewN n := fun W => by rw [← h3]; exact quiet17 (tIsR_any _ _ _ _ _)
                    have Q4 : ∀ W, Calls Tryd.prog 56 #[.bool (inR l 99), .string (bs x.child), .int .i64 0, .int .i64 64] W fun e w' => e = .returned (.bool true) ∧ ∃ n, w' = W.drewN n := fun W => by rw [← h4]; exact quiet17 (tIsR_any _ _ _ _ _)
                    have Q5 : ∀ W, Calls Tryd.prog 55 #[.bool (inR l 98), .int .i64 x.no, .int .i64 0, .int .i64 65535] W fun e w' => e = .returned (.bool true) ∧ ∃ n, w' = W.drewN n := fun W => by rw [← h5]; exact quiet17 (nIsR_any _ _ _ _ _)
                    have Q6 : ∀ W, Calls Tryd.prog 55 #[.bool (inR l 116), .int .i64 x.slot, .int .i64 0, .int .i64 65535] W fun e w' => e = .returned (.bool true) ∧ ∃ n, w' = W.drewN n := fun W => by rw [← h6]; exact quiet17 (nIsR_any _ _ _ _ _)
                    clear h0 h1 h2 h3 h4 h5 h6
                    go_quiet (first
                      | (go_at_call_of 53 (Value.int IntKind.u8 101); refine Calls.quiet_of (quiet17 (K101 _)))
                      | (go_at_call_of 55 (x.epoch); refine Calls.quiet_of (Q0 _))
                      | (go_at_call_of 53 (Value.int IntKind.u8 115); refine Calls.quiet_of (quiet17 (K115 _)))
                      | (go_at_call_of 55 (x.serial); refine Calls.quiet_of (Q1 _))
                      | (go_at_call_of 53 (Value.int IntKind.u8 117); refine Calls.quiet_of (quiet17 (K117 _)))
                      | (go_at_call_of 56 (x.up); refine Calls.quiet_of (Q2 _))
                      | (go_at_call_of 53 (Value.int IntKind.u8 110); refine Calls.quiet_of (quiet17 (K110 _)))
                      | (go_at_call_of 56 (x.name); refine Calls.quiet_of (Q3 _))
                      | (go_at_call_of 53 (Value.int IntKind.u8 99); refine Calls.quiet_of (quiet17 (K99 _)))
                      | (go_at_call_of 56 (x.child); refine Calls.quiet_of (Q4 _))
                      | (go_at_call_of 53 (Value.int IntKind.u8 98); refine Calls.quiet_of (quiet17 (K98 _)))
                      | (go_at_call_of 55 (x.no); refine Calls.quiet_of (Q5 _))
                      | (go_at_call_of 53 (Value.int IntKind.u8 116); refine Calls.quiet_of (quiet17 (K116 _)))
                      | (go_at_call_of 55 (x.slot); refine Calls.quiet_of (Q6 _)))
                    all_goals
                      go_wp2
                      go_meet
                      case rel => exact ⟨by rw [HV.out], by exact HST.out.drewN17 _⟩
    obtain ⟨rfl, hst2⟩ := hcut
    have HBW := Lib.hid (below_then HB1.out hst2.below)
    clear hst2
    generalize rNums x l = b at *
    go_wp2
    go_ret
    rw [HS.out]
    exact ⟨by simp, HBW.out⟩
end Go.Proofs.YthfhdighniiodaaDoor