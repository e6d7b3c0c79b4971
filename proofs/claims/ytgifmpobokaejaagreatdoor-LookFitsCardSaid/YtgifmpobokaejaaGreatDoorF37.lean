/-
  Layer 20, walks: the document's Check of entries (written by wip/tools/gencheck20.py). Conditions: machine lists.
-/
import Derived.Test.YtgifmpobokaejaaGreatDoorF21
import Derived.Test.YtgifmpobokaejaaGreatDoorF08
import Derived.Test.YtgifmpobokaejaaGreatDoorF03
import Derived.Test.YtgifmpobokaejaaGreatDoorF25
import Derived.Test.YtgifmpobokaejaaGreatDoorF13
import Derived.Test.YtgifmpobokaejaaGreatDoorF11
import Derived.Test.YtgifmpobokaejaaGreatDoorF19
namespace Go.Proofs.YtgifmpobokaejaaGreatDoor
open Go.RowKit
attribute [local go_sem ↓] Go.wp_at_zero Go.wp_at_succ
attribute [local go_sem] rowAt_ptr rowOf_drew rowOf_drewN rowOf_alloc_past rowOf_new
attribute [local go_sem ↓] ldEntry

theorem ldPostQ {ρ : Operand → Value} {w : World} {dst : Option Tmp} {ty : TypeId} {pos : String} {after : Array Edge} {g : Option (Nat × Bool)} {x : Operand} :
    (execOp ρ ⟨dst, .load 42 x, ty, pos, after, g⟩).run Tryz.prog w = ldIf Tryz.prog w (rowAt w 11 (ρ x)) ρ ⟨dst, .load 42 x, ty, pos, after, g⟩ := ld_if 42 11 Tryz.underlying42 rfl (by kernel_rfl)
attribute [local go_sem ↓] ldPostQ

attribute [local go_sem] ldIf_some

attribute [local go_sem] Entry.at0 Entry.lat0 Entry.at1 Entry.lat1 Entry.at2 Entry.lat2 Entry.at3 Entry.lat3 Entry.at4 Entry.lat4 Entry.at5 Entry.lat5 Entry.at6 Entry.lat6 Entry.at7 Entry.lat7 Entry.at8 Entry.lat8 Entry.at9 Entry.lat9 Entry.at10 Entry.lat10 Entry.at11 Entry.lat11 Entry.at12 Entry.lat12 Entry.at13 Entry.lat13 Entry.at14 Entry.lat14 Entry.sub0_15 Entry.lsub0_15 Entry.sub3_11 Entry.lsub3_11 Entry.sub4_10 Entry.lsub4_10 Entry.len rowAt_ptr rowOf_drew rowOf_drewN

theorem leafsPost20 : leafs Tryz.prog 8 42 = some lfPost8 := by kernel_rfl
theorem guardPost20 : Tryz.prog.eqGuardType Tryz.prog.depth 42 = false := by kernel_rfl
theorem Post.inj20 {x y : Post} (h : x.vals = y.vals) : x = y := by
  obtain ⟨_, ⟨_, _, _, _, _, _, _, _, _, _⟩⟩ := x
  obtain ⟨_, ⟨_, _, _, _, _, _, _, _, _, _⟩⟩ := y
  simp only [Post.vals, Attr.vals, List.cons_append, List.nil_append, List.cons.injEq, Value.int.injEq, Value.bool.injEq, true_and, and_true] at h
  obtain ⟨h0, h1, h2, h3, h4, h5, h6, h7, h8, h9, h10⟩ := h
  subst_vars
  rfl
theorem neqPost20 (x y : Post) (w : World) : (binOp .neq 42 (.agg x.vals.toArray) (.agg y.vals.toArray)).run Tryz.prog w = .ok (.bool (decide (x ≠ y))) w := by
  by_cases h : x = y
  · rw [neq_same leafsPost20 (by kernel_rfl) w _ _ (by rfl) (by rw [h]), decide_eq_false (by simpa using h)]
  · rw [neq_other leafsPost20 (by kernel_rfl) w _ _ (by rfl) (by rfl) (fun e => h (Post.inj20 e)), decide_eq_true h]
theorem neqPostZ20 (x : Post) (w : World) : (binOp .neq 42 (.agg x.vals.toArray) (.agg #[.bool false, .int .i64 0, .int .i64 0, .int .i64 0, .int .i64 0, .int .i64 0, .int .i64 0, .int .i64 0, .int .i64 0, .int .i64 0, .int .i64 0])).run Tryz.prog w = .ok (.bool (decide (x ≠ postZ8))) w := neqPost20 x postZ8 w
attribute [local go_sem ↓] neqPost20 neqPostZ20

attribute [local go_sem] guardPost20

theorem quiet20 {P : Program} {f : FuncId} {args : Array Value} {w : World} {v : Value} (h : Calls P f args w fun e w' => e = .returned v ∧ w = w') : Calls P f args w fun e w' => e = .returned v ∧ ∃ n, w' = w.drewN n := h.mono fun _ _ ⟨h1, h2⟩ => ⟨h1, 0, h2.symm⟩

/-- what Check tells: where it says yes, Cookies rise, and names are short -/
def goodL (l : List Entry) : Prop := (∀ x ∈ l, 1 ≤ x.cookie ∧ x.name.length ≤ 24) ∧ ∀ (i : Nat) (h : i + 1 < l.length), l[i].cookie < l[i + 1].cookie
def goodK (l : List Entry) (k : Nat) : Prop := (∀ (i : Nat) (h : i < l.length), i < k → 1 ≤ l[i].cookie ∧ l[i].name.length ≤ 24) ∧ ∀ (i : Nat) (h : i + 1 < l.length), i + 1 < k → l[i].cookie < l[i + 1].cookie
theorem goodK.next {l : List Entry} {k : Nat} (h : goodK l k) (hk : k < l.length) (h1 : 1 ≤ l[k].cookie) (h2 : l[k].name.length ≤ 24) (h3 : ∀ (h0 : 0 < k), l[k - 1].cookie < l[k].cookie) : goodK l (k + 1) := by
  refine ⟨fun i hi hik => ?_, fun i hi hik => ?_⟩
  · rcases Nat.lt_or_ge i k with h' | h'
    · exact h.1 i hi h'
    · obtain rfl : i = k := by omega
      exact ⟨h1, h2⟩
  · rcases Nat.lt_or_ge (i + 1) k with h' | h'
    · exact h.2 i hi h'
    · obtain rfl : k = i + 1 := by omega
      exact h3 (by omega)
theorem goodK.all {l : List Entry} (h : goodK l l.length) : goodL l := ⟨fun x hx => by
  obtain ⟨i, hi, rfl⟩ := List.getElem_of_mem hx
  exact h.1 i hi hi, fun i hi => h.2 i hi hi⟩
def SaysG (l : List Entry) (w : World) (e : Ending) (w' : World) : Prop := ∃ b, e = .returned (.bool b) ∧ (b = true → goodL l) ∧ Below w.heap.size w w'
theorem SaysG.no {l : List Entry} {w w' : World} (hb : Below w.heap.size w w') : SaysG l w (.returned (.bool false)) w' := ⟨false, rfl, (fun h => by cases h), hb⟩
theorem SaysG.yes {l : List Entry} {w w' : World} (h : goodL l) (hb : Below w.heap.size w w') : SaysG l w (.returned (.bool true)) w' := ⟨true, rfl, (fun _ => h), hb⟩

set_option maxRecDepth 20000 in
set_option maxHeartbeats 6400000 in
theorem refCheck20_any (A : Option Addr) (c : Nat) (l : List Entry) (w : World) (hl : l.length ≤ 70) (hn : ∀ x ∈ l, x.name.length ≤ 300) (hA : At w 15 A (l.map Entry.vals)) :
    Calls Tryz.prog 67 #[.slice A l.length c] w (SaysG l w) := by
  go_enter Tryz.func67, Tryz.ntmps67
  go_wp2
  go_loopw [3] (fun i wr => ∃ k : Nat, k ≤ l.length ∧ i = .int .i64 k ∧ goodK l k ∧ Below w.heap.size w wr) (fun i _ => l.length - (intOf i).toNat)
  case atStart => exact ⟨0, Nat.zero_le _, rfl, ⟨fun _ _ h => absurd h (Nat.not_lt_zero _), fun _ _ h => absurd h (Nat.not_lt_zero _)⟩, Below.refl _ _⟩
  case round =>
    obtain ⟨k, hk, rfl, hG, hb⟩ := hrel
    by_cases hlk : k < l.length
    · have hAr := hA.below hb
      obtain ⟨b, off, rfl, hb1, r1, -⟩ := rowCell8 Entry.len (by omega) hAr hlk
      have hZ := Blk.new wr 80 l[k].vals
      have hba : Below wr.heap.size wr (wr.alloc (.cells l[k].vals.toArray 80)) := (Below.refl _ _).alloc (Nat.le_refl _) _
      have hA1 := hAr.below hba
      have hnk := hn l[k] (List.getElem_mem hlk)
      have hkp : k - 1 < l.length := by omega
      have hprev : ∀ (_ : 0 < k), (wr.alloc (.cells l[k].vals.toArray 80)).cell? ⟨b, off + (k - 1) * 15 + 2, none⟩ = some (.int .i64 (l[k - 1]'hkp).cookie) := fun h0 => by
        obtain ⟨b', o', e', -, -, hc'⟩ := rowCell8 Entry.len (by omega) hA1 (k := k - 1) (by omega)
        injection e' with e'
        injection e' with e1 e2 _
        subst e1 e2
        exact hc' 2 (.int .i64 (l[k - 1]'hkp).cookie) rfl
      have hnx := fun (h1 : 1 ≤ l[k].cookie) (h2 : l[k].name.length ≤ 24) (h3 : 0 < k → (l[k - 1]'hkp).cookie < l[k].cookie) => hG.next hlk h1 h2 (fun h0 => h3 h0)
      have HNX := Lib.hid hnx
      have HB := Lib.hid (below_then hb hba)
      have KF : ∀ n, Calls Tryz.prog 99 #[.slice (some ⟨b, off, none⟩) l.length c, .string (bs l[k].name)] ((wr.alloc (.cells l[k].vals.toArray 80)).drewN n) fun e w' => e = .returned (.int .i64 (findName l l[k].name)) ∧ ∃ m, w' = ((wr.alloc (.cells l[k].vals.toArray 80)).drewN n).drewN m :=
        fun n => quiet20 (refFind20_any _ c l l[k].name _ (by omega) hA1)
      have KN : ∀ W, Calls Tryz.prog 100 #[.string (bs l[k].name)] W fun e w' => e = .returned (.int .i64 (nameSt l[k].name)) ∧ ∃ m, w' = W.drewN m := fun W => quiet20 (refCheck4_any l[k].name W (by omega))
      have hsh := fun (h : nameSt l[k].name = 0) => nameSt_short h
      have HSH := Lib.hid hsh
      clear hnx hsh hG hb hA1 hAr hnk
      generalize findName l l[k].name = F at *
      generalize nameSt l[k].name = N at *
      have HLK := Lib.hid hlk
      have hk0 : (0 : Int) ≤ (k : Int) := Int.natCast_nonneg _
      have hk1 : (k : Int) < (l.length : Int) := by omega
      generalize (l[k - 1]'hkp).cookie = pc at *
      generalize l[k] = x at *
      obtain ⟨w1, hw1⟩ : ∃ u, u = wr.alloc (.cells x.vals.toArray 80) := ⟨_, rfl⟩
      have HW1 := Lib.hid hw1
      rw [← hw1] at hZ hprev KF HB
      clear hw1 hba
      go_upto_region 5 with (first | (refine wpList_new_struct (by rfl) (by rfl) 80 (by rfl) _ _ (by rfl) x.vals infoEntry2 (by rfl) (by rfl) (Entry.one _) (by rfl) (by rfl) ?_; rw [← HW1.out]) | fail)
      go_frame
      have f0 : w1.cell? ⟨wr.heap.size, 0, none⟩ = some (.int .i64 x.gen) := hZ.cell 0
      have f1 : w1.cell? ⟨wr.heap.size, 1, none⟩ = some (.string (bs x.name)) := hZ.cell 1
      have f2 : w1.cell? ⟨wr.heap.size, 2, none⟩ = some (.int .i64 x.cookie) := hZ.cell 2
      have f14 : w1.cell? ⟨wr.heap.size, 14, none⟩ = some (.string (bs x.fh)) := hZ.cell 14
      have f3 : rowOf w1 wr.heap.size 3 11 = some x.attr.vals.toArray := hZ.row 3 11 (by simp [Entry.len])
      clear hZ HW1 r1
      by_cases q0 : x.gen < 1
      · have d0 : decide (x.gen < 1) = true := decide_eq_true q0
        clear q0
        clear HNX HSH hprev hkp
        go_quiet (first
          | (go_at_call_of 99 (x.name); refine Calls.quiet_of (KF _))
          | (go_at_call_of 100 (x.name); refine Calls.quiet_of (KN _)))
        all_goals
          go_wp2
          go_ret
          exact SaysG.no (bdN HB.out _)
      · have d0 : decide (x.gen < 1) = false := decide_eq_false q0
        by_cases q1 : x.cookie < 1
        · have d1 : decide (x.cookie < 1) = true := decide_eq_true q1
          clear q0 q1
          clear HNX HSH hprev hkp
          go_quiet (first
            | (go_at_call_of 99 (x.name); refine Calls.quiet_of (KF _))
            | (go_at_call_of 100 (x.name); refine Calls.quiet_of (KN _)))
          all_goals
            go_wp2
            go_ret
            exact SaysG.no (bdN HB.out _)
        · have d1 : decide (x.cookie < 1) = false := decide_eq_false q1
          by_cases q2 : x.fh ≠ []
          · have d2 : (x.fh == []) = false := beq_false_of_ne q2
            have d2b : (x.fh != []) = true := by simpa using q2
            clear q0 q1 q2
            clear HNX HSH hprev hkp
            go_quiet (first
              | (go_at_call_of 99 (x.name); refine Calls.quiet_of (KF _))
              | (go_at_call_of 100 (x.name); refine Calls.quiet_of (KN _)))
            all_goals
              go_wp2
              go_ret
              exact SaysG.no (bdN HB.out _)
          · have d2 : (x.fh == []) = true := by simpa using q2
            have d2b : (x.fh != []) = false := by simpa using q2
            by_cases q3 : x.attr ≠ postZ8
            · have d3 : decide (x.attr ≠ postZ8) = true := decide_eq_true q3
              clear q0 q1 q2 q3
              clear HNX HSH hprev hkp
              go_quiet (first
                | (go_at_call_of 99 (x.name); refine Calls.quiet_of (KF _))
                | (go_at_call_of 100 (x.name); refine Calls.quiet_of (KN _)))
              all_goals
                go_wp2
                go_ret
                exact SaysG.no (bdN HB.out _)
            · have d3 : decide (x.attr ≠ postZ8) = false := decide_eq_false q3
              by_cases q4 : F ≠ (k : Int)
              · have d4 : (F != (k : Int)) = true := by simpa using q4
                clear q0 q1 q2 q3 q4
                clear HNX HSH hprev hkp
                go_quiet (first
                  | (go_at_call_of 99 (x.name); refine Calls.quiet_of (KF _))
                  | (go_at_call_of 100 (x.name); refine Calls.quiet_of (KN _)))
                all_goals
                  go_wp2
                  go_ret
                  exact SaysG.no (bdN HB.out _)
              · have d4 : (F != (k : Int)) = false := by simpa using q4
                by_cases q5 : N ≠ 0
                · have d5 : (N != 0) = true := by simpa using q5
                  clear q0 q1 q2 q3 q4 q5
                  clear HNX HSH hprev hkp
                  go_quiet (first
                    | (go_at_call_of 99 (x.name); refine Calls.quiet_of (KF _))
                    | (go_at_call_of 100 (x.name); refine Calls.quiet_of (KN _)))
                  all_goals
                    go_wp2
                    go_ret
                    exact SaysG.no (bdN HB.out _)
                · have d5 : (N != 0) = false := by simpa using q5
                  have hne : N = 0 := by simpa using q5
                  have hck : 1 ≤ x.cookie := by omega
                  have hshort := HSH.out hne
                  by_cases q6 : 0 < k
                  · have d6 : decide ((0 : Int) < (k : Int)) = true := decide_eq_true (by omega)
                    have hp := hprev q6
                    have hwp : IntKind.i64.wrap ((k : Int) - 1) = ((k - 1 : Nat) : Int) := by rw [IntWalk.i64_in _ (by omega)]; omega
                    have hkq : ((k - 1 : Nat) : Int) < (l.length : Int) := by omega
                    have hkq0 : (0 : Int) ≤ ((k - 1 : Nat) : Int) := Int.natCast_nonneg _
                    by_cases q7 : x.cookie ≤ pc
                    · have d7 : decide (x.cookie ≤ pc) = true := decide_eq_true q7
                      clear q0 q1 q2 q3 q4 q5 q7 HNX HSH hprev
                      go_quiet (first
                        | (go_at_call_of 99 (x.name); refine Calls.quiet_of (KF _))
                        | (go_at_call_of 100 (x.name); refine Calls.quiet_of (KN _)))
                      all_goals
                        go_wp2
                        go_ret
                        exact SaysG.no (bdN HB.out _)
                    · have d7 : decide (x.cookie ≤ pc) = false := decide_eq_false q7
                      have HN := Lib.hid (HNX.out hck hshort (fun _ => by omega))
                      clear q0 q1 q2 q3 q4 q5 q7 HNX HSH hprev hck hshort hne
                      go_quiet (first
                        | (go_at_call_of 99 (x.name); refine Calls.quiet_of (KF _))
                        | (go_at_call_of 100 (x.name); refine Calls.quiet_of (KN _)))
                      all_goals
                        go_wp2
                        go_roundw
                        case rel => exact ⟨k + 1, by have := HLK.out; omega, by go_num, HN.out, bdN HB.out _⟩
                        case measure => have := HLK.out; simp [intOf]; omega
                  · have d6 : decide ((0 : Int) < (k : Int)) = false := decide_eq_false (by omega)
                    have HN := Lib.hid (HNX.out hck hshort (fun h => absurd h q6))
                    clear q0 q1 q2 q3 q4 q5 HNX HSH hprev hck hshort hne
                    go_quiet (first
                      | (go_at_call_of 99 (x.name); refine Calls.quiet_of (KF _))
                      | (go_at_call_of 100 (x.name); refine Calls.quiet_of (KN _)))
                    all_goals
                      go_wp2
                      go_roundw
                      case rel => exact ⟨k + 1, by have := HLK.out; omega, by go_num, HN.out, bdN HB.out _⟩
                      case measure => have := HLK.out; simp [intOf]; omega
    · obtain rfl : k = l.length := by omega
      have HG := Lib.hid hG.all
      have hk1 : ¬ (l.length : Int) < (l.length : Int) := by omega
      clear hG hA hlk
      go_wp2
      go_ret
      exact SaysG.yes HG.out hb
end Go.Proofs.YtgifmpobokaejaaGreatDoor

/-
  Layer 8, walks of the document's own: has, num, entries. No condition but machine texts.
-/
namespace Go.Proofs.YtgifmpobokaejaaGreatDoor
open Go.RowKit
open Go.RowKit
attribute [local go_sem ↓] Go.wp_at_zero Go.wp_at_succ
attribute [local go_sem] rowAt_ptr rowOf_drew rowOf_drewN rowOf_alloc_past rowOf_new
attribute [local go_sem ↓] ldEntry ldPost neqPostZ20

set_option maxHeartbeats 800000 in
theorem refHas8_any (l : List UInt8) (c : UInt8) (w : World) (hl : l.length ≤ 1000) : Calls Tryz.prog 49 #[.string (bs l), .int .u8 c.toNat] w fun e w' => e = .returned (.bool (l.contains c)) ∧ w = w' := by
  have hsz := bs_size l
  go_enter Tryz.func49, Tryz.ntmps49
  go_wp2
  go_loopw [5] (fun iv wr => ∃ k : Nat, k ≤ l.length ∧ iv = .int .i64 k ∧ (∀ j (hj : j < l.length), j < k → l[j] ≠ c) ∧ wr = w) (fun iv _ => l.length - (intOf iv).toNat)
  case atStart => exact ⟨0, Nat.zero_le _, rfl, fun _ _ h => absurd h (Nat.not_lt_zero _), rfl⟩
  case round =>
    obtain ⟨k, hk, rfl, hno, rfl⟩ := hrel
    by_cases hlt : k < l.length
    · by_cases he : l[k] = c
      · have HC := Lib.hid (show l.contains c = true by rw [List.contains_iff_mem, ← he]; exact List.getElem_mem hlt)
        have hq : ((((bs l)[k]'(by rw [hsz]; exact hlt)).toNat : Int) == (c.toNat : Int)) = true := by rw [bs_get, he]; simp
        go_wp2
        go_ret
        rw [HC.out]
        exact ⟨rfl, rfl⟩
      · have hq : ((((bs l)[k]'(by rw [hsz]; exact hlt)).toNat : Int) == (c.toNat : Int)) = false := beq_false_of_ne fun h => he (UInt8.toNat_inj.1 (by rw [bs_get] at h; omega))
        have HN := Lib.hid (show ∀ j (hj : j < l.length), j < k + 1 → l[j] ≠ c from fun j hj h => by
          rcases Nat.lt_or_ge j k with h3 | h3
          · exact hno j hj h3
          · obtain rfl : j = k := by omega
            exact he)
        clear hno
        go_wp2
        go_roundw
        case rel => exact ⟨k + 1, by omega, by go_num, HN.out, trivial⟩
        case measure => simp [intOf]; omega
    · obtain rfl : k = l.length := by omega
      have HC := Lib.hid (show l.contains c = false by
        rw [← Bool.not_eq_true, List.contains_iff_mem]
        intro hm
        obtain ⟨j, hj, e⟩ := List.getElem_of_mem hm
        exact hno j hj hj e)
      clear hno
      go_wp2
      go_ret
      rw [HC.out]
      exact ⟨rfl, rfl⟩
theorem refNum8_any (is : Bool) (n most : Int) (w : World) : Calls Tryz.prog 50 #[.bool is, .int .i64 n, .int .i64 most] w fun e w' => e = .returned (.bool (if is then decide (0 ≤ n) && decide (n ≤ most) else n == 0)) ∧ w = w' := by
  cases is
  all_goals
    go_enter Tryz.func50, Tryz.ntmps50
    go_wp2
    all_goals (go_ret; go_light; exact ⟨ret_bool (by grind), rfl⟩)
/-- may an entry be, of a list with attributes or without? -/
def EntOk (whole : Bool) (x : Entry) : Prop := 0 ≤ x.gen ∧ 0 ≤ x.cookie ∧ x.name.length ≤ 255 ∧ x.fh.length ≤ 64 ∧ x.attr.ok = true ∧ (whole = false → x.fh = [] ∧ x.attr = postZ8)
set_option maxRecDepth 20000 in
set_option maxHeartbeats 3200000 in
theorem refEntriesPlain8_any (A : Option Addr) (c : Nat) (l : List Entry) (w : World) (hl : l.length ≤ 64) (hok : ∀ x ∈ l, EntOk false x) (hA : At w 15 A (l.map Entry.vals)) :
    Calls Tryz.prog 51 #[.slice A l.length c, .bool true, .bool false] w fun e w' => e = .returned (.bool true) ∧ Below w.heap.size w w' := by
  have hl1 : ¬ (64 : Int) < (l.length : Int) := by omega
  have HOK := Lib.hid hok
  have HA := Lib.hid hA
  clear hok hA
  go_enter Tryz.func51, Tryz.ntmps51
  go_wp2
  go_loopw [7] (fun i wr => ∃ k : Nat, k ≤ l.length ∧ i = .int .i64 k ∧ Below w.heap.size w wr) (fun i _ => l.length - (intOf i).toNat)
  case atStart => exact ⟨0, Nat.zero_le _, rfl, Below.refl _ _⟩
  case round =>
    obtain ⟨k, hk, rfl, hb⟩ := hrel
    have hk0 : (0 : Int) ≤ (k : Int) := Int.natCast_nonneg _
    by_cases hlt : k < l.length
    · have hk1 : (k : Int) < (l.length : Int) := by omega
      have hiw : IntKind.i64.wrap ((k : Int) + 1) = ((k + 1 : Nat) : Int) := by rw [IntWalk.i64_in _ (by omega)]; omega
      obtain ⟨b1, o1, rfl, hb1, rl, -⟩ := rowCell8 Entry.len (by decide) (HA.out.below hb) hlt
      obtain ⟨g1, g2, g3, g4, g5, g6⟩ := HOK.out _ (List.getElem_mem hlt)
      have G6 := Lib.hid g6
      have bE := Blk.new wr 80 l[k].vals
      have hbE : Below wr.heap.size wr (wr.alloc (.cells l[k].vals.toArray 80)) := (Below.refl _ _).alloc (Nat.le_refl _) _
      have HBw := Lib.hid hb
      generalize l[k] = x at *
      have hn := bs_size x.name
      have hf := bs_size x.fh
      clear hb g6
      go_upto_region 7 with (first | (refine wpList_new_struct (by rfl) (by rfl) 80 (by rfl) _ _ (by rfl) x.vals infoEntry2 (by rfl) (by rfl) (Entry.one _) (by rfl) (by rfl) ?_) | fail)
      generalize wr.alloc (.cells x.vals.toArray 80) = w5 at *
      have c0 : w5.cell? ⟨wr.heap.size, 0, none⟩ = some (.int .i64 x.gen) := bE.cell 0
      have c1 : w5.cell? ⟨wr.heap.size, 1, none⟩ = some (.string (bs x.name)) := bE.cell 1
      have c2 : w5.cell? ⟨wr.heap.size, 2, none⟩ = some (.int .i64 x.cookie) := bE.cell 2
      have r3 : rowOf w5 wr.heap.size 3 11 = some x.attr.vals.toArray := bE.row 3 11 (by rw [Entry.len]; omega)
      have c14 : w5.cell? ⟨wr.heap.size, 14, none⟩ = some (.string (bs x.fh)) := bE.cell 14
      have hlE := bE.lt
      have i0 : ¬ x.gen < 0 := by omega
      have i1 : ¬ x.cookie < 0 := by omega
      have i2 : ¬ (255 : Int) < (x.name.length : Int) := by omega
      have i3 : ¬ (64 : Int) < (x.fh.length : Int) := by omega
      have HB5 := Lib.hid (HBw.out.trans (hbE.mono HBw.out.size))
      have KP := Lib.hid (fun W => refPost5_any x.attr W)
      rw [g5] at KP
      clear rl hbE bE g5
      go_wp2_with fail
      refine (KP.out _).mono ?_
      rintro e w6 ⟨rfl, hb6⟩
      replace r3 := (rowOf_below hb6 hlE 3 11).trans r3
      replace c14 := (hb6.cell (p := ⟨wr.heap.size, 14, none⟩) hlE).trans c14
      have HB6 := Lib.hid (HB5.out.trans (hb6.mono HB5.out.size))
      clear hb6 c0 c1 c2 KP
      obtain ⟨gf, ga⟩ := G6.out (by trivial)
      rw [ga] at r3
      rw [gf] at c14
      have hz : (bs ([] : List UInt8)) = ⟨#[]⟩ := rfl
      rw [hz] at c14
      clear gf ga hz
      go_wp2
      go_roundw
      case rel => exact ⟨k + 1, by omega, by first | rfl | go_num, HB6.out⟩
      case measure => simp [intOf]; omega
    · obtain rfl : k = l.length := by omega
      have hlm : ¬ (l.length : Int) < (l.length : Int) := by omega
      have HBw := Lib.hid hb
      go_wp2
      go_ret
      exact ⟨rfl, HBw.out⟩
set_option maxRecDepth 20000 in
set_option maxHeartbeats 3200000 in
theorem refEntriesWhole8_any (A : Option Addr) (c : Nat) (l : List Entry) (w : World) (hl : l.length ≤ 64) (hok : ∀ x ∈ l, EntOk true x) (hA : At w 15 A (l.map Entry.vals)) :
    Calls Tryz.prog 51 #[.slice A l.length c, .bool false, .bool true] w fun e w' => e = .returned (.bool true) ∧ Below w.heap.size w w' := by
  have hl1 : ¬ (64 : Int) < (l.length : Int) := by omega
  have HOK := Lib.hid hok
  have HA := Lib.hid hA
  clear hok hA
  go_enter Tryz.func51, Tryz.ntmps51
  go_wp2
  go_loopw [7] (fun i wr => ∃ k : Nat, k ≤ l.length ∧ i = .int .i64 k ∧ Below w.heap.size w wr) (fun i _ => l.length - (intOf i).toNat)
  case atStart => exact ⟨0, Nat.zero_le _, rfl, Below.refl _ _⟩
  case round =>
    obtain ⟨k, hk, rfl, hb⟩ := hrel
    have hk0 : (0 : Int) ≤ (k : Int) := Int.natCast_nonneg _
    by_cases hlt : k < l.length
    · have hk1 : (k : Int) < (l.length : Int) := by omega
      have hiw : IntKind.i64.wrap ((k : Int) + 1) = ((k + 1 : Nat) : Int) := by rw [IntWalk.i64_in _ (by omega)]; omega
      obtain ⟨b1, o1, rfl, hb1, rl, -⟩ := rowCell8 Entry.len (by decide) (HA.out.below hb) hlt
      obtain ⟨g1, g2, g3, g4, g5, g6⟩ := HOK.out _ (List.getElem_mem hlt)
      have G6 := Lib.hid g6
      have bE := Blk.new wr 80 l[k].vals
      have hbE : Below wr.heap.size wr (wr.alloc (.cells l[k].vals.toArray 80)) := (Below.refl _ _).alloc (Nat.le_refl _) _
      have HBw := Lib.hid hb
      generalize l[k] = x at *
      have hn := bs_size x.name
      have hf := bs_size x.fh
      clear hb g6
      go_upto_region 7 with (first | (refine wpList_new_struct (by rfl) (by rfl) 80 (by rfl) _ _ (by rfl) x.vals infoEntry2 (by rfl) (by rfl) (Entry.one _) (by rfl) (by rfl) ?_) | fail)
      generalize wr.alloc (.cells x.vals.toArray 80) = w5 at *
      have c0 : w5.cell? ⟨wr.heap.size, 0, none⟩ = some (.int .i64 x.gen) := bE.cell 0
      have c1 : w5.cell? ⟨wr.heap.size, 1, none⟩ = some (.string (bs x.name)) := bE.cell 1
      have c2 : w5.cell? ⟨wr.heap.size, 2, none⟩ = some (.int .i64 x.cookie) := bE.cell 2
      have r3 : rowOf w5 wr.heap.size 3 11 = some x.attr.vals.toArray := bE.row 3 11 (by rw [Entry.len]; omega)
      have c14 : w5.cell? ⟨wr.heap.size, 14, none⟩ = some (.string (bs x.fh)) := bE.cell 14
      have hlE := bE.lt
      have i0 : ¬ x.gen < 0 := by omega
      have i1 : ¬ x.cookie < 0 := by omega
      have i2 : ¬ (255 : Int) < (x.name.length : Int) := by omega
      have i3 : ¬ (64 : Int) < (x.fh.length : Int) := by omega
      have HB5 := Lib.hid (HBw.out.trans (hbE.mono HBw.out.size))
      have KP := Lib.hid (fun W => refPost5_any x.attr W)
      rw [g5] at KP
      clear rl hbE bE g5
      go_wp2_with fail
      refine (KP.out _).mono ?_
      rintro e w6 ⟨rfl, hb6⟩
      replace r3 := (rowOf_below hb6 hlE 3 11).trans r3
      replace c14 := (hb6.cell (p := ⟨wr.heap.size, 14, none⟩) hlE).trans c14
      have HB6 := Lib.hid (HB5.out.trans (hb6.mono HB5.out.size))
      clear hb6 c0 c1 c2 KP
      clear G6
      go_wp2
      go_roundw
      case rel => exact ⟨k + 1, by omega, by first | rfl | go_num, HB6.out⟩
      case measure => simp [intOf]; omega
    · obtain rfl : k = l.length := by omega
      have hlm : ¬ (l.length : Int) < (l.length : Int) := by omega
      have HBw := Lib.hid hb
      go_wp2
      go_ret
      exact ⟨rfl, HBw.out⟩
set_option maxHeartbeats 800000 in
theorem refEntriesNone8_any (A : Option Addr) (c : Nat) (w : World) : Calls Tryz.prog 51 #[.slice A 0 c, .bool false, .bool false] w fun e w' => e = .returned (.bool true) ∧ Below w.heap.size w w' := by
  go_enter Tryz.func51, Tryz.ntmps51
  go_wp2
  go_loopw [7] (fun i wr => i = .int .i64 0 ∧ wr = w) (fun _ _ => 0)
  case atStart => exact ⟨rfl, rfl⟩
  case round =>
    obtain ⟨rfl, rfl⟩ := hrel
    go_wp2
    go_ret
    exact ⟨rfl, Below.refl _ _⟩
end Go.Proofs.YtgifmpobokaejaaGreatDoor


/-
  Layer 8, walks: results that may be are told to be by the document's Check. Condition: what Check asks.
-/
namespace Go.Proofs.YtgifmpobokaejaaGreatDoor
open Go.RowKit
open Go.RowKit
attribute [local go_sem ↓] Go.wp_at_zero Go.wp_at_succ
attribute [local go_sem] rowAt_ptr rowOf_drew rowOf_drewN rowOf_alloc_past rowOf_new
attribute [local go_sem ↓] ldPost ldWcc neqPostZ20

attribute [local go_sem] guardPost20

theorem leafsWccF : leafs Tryz.prog 8 44 = some lfWcc8 := by kernel_rfl
theorem guardWccF : Tryz.prog.eqGuardType Tryz.prog.depth 44 = false := by kernel_rfl
theorem Wcc.injF {x y : Wcc} (h : x.vals = y.vals) : x = y := by
  obtain ⟨⟨_, _⟩, ⟨_, ⟨_, _, _, _, _, _, _, _, _, _⟩⟩⟩ := x
  obtain ⟨⟨_, _⟩, ⟨_, ⟨_, _, _, _, _, _, _, _, _, _⟩⟩⟩ := y
  simp only [Wcc.vals, Opt.vals, Post.vals, Attr.vals, List.cons_append, List.nil_append, List.cons.injEq, Value.int.injEq, Value.bool.injEq, true_and, and_true] at h
  obtain ⟨h0, h1, h2, h3, h4, h5, h6, h7, h8, h9, h10, h11, h12⟩ := h
  subst_vars
  rfl
def wccZ8 : Wcc := ⟨⟨false, 0⟩, postZ8⟩
theorem neqWccF (x y : Wcc) (w : World) : (binOp .neq 44 (.agg x.vals.toArray) (.agg y.vals.toArray)).run Tryz.prog w = .ok (.bool (decide (x ≠ y))) w := by
  by_cases h : x = y
  · rw [neq_same leafsWccF (by kernel_rfl) w _ _ (by rfl) (by rw [h]), decide_eq_false (by simpa using h)]
  · rw [neq_other leafsWccF (by kernel_rfl) w _ _ (by rfl) (by rfl) (fun e => h (Wcc.injF e)), decide_eq_true h]
theorem neqWccZ8 (x : Wcc) (w : World) : (binOp .neq 44 (.agg x.vals.toArray) (.agg #[.bool false, .int .i64 0, .bool false, .int .i64 0, .int .i64 0, .int .i64 0, .int .i64 0, .int .i64 0, .int .i64 0, .int .i64 0, .int .i64 0, .int .i64 0, .int .i64 0])).run Tryz.prog w = .ok (.bool (decide (x ≠ wccZ8))) w := neqWccF x wccZ8 w
attribute [local go_sem ↓] neqWccZ8

attribute [local go_sem] guardWccF

/-- may a number be? -/
def NumOk (is : Bool) (n most : Int) : Prop := (is = true → 0 ≤ n ∧ n ≤ most) ∧ (is = false → n = 0)
/-- may entries be, as a procedure lays them? -/
def EntsRep (plain whole : Bool) (es : List Entry) : Prop := (plain = true ∧ whole = false ∧ es.length ≤ 64 ∧ ∀ x ∈ es, EntOk false x) ∨ (plain = false ∧ whole = true ∧ es.length ≤ 64 ∧ ∀ x ∈ es, EntOk true x) ∨ (plain = false ∧ whole = false ∧ es = [])
/-- which letters there are -/
def inL (l : List UInt8) (c : UInt8) : Bool := l.contains c
/-- may results be, with these letters? -/
structure RepOk (L : List UInt8) (z : Reply) (es : List Entry) (us : List Int) : Prop where
  st : pKnown z.status = true
  oks : z.obj.ok = true ∧ z.dir.ok = true ∧ z.wcc.ok = true ∧ z.wcc2.ok = true
  posts : (inL L 97 = false → z.obj = postZ8) ∧ (inL L 68 = false → z.dir = postZ8) ∧ (inL L 119 = false → z.wcc = wccZ8) ∧ (inL L 87 = false → z.wcc2 = wccZ8)
  texts : z.fh.length ≤ 64 ∧ (inL L 104 = false → z.fh = []) ∧ z.data.length ≤ 256 ∧ (inL L 100 = false → z.data = []) ∧ (inL L 101 = false → z.eof = false)
  nums : us.length ≤ 16 ∧ (inL L 110 = false → us = []) ∧ ∀ u ∈ us, 0 ≤ u
  ints : NumOk (inL L 120) z.access 4294967295 ∧ NumOk (inL L 99) z.count 4294967295 ∧ NumOk (inL L 115) z.stable 4294967295 ∧ NumOk (inL L 118) z.verf 9223372036854775807
  ents : EntsRep (inL L 108) (inL L 112) es
theorem refNumOk8 (is : Bool) (n most : Int) (h : NumOk is n most) (w : World) : Calls Tryz.prog 50 #[.bool is, .int .i64 n, .int .i64 most] w fun e w' => e = .returned (.bool true) ∧ w = w' :=
  (refNum8_any is n most w).mono fun e w' ⟨h1, h2⟩ => ⟨by
    rw [h1]
    cases is
    · rw [h.2 rfl]; rfl
    · obtain ⟨h3, h4⟩ := h.1 rfl
      simp [h3, h4], h2⟩
theorem refEntsOk8 (pl wh : Bool) (A : Option Addr) (c : Nat) (es : List Entry) (h : EntsRep pl wh es) (w : World) (hA : At w 15 A (es.map Entry.vals)) : Calls Tryz.prog 51 #[.slice A es.length c, .bool pl, .bool wh] w fun e w' => e = .returned (.bool true) ∧ Below w.heap.size w w' := by
  rcases h with ⟨rfl, rfl, h1, h2⟩ | ⟨rfl, rfl, h1, h2⟩ | ⟨rfl, rfl, rfl⟩
  · exact refEntriesPlain8_any A c es w h1 h2 hA
  · exact refEntriesWhole8_any A c es w h1 h2 hA
  · exact refEntriesNone8_any A c w
end Go.Proofs.YtgifmpobokaejaaGreatDoor
