/-
  Layer 20, walks: the document's Check of entries (written by wip/tools/gencheck20.py). Conditions: machine lists.
-/
import Derived.Test.YtgifmpobokaejaaGreatDoorM19
import Derived.Test.YtgifmpobokaejaaGreatDoorM08
import Derived.Test.YtgifmpobokaejaaGreatDoorM03
import Derived.OwnWalk
namespace Go.Proofs.YtgifmpobokaejaaGreatDoor
open Go.RowKit
attribute [local go_sem ↓] Go.wp_at_zero Go.wp_at_succ
attribute [local go_sem] rowAt_ptr rowOf_drew rowOf_drewN rowOf_alloc_past rowOf_new
attribute [local go_sem ↓] ldEntry

theorem ldPostQ {ρ : Operand → Value} {w : World} {dst : Option Tmp} {ty : TypeId} {pos : String} {after : Array Edge} {g : Option (Nat × Bool)} {x : Operand} :
    (execOp ρ ⟨dst, .load 42 x, ty, pos, after, g⟩).run Tryz.prog w = ldIf Tryz.prog w (rowAt w 11 (ρ x)) ρ ⟨dst, .load 42 x, ty, pos, after, g⟩ := ld_if 42 11 Tryz.underlying42 rfl (by kernel_rfl)
attribute [local go_sem ↓] ldPostQ

attribute [local go_sem] ldIf_some

attribute [local go_sem] Entry.at0 Entry.lat0 Entry.at1 Entry.lat1 Entry.at2 Entry.lat2 Entry.at3 Entry.lat3 Entry.at4 Entry.lat4 Entry.at5 Entry.lat5 Entry.at6 Entry.lat6 Entry.at7 Entry.lat7 Entry.at8 Entry.lat8 Entry.at9 Entry.lat9 Entry.at10 Entry.lat10 Entry.at11 Entry.lat11 Entry.at12 Entry.lat12 Entry.at13 Entry.lat13 Entry.at14 Entry.lat14 Entry.sub0_15 Entry.lsub0_15 Entry.sub3_11 Entry.lsub3_11 Entry.sub4_10 Entry.lsub4_10 Entry.len rowAt_ptr rowOf_drew rowOf_drewN

theorem leafsPost20 : leafs Tryz.prog 8 42 = some lfPost8 := by kernel_rfl
theorem guardPost20 : Tryz.prog.eqGuardType Tryz.prog.depth 42 = false := by kernel_rfl
theorem Post.inj20 {x y : Post} (h : x.vals = y.vals) : x = y := by
  obtain ⟨_, ⟨_, _, _, _, _, _, _, _, _, _⟩⟩ := x
  obtain ⟨_, ⟨_, _, _, _, _, _, _, _, _, _⟩⟩ := y
  simp only [Post.vals, Attr.vals, List.cons_append, List.nil_append, List.cons.injEq, Value.int.injEq, Value.bool.injEq, true_and, and_true] at h
  obtain ⟨h0, h1, h2, h3, h4, h5, h6, h7, h8, h9, h10⟩ := h
  subst_vars
  rfl
theorem neqPost20 (x y : Post) (w : World) : (binOp .neq 42 (.agg x.vals.toArray) (.agg y.vals.toArray)).run Tryz.prog w = .ok (.bool (decide (x ≠ y))) w := by
  by_cases h : x = y
  · rw [neq_same leafsPost20 (by kernel_rfl) w _ _ (by rfl) (by rw [h]), decide_eq_false (by simpa using h)]
  · rw [neq_other leafsPost20 (by kernel_rfl) w _ _ (by rfl) (by rfl) (fun e => h (Post.inj20 e)), decide_eq_true h]
theorem neqPostZ20 (x : Post) (w : World) : (binOp .neq 42 (.agg x.vals.toArray) (.agg #[.bool false, .int .i64 0, .int .i64 0, .int .i64 0, .int .i64 0, .int .i64 0, .int .i64 0, .int .i64 0, .int .i64 0, .int .i64 0, .int .i64 0])).run Tryz.prog w = .ok (.bool (decide (x ≠ postZ8))) w := neqPost20 x postZ8 w
attribute [local go_sem ↓] neqPost20 neqPostZ20

attribute [local go_sem] guardPost20

theorem quiet20 {P : Program} {f : FuncId} {args : Array Value} {w : World} {v : Value} (h : Calls P f args w fun e w' => e = .returned v ∧ w = w') : Calls P f args w fun e w' => e = .returned v ∧ ∃ n, w' = w.drewN n := h.mono fun _ _ ⟨h1, h2⟩ => ⟨h1, 0, h2.symm⟩

/-- what Check tells: where it says yes, Cookies rise, and names are short -/
def goodL (l : List Entry) : Prop := (∀ x ∈ l, 1 ≤ x.cookie ∧ x.name.length ≤ 24) ∧ ∀ (i : Nat) (h : i + 1 < l.length), l[i].cookie < l[i + 1].cookie
def goodK (l : List Entry) (k : Nat) : Prop := (∀ (i : Nat) (h : i < l.length), i < k → 1 ≤ l[i].cookie ∧ l[i].name.length ≤ 24) ∧ ∀ (i : Nat) (h : i + 1 < l.length), i + 1 < k → l[i].cookie < l[i + 1].cookie
theorem goodK.next {l : List Entry} {k : Nat} (h : goodK l k) (hk : k < l.length) (h1 : 1 ≤ l[k].cookie) (h2 : l[k].name.length ≤ 24) (h3 : ∀ (h0 : 0 < k), l[k - 1].cookie < l[k].cookie) : goodK l (k + 1) := by
  refine ⟨fun i hi hik => ?_, fun i hi hik => ?_⟩
  · rcases Nat.lt_or_ge i k with h' | h'
    · exact h.1 i hi h'
    · obtain rfl : i = k := by omega
      exact ⟨h1, h2⟩
  · rcases Nat.lt_or_ge (i + 1) k with h' | h'
    · exact h.2 i hi h'
    · obtain rfl : k = i + 1 := by omega
      exact h3 (by omega)
theorem goodK.all {l : List Entry} (h : goodK l l.length) : goodL l := ⟨fun x hx => by
  obtain ⟨i, hi, rfl⟩ := List.getElem_of_mem hx
  exact h.1 i hi hi, fun i hi => h.2 i hi hi⟩
def SaysG (l : List Entry) (w : World) (e : Ending) (w' : World) : Prop := ∃ b, e = .returned (.bool b) ∧ (b = true → goodL l) ∧ Below w.heap.size w w'
theorem SaysG.no {l : List Entry} {w w' : World} (hb : Below w.heap.size w w') : SaysG l w (.returned (.bool false)) w' := ⟨false, rfl, (fun h => by cases h), hb⟩
theorem SaysG.yes {l : List Entry} {w w' : World} (h : goodL l) (hb : Below w.heap.size w w') : SaysG l w (.returned (.bool true)) w' := ⟨true, rfl, (fun _ => h), hb⟩

set_option maxRecDepth 20000 in
set_option maxHeartbeats 6400000 in
theorem refCheck20_any (A : Option Addr) (c : Nat) (l : List Entry) (w : World) (hl : l.length ≤ 70) (hn : ∀ x ∈ l, x.name.length ≤ 300) (hA : At w 15 A (l.map Entry.vals)) :
    Calls Tryz.prog 67 #[.slice A l.length c] w (SaysG l w) := by
  go_enter Tryz.func67, Tryz.ntmps67
  go_wp2
  go_loopw [3] (fun i wr => ∃ k : Nat, k ≤ l.length ∧ i = .int .i64 k ∧ goodK l k ∧ Below w.heap.size w wr) (fun i _ => l.length - (intOf i).toNat)
  case atStart => exact ⟨0, Nat.zero_le _, rfl, ⟨fun _ _ h => absurd h (Nat.not_lt_zero _), fun _ _ h => absurd h (Nat.not_lt_zero _)⟩, Below.refl _ _⟩
  case round =>
    obtain ⟨k, hk, rfl, hG, hb⟩ := hrel
    by_cases hlk : k < l.length
    · have hAr := hA.below hb
      obtain ⟨b, off, rfl, hb1, r1, -⟩ := rowCell8 Entry.len (by omega) hAr hlk
      have hZ := Blk.new wr 80 l[k].vals
      have hba : Below wr.heap.size wr (wr.alloc (.cells l[k].vals.toArray 80)) := (Below.refl _ _).alloc (Nat.le_refl _) _
      have hA1 := hAr.below hba
      have hnk := hn l[k] (List.getElem_mem hlk)
      have hkp : k - 1 < l.length := by omega
      have hprev : ∀ (_ : 0 < k), (wr.alloc (.cells l[k].vals.toArray 80)).cell? ⟨b, off + (k - 1) * 15 + 2, none⟩ = some (.int .i64 (l[k - 1]'hkp).cookie) := fun h0 => by
        obtain ⟨b', o', e', -, -, hc'⟩ := rowCell8 Entry.len (by omega) hA1 (k := k - 1) (by omega)
        injection e' with e'
        injection e' with e1 e2 _
        subst e1 e2
        exact hc' 2 (.int .i64 (l[k - 1]'hkp).cookie) rfl
      have hnx := fun (h1 : 1 ≤ l[k].cookie) (h2 : l[k].name.length ≤ 24) (h3 : 0 < k → (l[k - 1]'hkp).cookie < l[k].cookie) => hG.next hlk h1 h2 (fun h0 => h3 h0)
      have HNX := Lib.hid hnx
      have HB := Lib.hid (below_then hb hba)
      have KF : ∀ n, Calls Tryz.prog 99 #[.slice (some ⟨b, off, none⟩) l.length c, .string (bs l[k].name)] ((wr.alloc (.cells l[k].vals.toArray 80)).drewN n) fun e w' => e = .returned (.int .i64 (findName l l[k].name)) ∧ ∃ m, w' = ((wr.alloc (.cells l[k].vals.toArray 80)).drewN n).drewN m :=
        fun n => quiet20 (refFind20_any _ c l l[k].name _ (by omega) hA1)
      have KN : ∀ W, Calls Tryz.prog 100 #[.string (bs l[k].name)] W fun e w' => e = .returned (.int .i64 (nameSt l[k].name)) ∧ ∃ m, w' = W.drewN m := fun W => quiet20 (refCheck4_any l[k].name W (by omega))
      have hsh := fun (h : nameSt l[k].name = 0) => nameSt_short h
      have HSH := Lib.hid hsh
      clear hnx hsh hG hb hA1 hAr hnk
      generalize findName l l[k].name = F at *
      generalize nameSt l[k].name = N at *
      have HLK := Lib.hid hlk
      have hk0 : (0 : Int) ≤ (k : Int) := Int.natCast_nonneg _
      have hk1 : (k : Int) < (l.length : Int) := by omega
      generalize (l[k - 1]'hkp).cookie = pc at *
      generalize l[k] = x at *
      obtain ⟨w1, hw1⟩ : ∃ u, u = wr.alloc (.cells x.vals.toArray 80) := ⟨_, rfl⟩
      have HW1 := Lib.hid hw1
      rw [← hw1] at hZ hprev KF HB
      clear hw1 hba
      go_upto_region 5 with (first | (refine wpList_new_struct (by rfl) (by rfl) 80 (by rfl) _ _ (by rfl) x.vals infoEntry2 (by rfl) (by rfl) (Entry.one _) (by rfl) (by rfl) ?_; rw [← HW1.out]) | fail)
      go_frame
      have f0 : w1.cell? ⟨wr.heap.size, 0, none⟩ = some (.int .i64 x.gen) := hZ.cell 0
      have f1 : w1.cell? ⟨wr.heap.size, 1, none⟩ = some (.string (bs x.name)) := hZ.cell 1
      have f2 : w1.cell? ⟨wr.heap.size, 2, none⟩ = some (.int .i64 x.cookie) := hZ.cell 2
      have f14 : w1.cell? ⟨wr.heap.size, 14, none⟩ = some (.string (bs x.fh)) := hZ.cell 14
      have f3 : rowOf w1 wr.heap.size 3 11 = some x.attr.vals.toArray := hZ.row 3 11 (by simp [Entry.len])
      clear hZ HW1 r1
      by_cases q0 : x.gen < 1
      · have d0 : decide (x.gen < 1) = true := decide_eq_true q0
        clear q0
        clear HNX HSH hprev hkp
        go_quiet (first
          | (go_at_call_of 99 (x.name); refine Calls.quiet_of (KF _))
          | (go_at_call_of 100 (x.name); refine Calls.quiet_of (KN _)))
        all_goals
          go_wp2
          go_ret
          exact SaysG.no (bdN HB.out _)
      · have d0 : decide (x.gen < 1) = false := decide_eq_false q0
        by_cases q1 : x.cookie < 1
        · have d1 : decide (x.cookie < 1) = true := decide_eq_true q1
          clear q0 q1
          clear HNX HSH hprev hkp
          go_quiet (first
            | (go_at_call_of 99 (x.name); refine Calls.quiet_of (KF _))
            | (go_at_call_of 100 (x.name); refine Calls.quiet_of (KN _)))
          all_goals
            go_wp2
            go_ret
            exact SaysG.no (bdN HB.out _)
        · have d1 : decide (x.cookie < 1) = false := decide_eq_false q1
          by_cases q2 : x.fh ≠ []
          · have d2 : (x.fh == []) = false := beq_false_of_ne q2
            have d2b : (x.fh != []) = true := by simpa using q2
            clear q0 q1 q2
            clear HNX HSH hprev hkp
            go_quiet (first
              | (go_at_call_of 99 (x.name); refine Calls.quiet_of (KF _))
              | (go_at_call_of 100 (x.name); refine Calls.quiet_of (KN _)))
            all_goals
              go_wp2
              go_ret
              exact SaysG.no (bdN HB.out _)
          · have d2 : (x.fh == []) = true := by simpa using q2
            have d2b : (x.fh != []) = false := by simpa using q2
            by_cases q3 : x.attr ≠ postZ8
            · have d3 : decide (x.attr ≠ postZ8) = true := decide_eq_true q3
              clear q0 q1 q2 q3
              clear HNX HSH hprev hkp
              go_quiet (first
                | (go_at_call_of 99 (x.name); refine Calls.quiet_of (KF _))
                | (go_at_call_of 100 (x.name); refine Calls.quiet_of (KN _)))
              all_goals
                go_wp2
                go_ret
                exact SaysG.no (bdN HB.out _)
            · have d3 : decide (x.attr ≠ postZ8) = false := decide_eq_false q3
              by_cases q4 : F ≠ (k : Int)
              · have d4 : (F != (k : Int)) = true := by simpa using q4
                clear q0 q1 q2 q3 q4
                clear HNX HSH hprev hkp
                go_quiet (first
                  | (go_at_call_of 99 (x.name); refine Calls.quiet_of (KF _))
                  | (go_at_call_of 100 (x.name); refine Calls.quiet_of (KN _)))
                all_goals
                  go_wp2
                  go_ret
                  exact SaysG.no (bdN HB.out _)
              · have d4 : (F != (k : Int)) = false := by simpa using q4
                by_cases q5 : N ≠ 0
                · have d5 : (N != 0) = true := by simpa using q5
                  clear q0 q1 q2 q3 q4 q5
                  clear HNX HSH hprev hkp
                  go_quiet (first
                    | (go_at_call_of 99 (x.name); refine Calls.quiet_of (KF _))
                    | (go_at_call_of 100 (x.name); refine Calls.quiet_of (KN _)))
                  all_goals
                    go_wp2
                    go_ret
                    exact SaysG.no (bdN HB.out _)
                · have d5 : (N != 0) = false := by simpa using q5
                  have hne : N = 0 := by simpa using q5
                  have hck : 1 ≤ x.cookie := by omega
                  have hshort := HSH.out hne
                  by_cases q6 : 0 < k
                  · have d6 : decide ((0 : Int) < (k : Int)) = true := decide_eq_true (by omega)
                    have hp := hprev q6
                    have hwp : IntKind.i64.wrap ((k : Int) - 1) = ((k - 1 : Nat) : Int) := by rw [IntWalk.i64_in _ (by omega)]; omega
                    have hkq : ((k - 1 : Nat) : Int) < (l.length : Int) := by omega
                    have hkq0 : (0 : Int) ≤ ((k - 1 : Nat) : Int) := Int.natCast_nonneg _
                    by_cases q7 : x.cookie ≤ pc
                    · have d7 : decide (x.cookie ≤ pc) = true := decide_eq_true q7
                      clear q0 q1 q2 q3 q4 q5 q7 HNX HSH hprev
                      go_quiet (first
                        | (go_at_call_of 99 (x.name); refine Calls.quiet_of (KF _))
                        | (go_at_call_of 100 (x.name); refine Calls.quiet_of (KN _)))
                      all_goals
                        go_wp2
                        go_ret
                        exact SaysG.no (bdN HB.out _)
                    · have d7 : decide (x.cookie ≤ pc) = false := decide_eq_false q7
                      have HN := Lib.hid (HNX.out hck hshort (fun _ => by omega))
                      clear q0 q1 q2 q3 q4 q5 q7 HNX HSH hprev hck hshort hne
                      go_quiet (first
                        | (go_at_call_of 99 (x.name); refine Calls.quiet_of (KF _))
                        | (go_at_call_of 100 (x.name); refine Calls.quiet_of (KN _)))
                      all_goals
                        go_wp2
                        go_roundw
                        case rel => exact ⟨k + 1, by have := HLK.out; omega, by go_num, HN.out, bdN HB.out _⟩
                        case measure => have := HLK.out; simp [intOf]; omega
                  · have d6 : decide ((0 : Int) < (k : Int)) = false := decide_eq_false (by omega)
                    have HN := Lib.hid (HNX.out hck hshort (fun h => absurd h q6))
                    clear q0 q1 q2 q3 q4 q5 HNX HSH hprev hck hshort hne
                    go_quiet (first
                      | (go_at_call_of 99 (x.name); refine Calls.quiet_of (KF _))
                      | (go_at_call_of 100 (x.name); refine Calls.quiet_of (KN _)))
                    all_goals
                      go_wp2
                      go_roundw
                      case rel => exact ⟨k + 1, by have := HLK.out; omega, by go_num, HN.out, bdN HB.out _⟩
                      case measure => have := HLK.out; simp [intOf]; omega
    · obtain rfl : k = l.length := by omega
      have HG := Lib.hid hG.all
      have hk1 : ¬ (l.length : Int) < (l.length : Int) := by omega
      clear hG hA hlk
      go_wp2
      go_ret
      exact SaysG.yes HG.out hb
end Go.Proofs.YtgifmpobokaejaaGreatDoor

/-
  Layer 20, plain laws: what a page tells. No condition.
-/
namespace Go.Proofs.YtgifmpobokaejaaGreatDoor
open Go.RowKit

/-- how many entries have room -/
def pageN : List Entry → Int → Int → Nat
  | [], _, _ => 0
  | x :: l, left, more => if left < 24 + (x.name.length : Int) + more then 0 else pageN l (left - (24 + (x.name.length : Int) + more)) more + 1
theorem pageN_le : ∀ (l : List Entry) (left more : Int), pageN l left more ≤ l.length
  | [], _, _ => Nat.le_refl _
  | x :: l, left, more => by
    unfold pageN
    split
    · exact Nat.zero_le _
    · have := pageN_le l (left - (24 + (x.name.length : Int) + more)) more
      simp only [List.length_cons]
      omega
theorem pageN_no {l : List Entry} {k : Nat} {left more : Int} (hk : k < l.length) (h : left < 24 + (l[k].name.length : Int) + more) : pageN (l.drop k) left more = 0 := by
  rw [← List.getElem_cons_drop hk, pageN, if_pos h]
theorem pageN_yes {l : List Entry} {k : Nat} {left more : Int} (hk : k < l.length) (h : ¬ left < 24 + (l[k].name.length : Int) + more) : pageN (l.drop k) left more = pageN (l.drop (k + 1)) (left - (24 + (l[k].name.length : Int) + more)) more + 1 := by
  rw [← List.getElem_cons_drop hk, pageN, if_neg h]
theorem pageN_end {l : List Entry} {k : Nat} {left more : Int} (hk : ¬ k < l.length) : pageN (l.drop k) left more = 0 := by
  rw [List.drop_of_length_le (by omega), pageN]

/-- what a page tells: entries, whether they come up to the end, a status -/
def pageF (l : List Entry) (ck count more : Int) : List Entry × Bool × Int :=
  if pageN (behind ck l) count more = 0 ∧ 0 < (behind ck l).length then ([], false, 10005)
  else ((behind ck l).take (pageN (behind ck l) count more), decide (pageN (behind ck l) count more = (behind ck l).length), 0)
def PagePost (w : World) (p : List Entry × Bool × Int) (e : Ending) (w' : World) : Prop :=
  ∃ A c, e = .returned (.tuple #[.slice A p.1.length c, .bool p.2.1, .int .i64 p.2.2]) ∧ At w' 15 A (p.1.map Entry.vals) ∧ Below w.heap.size w w' ∧ Fresh w.heap.size A ∧ ∃ c', RowS w' w.heap.size 80 15 (.slice A p.1.length c') (p.1.map Entry.vals)
theorem PagePost.few {w w' : World} {l : List Entry} {ck count more : Int} (h : pageN (behind ck l) count more = 0) (h2 : 0 < (behind ck l).length) (hb : Below w.heap.size w w') :
    PagePost w (pageF l ck count more) (.returned (.tuple #[.slice none 0 0, .bool false, .int .i64 10005])) w' := by
  unfold pageF
  rw [if_pos ⟨h, h2⟩]
  exact ⟨none, 0, rfl, At.nil, hb, (fun _ h => by cases h), 0, RowS.none_⟩
theorem PagePost.some_ {w w' : World} {l : List Entry} {ck count more : Int} {A : Option Addr} {k c3 : Nat} (h : pageN (behind ck l) count more = k) (h2 : ¬ (k = 0 ∧ 0 < (behind ck l).length)) (hA : RowS w' w.heap.size 80 15 (.slice A (behind ck l).length c3) ((behind ck l).map Entry.vals)) (hF : Fresh w.heap.size A) (hb : Below w.heap.size w w') :
    PagePost w (pageF l ck count more) (.returned (.tuple #[.slice A k k, .bool ((k : Int) == ((behind ck l).length : Int)), .int .i64 0])) w' := by
  have hk : k ≤ (behind ck l).length := by rw [← h]; exact pageN_le _ _ _
  unfold pageF
  rw [h, if_neg h2]
  refine ⟨A, k, ?_, ?_, hb, hF, c3, ?_⟩
  rotate_left
  rotate_left
  · have h3 := hA
    rw [← List.take_append_drop k (behind ck l), List.map_append] at h3
    have h4 := h3.prefix_
    rw [List.length_map] at h4
    exact h4
  · have e1 : ((behind ck l).take k).length = k := by rw [List.length_take]; omega
    have e2 : ((k : Int) == ((behind ck l).length : Int)) = decide (k = (behind ck l).length) := by
      by_cases hh : k = (behind ck l).length
      · rw [decide_eq_true hh, hh]; simp
      · rw [decide_eq_false hh]; exact beq_false_of_ne (by omega)
    simp only [e1, e2]
  · intro i r hi
    rw [List.map_take] at hi
    refine hA.rows i r ?_
    rw [List.getElem?_take] at hi
    split at hi
    · exact hi
    · cases hi
theorem PagePost.lists {w w' : World} {l : List Entry} {ck count more : Int} {v : Value} {out : List Entry} {n : Nat} (h : pageN (behind ck l) count more = out.length ∧ n = (behind ck l).length ∧ out = (behind ck l).take out.length) (h2 : ¬ (out.length = 0 ∧ 0 < n)) (hR : RowS w' w.heap.size 80 15 v (out.map Entry.vals)) (hb : Below w.heap.size w w') :
    ∃ A c, v = .slice A out.length c ∧ PagePost w (pageF l ck count more) (.returned (.tuple #[.slice A out.length c, .bool ((out.length : Int) == (n : Int)), .int .i64 0])) w' := by
  obtain ⟨h1, rfl, h3⟩ := h
  obtain ⟨A, c, rfl, hA⟩ := hR.at_
  rw [List.length_map]
  refine ⟨A, c, rfl, ?_⟩
  unfold pageF
  rw [h1, if_neg h2, ← h3]
  refine ⟨A, c, ?_, hA, hb, (fun p h => (hR.lt p.block (by rw [h]; rfl)).1), c, by rw [List.length_map] at hR; exact hR⟩
  have e2 : ((out.length : Int) == ((behind ck l).length : Int)) = decide (out.length = (behind ck l).length) := by
    by_cases hh : out.length = (behind ck l).length
    · rw [decide_eq_true hh, hh]; simp
    · rw [decide_eq_false hh]; exact beq_false_of_ne (by omega)
  rw [e2]
end Go.Proofs.YtgifmpobokaejaaGreatDoor


/-
  Layer 20, walks: the program's Page. Conditions: lengths; a count that a machine holds.
-/
namespace Go.Proofs.YtgifmpobokaejaaGreatDoor
open Go.RowKit
attribute [local go_sem ↓] Go.wp_at_zero Go.wp_at_succ
attribute [local go_sem] rowAt_ptr rowOf_drew rowOf_drewN rowOf_alloc_past rowOf_new
attribute [local go_sem ↓] ldEntry

attribute [local go_sem] Entry.at0 Entry.lat0 Entry.at1 Entry.lat1 Entry.at2 Entry.lat2 Entry.at3 Entry.lat3 Entry.at4 Entry.lat4 Entry.at5 Entry.lat5 Entry.at6 Entry.lat6 Entry.at7 Entry.lat7 Entry.at8 Entry.lat8 Entry.at9 Entry.lat9 Entry.at10 Entry.lat10 Entry.at11 Entry.lat11 Entry.at12 Entry.lat12 Entry.at13 Entry.lat13 Entry.at14 Entry.lat14 Entry.sub0_15 Entry.lsub0_15 Entry.sub3_11 Entry.lsub3_11 Entry.sub4_10 Entry.lsub4_10 Entry.len

theorem below_of {w w1 w2 : World} (h : Below w.heap.size w w1) (hb : Below w1.heap.size w1 w2) : Below w.heap.size w w2 := below_then h hb
set_option maxRecDepth 20000 in
set_option maxHeartbeats 3200000 in
theorem nodePage_any (A : Option Addr) (c : Nat) (l : List Entry) (ck count more : Int) (w : World) (hl : l.length ≤ 70) (hn : ∀ x ∈ l, x.name.length ≤ 300) (hm : 0 ≤ more ∧ more ≤ 1000) (hc : -9223372036854775808 ≤ count ∧ count ≤ 9223372036854775807) (hA : At w 15 A (l.map Entry.vals)) :
    Calls Tryz.prog 130 #[.slice A l.length c, .int .i64 ck, .int .i64 count, .int .i64 more] w (PagePost w (pageF l ck count more)) := by
  have hB1 : Below w.heap.size w (w.alloc (.cells #[.int .i64 ck] 3)) := (Below.refl _ _).alloc (Nat.le_refl _) _
  have hX := Blk.new w 3 [.int .i64 ck]
  have hA1 := hA.below hB1
  have hlb : (behind ck l).length ≤ 70 := Nat.le_trans (List.length_filter_le _ _) hl
  have hnb : ∀ x ∈ behind ck l, x.name.length ≤ 300 := fun x hx => hn x (List.mem_filter.1 hx).1
  have hsz : (w.alloc (.cells #[.int .i64 ck] 3)).heap.size = w.heap.size + 1 := by simp
  go_enter Tryz.func130, Tryz.ntmps130
  go_upto_region 1 with fail
  change Code.wp _ _ _ _ (w.alloc (.cells #[.int .i64 ck] 3))
  change Blk (w.alloc (.cells #[.int .i64 ck] 3)) _ _ _ at hX
  generalize w.alloc (.cells #[.int .i64 ck] 3) = w1 at *
  have HC := Lib.hid (cloneE_at A c l w1 (by omega) hA1)
  have H1 := Lib.hid (And.intro hX (And.intro hB1 hsz))
  clear hX hB1 hA1 hA hsz
  go_wp2_with fail
  refine HC.out.mono ?_
  rintro e w2 ⟨A2, c2, rfl, hR, hb2⟩
  obtain ⟨hX, hB1, hsz⟩ := H1.out
  have HD := Lib.hid (deleteLe_any A2 c2 l w.heap.size ck w2 w1.heap.size (by omega) hR hb2.size (by omega) ((hX.stays hb2).cell 0))
  have HB2 := Lib.hid (below_then hB1 hb2)
  have HB1 := Lib.hid hB1
  clear HC hR hb2 hX hB1 hsz H1
  go_wp2_with fail
  refine HD.out.mono ?_
  rintro e w3 ⟨A3, c3, rfl, hc3, -, hb3, hF3, hA3⟩
  replace hA3 := hA3.base HB1.out.size
  have hF3 : Fresh w.heap.size A3 := fun p h => Nat.le_trans HB1.out.size (hF3 p h)
  obtain ⟨r, hr⟩ : ∃ r, r = behind ck l := ⟨_, rfl⟩
  have HQ1 := Lib.hid (fun (W : World) (h : pageN (behind ck l) count more = 0) (h2 : 0 < (behind ck l).length) (hb : Below w.heap.size w W) => PagePost.few (w := w) h h2 hb)
  have HQ2 := Lib.hid (fun (W : World) (k : Nat) (h : pageN (behind ck l) count more = k) (h2 : ¬ (k = 0 ∧ 0 < (behind ck l).length)) (hA : RowS W w.heap.size 80 15 (.slice A3 (behind ck l).length c3) ((behind ck l).map Entry.vals)) (hb : Below w.heap.size w W) => PagePost.some_ (w := w) h h2 hA hF3 hb)
  rw [← hr] at HQ1 HQ2 hlb hnb hA3 hc3 ⊢
  generalize pageF l ck count more = PF at *
  clear hr HD hn hl
  have hB3 := HB2.out.trans (hb3.mono HB1.out.size)
  have h3 : ∀ W, Below w3.heap.size w3 W → RowS W w.heap.size 80 15 (.slice A3 r.length c3) (r.map Entry.vals) := fun W h => hA3.stays h
  have HB3 := Lib.hid hB3
  have H3 := Lib.hid h3
  clear HB1 HB2 hb3 hA3 hB3 h3 hF3
  go_wp2
  go_loopw [12, 13, 24] (fun L n i wr => ∃ (k : Nat) (z : Int), k ≤ r.length ∧ L = .int .i64 z ∧ n = .int .i64 k ∧ i = .int .i64 k ∧ pageN r count more = k + pageN (r.drop k) z more ∧ z ≤ count ∧ (0 ≤ z ∨ z = count) ∧ Below w3.heap.size w3 wr) (fun _ _ i _ => r.length - (intOf i).toNat)
  case atStart => exact ⟨0, count, Nat.zero_le _, rfl, rfl, rfl, by simp, Int.le_refl _, .inr rfl, Below.refl _ _⟩
  case round =>
    obtain ⟨k, z, hk, rfl, rfl, rfl, hp, hz1, hz2, hb⟩ := hrel
    obtain ⟨hm1, hm2⟩ := hm
    obtain ⟨hc9, hc8⟩ := hc
    by_cases hlk : k < r.length
    · obtain ⟨b1, o1, rfl, hlt1, hrow, -⟩ := rowCell8 Entry.len (by omega) (H3.out _ hb).rows hlk
      have hnk := hnb r[k] (List.getElem_mem hlk)
      have hZ := Blk.new wr 80 r[k].vals
      have hcell := hZ.cell 1
      have hsz := bs_size r[k].name
      have hb4 := below_then hb ((Below.refl wr.heap.size wr).alloc (Nat.le_refl _) (.cells r[k].vals.toArray 80))
      have hw1 : IntKind.i64.wrap (24 + (r[k].name.length : Int)) = 24 + (r[k].name.length : Int) := IntWalk.i64_in _ (by omega)
      have hw2 : IntKind.i64.wrap (24 + (r[k].name.length : Int) + more) = 24 + (r[k].name.length : Int) + more := IntWalk.i64_in _ (by omega)
      have hk0 : (0 : Int) ≤ (k : Int) := Int.natCast_nonneg _
      have hk1 : (k : Int) < (r.length : Int) := by omega
      have hkc : (k : Int) ≤ (c3 : Int) := by omega
      by_cases hgt : z < 24 + (r[k].name.length : Int) + more
      · have hpn : pageN r count more = k := by rw [hp, pageN_no hlk hgt, Nat.add_zero]
        have HA4 := Lib.hid (H3.out _ hb4)
        have HB4 := Lib.hid (below_of HB3.out hb4)
        clear hp hz1 hz2 hb4 hb
        generalize r[k] = x at *
        go_upto_region 12 with (first | (refine wpList_new_struct (by rfl) (by rfl) 80 (by rfl) _ _ (by rfl) x.vals infoEntry2 (by rfl) (by rfl) (Entry.one _) (by rfl) (by rfl) ?_) | fail)
        generalize wr.alloc (.cells x.vals.toArray 80) = w4 at *
        have HPN := Lib.hid hpn
        have HBW := Lib.hid HB4.out
        have HAW := Lib.hid HA4.out
        by_cases hz : k = 0
        · subst hz
          by_cases hr0 : 0 < r.length
          · have hr1 : (0 : Int) < (r.length : Int) := by omega
            have HZ := Lib.hid hr0
            clear hgt hw1 hw2 hrow hcell hZ hnb hnk hsz hk0 hk1 hkc hlk hlt1 hm1 hm2 hc8 hc9 hpn
            go_wp2
            go_ret3
            exact HQ1.out _ HPN.out HZ.out HBW.out
          · have hr1 : ¬ (0 : Int) < (r.length : Int) := by omega
            have HZ := Lib.hid (show ¬ ((0 : Nat) = 0 ∧ 0 < r.length) from fun h => hr0 h.2)
            have hc0 : (0 : Int) ≤ (c3 : Int) := Int.natCast_nonneg _
            have hc1 : (0 : Int) ≤ (r.length : Int) := Int.natCast_nonneg _
            clear hgt hw1 hw2 hrow hcell hZ hnb hnk hsz hk0 hk1 hkc hlk hlt1 hm1 hm2 hc8 hc9 hpn
            go_wp2
            go_ret3
            exact HQ2.out _ _ HPN.out (by simpa using HZ.out) HAW.out HBW.out
        · have hz0 : ((k : Int) == 0) = false := by simp; omega
          have HZ := Lib.hid (show ¬ (k = 0 ∧ 0 < r.length) from fun h => hz h.1)
          have hc0 : (0 : Int) ≤ (k : Int) := Int.natCast_nonneg _
          have hc1 : (k : Int) ≤ (r.length : Int) := by omega
          have hc2 : (k : Int) ≤ (c3 : Int) := by omega
          clear hgt hw1 hw2 hrow hcell hZ hnb hnk hsz hk0 hk1 hkc hlk hlt1 hm1 hm2 hc8 hc9 hpn
          go_wp2
          go_ret3
          exact HQ2.out _ _ HPN.out (by simpa using HZ.out) HAW.out HBW.out
      · have hpn := hp
        rw [pageN_yes hlk hgt] at hpn
        have hw3 : IntKind.i64.wrap (z - (24 + (r[k].name.length : Int) + more)) = z - (24 + (r[k].name.length : Int) + more) := IntWalk.i64_in _ (by omega)
        have hw4 : IntKind.i64.wrap ((k : Int) + 1) = ((k + 1 : Nat) : Int) := by rw [IntWalk.i64_in _ (by omega)]; omega
        have HN := Lib.hid (show pageN r count more = (k + 1) + pageN (r.drop (k + 1)) (z - (24 + (r[k].name.length : Int) + more)) more ∧ z - (24 + (r[k].name.length : Int) + more) ≤ count ∧ (0 ≤ z - (24 + (r[k].name.length : Int) + more) ∨ z - (24 + (r[k].name.length : Int) + more) = count) from ⟨by omega, by omega, by omega⟩)
        have HB4 := Lib.hid hb4
        clear hp hz1 hz2 hb4 hb hpn
        generalize r[k] = x at *
        go_wp2_with (first | (refine wpList_new_struct (by rfl) (by rfl) 80 (by rfl) _ _ (by rfl) x.vals infoEntry2 (by rfl) (by rfl) (Entry.one _) (by rfl) (by rfl) ?_) | fail)
        go_roundw
        case rel => exact ⟨k + 1, _, by omega, rfl, rfl, rfl, HN.out.1, HN.out.2.1, HN.out.2.2, HB4.out⟩
        case measure => simp [intOf]; omega
    · have hpn : pageN r count more = k := by rw [hp, pageN_end hlk, Nat.add_zero]
      have hkl : ¬ (k : Int) < (r.length : Int) := by omega
      have HA4 := Lib.hid (H3.out _ hb)
      have HB4 := Lib.hid (below_of HB3.out hb)
      clear hp hz1 hz2 hb
      go_upto_region 12 with fail
      have HPN := Lib.hid hpn
      have HBW := Lib.hid HB4.out
      have HAW := Lib.hid HA4.out
      by_cases hz : k = 0
      · subst hz
        by_cases hr0 : 0 < r.length
        · have hr1 : (0 : Int) < (r.length : Int) := by omega
          have HZ := Lib.hid hr0
          clear hkl hnb hlk hm1 hm2 hc8 hc9 hpn
          go_wp2
          go_ret3
          exact HQ1.out _ HPN.out HZ.out HBW.out
        · have hr1 : ¬ (0 : Int) < (r.length : Int) := by omega
          have HZ := Lib.hid (show ¬ ((0 : Nat) = 0 ∧ 0 < r.length) from fun h => hr0 h.2)
          have hc0 : (0 : Int) ≤ (c3 : Int) := Int.natCast_nonneg _
          have hc1 : (0 : Int) ≤ (r.length : Int) := Int.natCast_nonneg _
          clear hkl hnb hlk hm1 hm2 hc8 hc9 hpn
          go_wp2
          go_ret3
          exact HQ2.out _ _ HPN.out (by simpa using HZ.out) HAW.out HBW.out
      · have hz0 : ((k : Int) == 0) = false := by simp; omega
        have HZ := Lib.hid (show ¬ (k = 0 ∧ 0 < r.length) from fun h => hz h.1)
        have hc0 : (0 : Int) ≤ (k : Int) := Int.natCast_nonneg _
        have hc1 : (k : Int) ≤ (r.length : Int) := by omega
        have hc2 : (k : Int) ≤ (c3 : Int) := by omega
        clear hkl hnb hlk hm1 hm2 hc8 hc9 hpn
        go_wp2
        go_ret3
        exact HQ2.out _ _ HPN.out (by simpa using HZ.out) HAW.out HBW.out
end Go.Proofs.YtgifmpobokaejaaGreatDoor
