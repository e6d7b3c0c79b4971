/-
  Layer 20, walks: the document's Check of entries, exact (written by wip/tools/gencheck20x.py). Conditions: machine lists.
-/
import Derived.Test.YtgifmpobokaejaaGreatDoorM31
namespace Go.Proofs.YtgifmpobokaejaaGreatDoor
open Go.RowKit
attribute [local go_sem ↓] Go.wp_at_zero Go.wp_at_succ
attribute [local go_sem] rowAt_ptr rowOf_drew rowOf_drewN rowOf_alloc_past rowOf_new
attribute [local go_sem ↓] ldEntry

attribute [local go_sem ↓] ldPostQ

attribute [local go_sem] ldIf_some

attribute [local go_sem] Entry.at0 Entry.lat0 Entry.at1 Entry.lat1 Entry.at2 Entry.lat2 Entry.at3 Entry.lat3 Entry.at4 Entry.lat4 Entry.at5 Entry.lat5 Entry.at6 Entry.lat6 Entry.at7 Entry.lat7 Entry.at8 Entry.lat8 Entry.at9 Entry.lat9 Entry.at10 Entry.lat10 Entry.at11 Entry.lat11 Entry.at12 Entry.lat12 Entry.at13 Entry.lat13 Entry.at14 Entry.lat14 Entry.sub0_15 Entry.lsub0_15 Entry.sub3_11 Entry.lsub3_11 Entry.sub4_10 Entry.lsub4_10 Entry.len rowAt_ptr rowOf_drew rowOf_drewN

attribute [local go_sem ↓] neqPost20 neqPostZ20

attribute [local go_sem] guardPost20

set_option maxRecDepth 20000 in
set_option maxHeartbeats 6400000 in
theorem refCheck20_iff (A : Option Addr) (c : Nat) (l : List Entry) (w : World) (hl : l.length ≤ 70) (hn : ∀ x ∈ l, x.name.length ≤ 300) (hA : At w 15 A (l.map Entry.vals)) :
    Calls Tryz.prog 67 #[.slice A l.length c] w (TellsP (EntsOk l) w) := by
  go_enter Tryz.func67, Tryz.ntmps67
  go_wp2
  go_loopw [3] (fun i wr => ∃ k : Nat, k ≤ l.length ∧ i = .int .i64 k ∧ EntsK l k ∧ Below w.heap.size w wr) (fun i _ => l.length - (intOf i).toNat)
  case atStart => exact ⟨0, Nat.zero_le _, rfl, EntsK.zero _, Below.refl _ _⟩
  case round =>
    obtain ⟨k, hk, rfl, hG, hb⟩ := hrel
    by_cases hlk : k < l.length
    · have hAr := hA.below hb
      obtain ⟨b, off, rfl, hb1, r1, -⟩ := rowCell8 Entry.len (by omega) hAr hlk
      have hZ := Blk.new wr 80 l[k].vals
      have hba : Below wr.heap.size wr (wr.alloc (.cells l[k].vals.toArray 80)) := (Below.refl _ _).alloc (Nat.le_refl _) _
      have hA1 := hAr.below hba
      have hnk := hn l[k] (List.getElem_mem hlk)
      have hkp : k - 1 < l.length := by omega
      have hprev : ∀ (_ : 0 < k), (wr.alloc (.cells l[k].vals.toArray 80)).cell? ⟨b, off + (k - 1) * 15 + 2, none⟩ = some (.int .i64 (l[k - 1]'hkp).cookie) := fun h0 => by
        obtain ⟨b', o', e', -, -, hc'⟩ := rowCell8 Entry.len (by omega) hA1 (k := k - 1) (by omega)
        injection e' with e'
        injection e' with e1 e2 _
        subst e1 e2
        exact hc' 2 (.int .i64 (l[k - 1]'hkp).cookie) rfl
      have HIF := Lib.hid (fun (h : EntsOk l) => (show CondE l[k] (findName l l[k].name) (nameSt l[k].name) k (l[k - 1]'hkp).cookie from h k hlk))
      have HNX := Lib.hid (fun (h : CondE l[k] (findName l l[k].name) (nameSt l[k].name) k (l[k - 1]'hkp).cookie) => (show EntsK l (k + 1) from hG.next hlk h))
      have HB := Lib.hid (below_then hb hba)
      have KF : ∀ n, Calls Tryz.prog 99 #[.slice (some ⟨b, off, none⟩) l.length c, .string (bs l[k].name)] ((wr.alloc (.cells l[k].vals.toArray 80)).drewN n) fun e w' => e = .returned (.int .i64 (findName l l[k].name)) ∧ ∃ m, w' = ((wr.alloc (.cells l[k].vals.toArray 80)).drewN n).drewN m :=
        fun n => quiet20 (refFind20_any _ c l l[k].name _ (by omega) hA1)
      have KN : ∀ W, Calls Tryz.prog 100 #[.string (bs l[k].name)] W fun e w' => e = .returned (.int .i64 (nameSt l[k].name)) ∧ ∃ m, w' = W.drewN m := fun W => quiet20 (refCheck4_any l[k].name W (by omega))
      clear hG hb hA1 hAr hnk
      generalize findName l l[k].name = F at *
      generalize nameSt l[k].name = N at *
      have HLK := Lib.hid hlk
      have hk0 : (0 : Int) ≤ (k : Int) := Int.natCast_nonneg _
      have hk1 : (k : Int) < (l.length : Int) := by omega
      generalize (l[k - 1]'hkp).cookie = pc at *
      generalize l[k] = x at *
      obtain ⟨w1, hw1⟩ : ∃ u, u = wr.alloc (.cells x.vals.toArray 80) := ⟨_, rfl⟩
      have HW1 := Lib.hid hw1
      rw [← hw1] at hZ hprev KF HB
      clear hw1 hba
      go_upto_region 5 with (first | (refine wpList_new_struct (by rfl) (by rfl) 80 (by rfl) _ _ (by rfl) x.vals infoEntry2 (by rfl) (by rfl) (Entry.one _) (by rfl) (by rfl) ?_; rw [← HW1.out]) | fail)
      go_frame
      have f0 : w1.cell? ⟨wr.heap.size, 0, none⟩ = some (.int .i64 x.gen) := hZ.cell 0
      have f1 : w1.cell? ⟨wr.heap.size, 1, none⟩ = some (.string (bs x.name)) := hZ.cell 1
      have f2 : w1.cell? ⟨wr.heap.size, 2, none⟩ = some (.int .i64 x.cookie) := hZ.cell 2
      have f14 : w1.cell? ⟨wr.heap.size, 14, none⟩ = some (.string (bs x.fh)) := hZ.cell 14
      have f3 : rowOf w1 wr.heap.size 3 11 = some x.attr.vals.toArray := hZ.row 3 11 (by simp [Entry.len])
      clear hZ HW1 r1
      by_cases q0 : x.gen < 1
      · have d0 : decide (x.gen < 1) = true := decide_eq_true q0
        have HQ := Lib.hid (show ¬ EntsOk l from fun h => absurd (HIF.out h).1 (by omega))
        clear q0
        clear HIF HNX hprev hkp
        go_quiet (first
          | (go_at_call_of 99 (x.name); refine Calls.quiet_of (KF _))
          | (go_at_call_of 100 (x.name); refine Calls.quiet_of (KN _)))
        all_goals
          go_wp2
          go_ret
          exact TellsP.no HQ.out (bdN HB.out _)
      · have d0 : decide (x.gen < 1) = false := decide_eq_false q0
        by_cases q1 : x.cookie < 1
        · have d1 : decide (x.cookie < 1) = true := decide_eq_true q1
          have HQ := Lib.hid (show ¬ EntsOk l from fun h => absurd (HIF.out h).2.1 (by omega))
          clear q0 q1
          clear HIF HNX hprev hkp
          go_quiet (first
            | (go_at_call_of 99 (x.name); refine Calls.quiet_of (KF _))
            | (go_at_call_of 100 (x.name); refine Calls.quiet_of (KN _)))
          all_goals
            go_wp2
            go_ret
            exact TellsP.no HQ.out (bdN HB.out _)
        · have d1 : decide (x.cookie < 1) = false := decide_eq_false q1
          by_cases q2 : x.fh ≠ []
          · have d2 : (x.fh == []) = false := beq_false_of_ne q2
            have d2b : (x.fh != []) = true := by simpa using q2
            have HQ := Lib.hid (show ¬ EntsOk l from fun h => q2 (HIF.out h).2.2.1)
            clear q0 q1 q2
            clear HIF HNX hprev hkp
            go_quiet (first
              | (go_at_call_of 99 (x.name); refine Calls.quiet_of (KF _))
              | (go_at_call_of 100 (x.name); refine Calls.quiet_of (KN _)))
            all_goals
              go_wp2
              go_ret
              exact TellsP.no HQ.out (bdN HB.out _)
          · have d2 : (x.fh == []) = true := by simpa using q2
            have d2b : (x.fh != []) = false := by simpa using q2
            by_cases q3 : x.attr ≠ postZ8
            · have d3 : decide (x.attr ≠ postZ8) = true := decide_eq_true q3
              have HQ := Lib.hid (show ¬ EntsOk l from fun h => q3 (HIF.out h).2.2.2.1)
              clear q0 q1 q2 q3
              clear HIF HNX hprev hkp
              go_quiet (first
                | (go_at_call_of 99 (x.name); refine Calls.quiet_of (KF _))
                | (go_at_call_of 100 (x.name); refine Calls.quiet_of (KN _)))
              all_goals
                go_wp2
                go_ret
                exact TellsP.no HQ.out (bdN HB.out _)
            · have d3 : decide (x.attr ≠ postZ8) = false := decide_eq_false q3
              by_cases q4 : F ≠ (k : Int)
              · have d4 : (F != (k : Int)) = true := by simpa using q4
                have HQ := Lib.hid (show ¬ EntsOk l from fun h => q4 (HIF.out h).2.2.2.2.1)
                clear q0 q1 q2 q3 q4
                clear HIF HNX hprev hkp
                go_quiet (first
                  | (go_at_call_of 99 (x.name); refine Calls.quiet_of (KF _))
                  | (go_at_call_of 100 (x.name); refine Calls.quiet_of (KN _)))
                all_goals
                  go_wp2
                  go_ret
                  exact TellsP.no HQ.out (bdN HB.out _)
              · have d4 : (F != (k : Int)) = false := by simpa using q4
                by_cases q5 : N ≠ 0
                · have d5 : (N != 0) = true := by simpa using q5
                  have HQ := Lib.hid (show ¬ EntsOk l from fun h => q5 (HIF.out h).2.2.2.2.2.1)
                  clear q0 q1 q2 q3 q4 q5
                  clear HIF HNX hprev hkp
                  go_quiet (first
                    | (go_at_call_of 99 (x.name); refine Calls.quiet_of (KF _))
                    | (go_at_call_of 100 (x.name); refine Calls.quiet_of (KN _)))
                  all_goals
                    go_wp2
                    go_ret
                    exact TellsP.no HQ.out (bdN HB.out _)
                · have d5 : (N != 0) = false := by simpa using q5
                  have hne : N = 0 := by simpa using q5
                  by_cases q6 : 0 < k
                  · have d6 : decide ((0 : Int) < (k : Int)) = true := decide_eq_true (by omega)
                    have hp := hprev q6
                    have hwp : IntKind.i64.wrap ((k : Int) - 1) = ((k - 1 : Nat) : Int) := by rw [IntWalk.i64_in _ (by omega)]; omega
                    have hkq : ((k - 1 : Nat) : Int) < (l.length : Int) := by omega
                    have hkq0 : (0 : Int) ≤ ((k - 1 : Nat) : Int) := Int.natCast_nonneg _
                    by_cases q7 : x.cookie ≤ pc
                    · have d7 : decide (x.cookie ≤ pc) = true := decide_eq_true q7
                      have HQ := Lib.hid (show ¬ EntsOk l from fun h => absurd ((HIF.out h).2.2.2.2.2.2 q6) (by omega))
                      clear q0 q1 q2 q3 q4 q5 q7 HIF HNX hprev
                      go_quiet (first
                        | (go_at_call_of 99 (x.name); refine Calls.quiet_of (KF _))
                        | (go_at_call_of 100 (x.name); refine Calls.quiet_of (KN _)))
                      all_goals
                        go_wp2
                        go_ret
                        exact TellsP.no HQ.out (bdN HB.out _)
                    · have d7 : decide (x.cookie ≤ pc) = false := decide_eq_false q7
                      have HN := Lib.hid (HNX.out ⟨by omega, by omega, Classical.not_not.1 q2, Classical.not_not.1 q3, Classical.not_not.1 q4, hne, fun _ => by omega⟩)
                      clear q0 q1 q2 q3 q4 q5 q7 HIF HNX hprev hne
                      go_quiet (first
                        | (go_at_call_of 99 (x.name); refine Calls.quiet_of (KF _))
                        | (go_at_call_of 100 (x.name); refine Calls.quiet_of (KN _)))
                      all_goals
                        go_wp2
                        go_roundw
                        case rel => exact ⟨k + 1, by have := HLK.out; omega, by go_num, HN.out, bdN HB.out _⟩
                        case measure => have := HLK.out; simp [intOf]; omega
                  · have d6 : decide ((0 : Int) < (k : Int)) = false := decide_eq_false (by omega)
                    have HN := Lib.hid (HNX.out ⟨by omega, by omega, Classical.not_not.1 q2, Classical.not_not.1 q3, Classical.not_not.1 q4, hne, fun h => absurd h q6⟩)
                    clear q0 q1 q2 q3 q4 q5 HIF HNX hprev hne
                    go_quiet (first
                      | (go_at_call_of 99 (x.name); refine Calls.quiet_of (KF _))
                      | (go_at_call_of 100 (x.name); refine Calls.quiet_of (KN _)))
                    all_goals
                      go_wp2
                      go_roundw
                      case rel => exact ⟨k + 1, by have := HLK.out; omega, by go_num, HN.out, bdN HB.out _⟩
                      case measure => have := HLK.out; simp [intOf]; omega
    · obtain rfl : k = l.length := by omega
      have HG := Lib.hid hG.all
      have hk1 : ¬ (l.length : Int) < (l.length : Int) := by omega
      clear hG hA hlk
      go_wp2
      go_ret
      exact TellsP.yes HG.out hb
end Go.Proofs.YtgifmpobokaejaaGreatDoor

/-
  Layer 22, walks: the document's statuses, what it tells of a node, why something is not done with a file. No condition.
-/
namespace Go.Proofs.YtgifmpobokaejaaGreatDoor
open Go.RowKit
attribute [local go_sem ↓] Go.wp_at_zero Go.wp_at_succ
attribute [local go_sem] rowAt_ptr rowOf_drew rowOf_drewN rowOf_alloc_past rowOf_new
attribute [local go_sem ↓] ldAsk22 ldNode22 ldCred6 ldAttrR ldTree22 ldCall

set_option maxRecDepth 20000 in
set_option maxHeartbeats 800000 in
theorem refBad_any (s : Int) (w : World) : Calls Tryz.prog 37 #[.int .i64 s] w fun e w' => e = .returned (.agg (statR s).vals.toArray) ∧ Below w.heap.size w w' := by
  have b0 := Blk.new w 48 replyZ.vals
  have hB0 : Below w.heap.size w (w.alloc (.cells replyZ.vals.toArray 48)) := (Below.refl _ _).alloc (Nat.le_refl _) _
  have HB := Lib.hid (And.intro (b0.whole (cs := (statR s).vals) (by rfl)) (Below.setWhole hB0 (Nat.le_refl _) (statR s).vals))
  go_enter Tryz.func37, Tryz.ntmps37
  go_wp2_with (first | (refine wpList_store_whole (by rfl) 48 _ _ (by rfl) w.heap.size (statR s).vals _ b0 (by rfl) (by rfl) (by rfl) (by kernel_rfl) (Reply.one _) ?_) | fail)
  exact ret_cells w.heap.size 0 (statR s).vals Tryz.results37 Tryz.underlying48 rfl (by kernel_rfl) rfl HB.out.1.range rfl ⟨rfl, HB.out.2⟩
set_option maxRecDepth 20000 in
set_option maxHeartbeats 800000 in
theorem refPost22_any (n : Nd) (w : World) : Calls Tryz.prog 38 #[.agg n.vals.toArray] w fun e w' => e = .returned (.agg (postN n).vals.toArray) ∧ Below w.heap.size w w' := by
  obtain ⟨⟨a0, a1, a2, a3, a4, a5, a6, a7, a8, a9⟩, nd, nv, np, nl, ea, en, ec⟩ := n
  obtain ⟨n, hn⟩ : ∃ n : Nd, n = ⟨⟨a0, a1, a2, a3, a4, a5, a6, a7, a8, a9⟩, nd, nv, np, nl, ea, en, ec⟩ := ⟨_, rfl⟩
  rw [← hn]
  obtain ⟨bA, bR, hB, hs⟩ := chain2_blks w n.vals postZ.vals 65 42
  obtain ⟨w1, hw1⟩ : ∃ V, V = (w.alloc (.cells n.vals.toArray 65)).alloc (.cells postZ.vals.toArray 42) := ⟨_, rfl⟩
  rw [← hw1] at bA bR hB hs
  have r0 : rowOf w1 w.heap.size 0 10 = some #[.int .i64 a0, .int .i64 a1, .int .i64 a2, .int .i64 a3, .int .i64 a4, .int .i64 a5, .int .i64 a6, .int .i64 a7, .int .i64 a8, .int .i64 a9] := by rw [bA.row 0 10 (by simp [Nd.len]), hn]; rfl
  have HW1 := Lib.hid hw1
  obtain ⟨p, hp⟩ : ∃ p : Post, p = postN n := ⟨_, rfl⟩
  have HP := Lib.hid (show p = ⟨true, ⟨a0, a1, a2, a3, a4, a5, a6, a7, a8, a9⟩⟩ by rw [hp, hn]; rfl)
  have HB := Lib.hid (And.intro (bR.whole (cs := p.vals) (by rfl)) (Below.setWhole hB (Nat.le_succ _) p.vals))
  rw [← hp]
  clear hw1 bA hB hp hn
  go_enter Tryz.func38, Tryz.ntmps38
  go_upto_region 1 with fail
  change Code.wp _ _ _ _ ((w.alloc (.cells n.vals.toArray 65)).alloc (.cells postZ.vals.toArray 42))
  rw [← HW1.out]
  go_wp2_with (first | (refine wpList_store_whole (by rfl) 42 _ _ (by rfl) (w.heap.size + 1) p.vals _ bR (by rfl) (by rfl) (by rw [HP.out]; rfl) (by kernel_rfl) (Post.one _) ?_) | fail)
  exact ret_cells (w.heap.size + 1) 0 p.vals Tryz.results38 Tryz.underlying42 rfl (by kernel_rfl) rfl HB.out.1.range rfl ⟨rfl, HB.out.2⟩
set_option maxRecDepth 20000 in
set_option maxHeartbeats 1600000 in
theorem refFile_any (u : Cred) (n : Nd) (want : Int) (w : World) (hw : want = 1 ∨ want = 2 ∨ want = 3 ∨ want = 4) : Calls Tryz.prog 86 #[.agg n.vals.toArray, .agg u.vals.toArray, .int .i64 want] w fun e w' => e = .returned (.int .i64 (fileSt n u want)) ∧ Below w.heap.size w w' := by
  obtain ⟨bA, bC, hB, hs⟩ := chain2_blks w n.vals u.vals 65 28
  obtain ⟨w1, hw1⟩ : ∃ V, V = (w.alloc (.cells n.vals.toArray 65)).alloc (.cells u.vals.toArray 28) := ⟨_, rfl⟩
  rw [← hw1] at bA bC hB hs
  have r0 : rowOf w1 w.heap.size 0 10 = some n.attr.vals.toArray := bA.row 0 10 (by rw [Nd.len]; omega)
  have r1 : rowOf w1 (w.heap.size + 1) 0 4 = some u.vals.toArray := bC.row 0 4 (by show _ ≤ 4; omega)
  have c0 : w1.cell? ⟨w.heap.size, 0, none⟩ = some (.int .i64 n.attr.type) := bA.cell 0
  have HW1 := Lib.hid hw1
  have K := Lib.hid (fun W => refMayB6_any n.attr u want W hw)
  have HF := Lib.hid (show fileSt n u want = if n.attr.type = 2 then 21 else if n.attr.type ≠ 1 then 22 else if mayB (bitsP n.attr u.uid u.gid) want then 0 else 13 from rfl)
  generalize mayB (bitsP n.attr u.uid u.gid) want = m at *
  generalize fileSt n u want = st at *
  generalize n.attr.type = ty at *
  clear hw1 bA bC hs hw
  by_cases h2 : ty = 2
  · have HQ := Lib.hid (HF.out.trans (if_pos h2))
    subst h2
    go_enter Tryz.func86, Tryz.ntmps86
    go_upto_region 1 with fail
    change Code.wp _ _ _ _ ((w.alloc (.cells n.vals.toArray 65)).alloc (.cells u.vals.toArray 28))
    rw [← HW1.out]
    go_wp2
    go_ret
    exact ⟨ret_int (by rw [HQ.out]), hB⟩
  have h2' : (ty == 2) = false := by simpa using h2
  by_cases h1 : ty = 1
  · have HQ := Lib.hid ((HF.out.trans (if_neg h2)).trans (if_neg (by simpa using h1)))
    subst h1
    go_enter Tryz.func86, Tryz.ntmps86
    go_upto_region 1 with fail
    change Code.wp _ _ _ _ ((w.alloc (.cells n.vals.toArray 65)).alloc (.cells u.vals.toArray 28))
    rw [← HW1.out]
    go_wp2_with fail
    refine (K.out _).mono ?_
    rintro e w2 ⟨rfl, hb⟩
    have HB := Lib.hid (below_then hB hb)
    clear hb hB
    cases m
    · go_wp2
      go_ret
      exact ⟨ret_int (by rw [HQ.out]; rfl), HB.out⟩
    · go_wp2
      go_ret
      exact ⟨ret_int (by rw [HQ.out]; rfl), HB.out⟩
  · have HQ := Lib.hid ((HF.out.trans (if_neg h2)).trans (if_pos h1))
    have h1' : (ty != 1) = true := by simpa using h1
    go_enter Tryz.func86, Tryz.ntmps86
    go_upto_region 1 with fail
    change Code.wp _ _ _ _ ((w.alloc (.cells n.vals.toArray 65)).alloc (.cells u.vals.toArray 28))
    rw [← HW1.out]
    go_wp2
    go_ret
    exact ⟨ret_int (by rw [HQ.out]), hB⟩
end Go.Proofs.YtgifmpobokaejaaGreatDoor
