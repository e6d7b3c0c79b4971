/-
  Layer 22, walks: how the document looks whether a node that is no directory may be, and a tree. Conditions: a tree that is not too large.
-/
import Derived.Test.YtgifmpobokaejaaGreatDoorF40
import Derived.Test.YtgifmpobokaejaaGreatDoorF39
namespace Go.Proofs.YtgifmpobokaejaaGreatDoor
open Go.RowKit
open Go.RowKit
attribute [local go_sem ↓] Go.wp_at_zero Go.wp_at_succ
attribute [local go_sem] rowAt_ptr rowOf_drew rowOf_drewN rowOf_alloc_past rowOf_new
attribute [local go_sem ↓] ldNode22 ldTree22 ldAttrR ldEntry

/-- what no directory that may be has -/
def OthF (n : Nd) (es : List Entry) : Prop := es = [] ∧ (n.attr.type = 1 → n.data.size ≤ 1024) ∧ (n.attr.type = 5 → targetSt (dataL n) = 0)
def SaysO (n : Nd) (es : List Entry) (w : World) (e : Ending) (w' : World) : Prop := ∃ b, e = .returned (.bool b) ∧ (b = true → OthF n es) ∧ Below w.heap.size w w'
theorem SaysO.no {n : Nd} {es : List Entry} {w w' : World} {b : Bool} (h : b = false) (hb : Below w.heap.size w w') : SaysO n es w (.returned (.bool b)) w' := ⟨b, rfl, (fun h2 => by rw [h] at h2; cases h2), hb⟩
theorem SaysO.any {n : Nd} {es : List Entry} {w w' : World} {b : Bool} (h : b = true → OthF n es) (hb : Below w.heap.size w w') : SaysO n es w (.returned (.bool b)) w' := ⟨b, rfl, h, hb⟩
set_option maxRecDepth 20000 in
set_option maxHeartbeats 3200000 in
theorem refOther_any (t : Tr) (ps : List (Nd × List Entry)) (n : Nd) (es : List Entry) (w : World) (hT : TreeH w t ps) (hen : n.en = es.length) (hd : (dataL n).length ≤ 1048576) :
    Calls Tryz.prog 30 #[t.val, .agg n.vals.toArray] w (SaysO n es w) := by
  obtain ⟨bT, bN, hB, hs⟩ := chain2_blks w t.vals n.vals 26 65
  obtain ⟨w1, hw1⟩ : ∃ V, V = (w.alloc (.cells t.vals.toArray 26)).alloc (.cells n.vals.toArray 65) := ⟨_, rfl⟩
  rw [← hw1] at bT bN hB hs
  have rT : rowOf w1 w.heap.size 0 6 = some t.vals.toArray := bT.row 0 6 (by rw [Tr.len]; omega)
  have cE : w1.cell? ⟨w.heap.size + 1, 14, none⟩ = some (.slice n.ea es.length n.ec) := by rw [bN.cell 14, ← hen]; rfl
  have cL : w1.cell? ⟨w.heap.size + 1, 13, none⟩ = some (.int .i64 n.last) := bN.cell 13
  have cP : w1.cell? ⟨w.heap.size + 1, 12, none⟩ = some (.int .i64 n.parent) := bN.cell 12
  have cV : w1.cell? ⟨w.heap.size + 1, 11, none⟩ = some (.int .i64 n.verf) := bN.cell 11
  have cD : w1.cell? ⟨w.heap.size + 1, 10, none⟩ = some (.string (bs (dataL n))) := by rw [← dataL_is]; exact bN.cell 10
  have cG : w1.cell? ⟨w.heap.size + 1, 7, none⟩ = some (.int .i64 n.attr.gen) := bN.cell 7
  have cK : w1.cell? ⟨w.heap.size + 1, 2, none⟩ = some (.int .i64 n.attr.nlink) := bN.cell 2
  have cT : w1.cell? ⟨w.heap.size + 1, 0, none⟩ = some (.int .i64 n.attr.type) := bN.cell 0
  have hlN := bN.lt
  have HW1 := Lib.hid hw1
  have HT := Lib.hid (hT.below hB)
  have KN := Lib.hid (refNamed_any t ps n.attr.gen w1 HT.out)
  have KT := Lib.hid (fun W => refTarget4_any (dataL n) W (by omega))
  have HB := Lib.hid hB
  have hsz := bs_size (dataL n)
  have HO := Lib.hid (show OthF n es = (es = [] ∧ (n.attr.type = 1 → (dataL n).length ≤ 1024) ∧ (n.attr.type = 5 → targetSt (dataL n) = 0)) by unfold OthF; rw [dataL_len])
  have HO2 := Lib.hid (fun (b : Bool) (W : World) (hB : Below w.heap.size w W) (ho : b = true → OthF n es) => (show SaysO n es w (.returned (.bool b)) W from SaysO.any ho hB))
  generalize hty : n.attr.type = ty at *
  generalize dataL n = d at *
  generalize targetSt d = st at *
  clear hw1 bT bN hs hT hB hen
  unfold Tr.val at KN ⊢
  have HT2 : (0 < es.length → es.length ≠ 0) := fun h => by omega
  go_enter Tryz.func30, Tryz.ntmps30
  go_upto_region 1 with fail
  change Code.wp _ _ _ _ ((w.alloc (.cells t.vals.toArray 26)).alloc (.cells n.vals.toArray 65))
  rw [← HW1.out]
  clear HT2 hty
  go_wp2_with fail
  refine KN.out.mono ?_
  rintro e w2 ⟨y, z, rfl, hb⟩
  replace cE := (hb.cell (p := ⟨w.heap.size + 1, 14, none⟩) hlN).trans cE
  replace cL := (hb.cell (p := ⟨w.heap.size + 1, 13, none⟩) hlN).trans cL
  replace cP := (hb.cell (p := ⟨w.heap.size + 1, 12, none⟩) hlN).trans cP
  replace cV := (hb.cell (p := ⟨w.heap.size + 1, 11, none⟩) hlN).trans cV
  replace cD := (hb.cell (p := ⟨w.heap.size + 1, 10, none⟩) hlN).trans cD
  replace cK := (hb.cell (p := ⟨w.heap.size + 1, 2, none⟩) hlN).trans cK
  replace cT := (hb.cell (p := ⟨w.heap.size + 1, 0, none⟩) hlN).trans cT
  have HF := Lib.hid (show Below w.heap.size w w2 from below_then HB.out hb)
  clear hb rT cG KN
  by_cases h0 : 0 < es.length
  · have h1 : (0 : Int) < (es.length : Int) := by omega
    go_wp2
    go_ret
    exact HO2.out _ _ HF.out (fun h => by cases h)
  have hes : es = [] := List.eq_nil_of_length_eq_zero (by omega)
  have h1 : ¬ (0 : Int) < (es.length : Int) := by omega
  by_cases t1 : ty = 1
  · subst t1
    by_cases hd1 : d.length ≤ 1024
    · have hd2 : (d.length : Int) ≤ 1024 := by omega
      have HY := Lib.hid (show OthF n es by rw [HO.out]; exact ⟨hes, fun _ => hd1, fun h => by cases h⟩)
      clear hes h0
      go_wp2
      all_goals
        go_ret
        exact HO2.out _ _ HF.out (fun _ => HY.out)
    · have hd2 : ¬ (d.length : Int) ≤ 1024 := by omega
      clear hes h0
      go_wp2
      all_goals
        go_ret
        exact HO2.out _ _ HF.out (fun h => by cases h)
  have t1' : (ty == 1) = false := by simpa using t1
  by_cases t5 : ty = 5
  · subst t5
    by_cases hs0 : st = 0
    · subst hs0
      have HY := Lib.hid (show OthF n es by rw [HO.out]; exact ⟨hes, (fun h => absurd h (by decide)), fun _ => rfl⟩)
      clear hes h0
      go_wp2_with (first | (go_at_call 69; refine (KT.out _).mono ?_; rintro e w3 ⟨rfl, rfl⟩) | fail)
      all_goals
        go_ret
        exact HO2.out _ _ HF.out (fun _ => HY.out)
    · have hs1 : (st == 0) = false := by simpa using hs0
      clear hes h0
      go_wp2_with (first | (go_at_call 69; refine (KT.out _).mono ?_; rintro e w3 ⟨rfl, rfl⟩) | fail)
      all_goals
        go_ret
        exact HO2.out _ _ HF.out (fun h => by cases h)
  have t5' : (ty == 5) = false := by simpa using t5
  have HY := Lib.hid (show OthF n es by rw [HO.out]; exact ⟨hes, fun h => absurd h t1, fun h => absurd h t5⟩)
  clear hes h0
  go_wp2
  all_goals
    go_ret
    exact HO2.out _ _ HF.out (fun _ => HY.out)
end Go.Proofs.YtgifmpobokaejaaGreatDoor

/-
  Layer 22, walks: how the document looks whether a node that is no directory may be, exact. Conditions: a tree that is not too large.
-/
namespace Go.Proofs.YtgifmpobokaejaaGreatDoor
open Go.RowKit
open Go.RowKit
attribute [local go_sem ↓] Go.wp_at_zero Go.wp_at_succ
attribute [local go_sem] rowAt_ptr rowOf_drew rowOf_drewN rowOf_alloc_past rowOf_new
attribute [local go_sem ↓] ldNode22 ldTree22 ldAttrR ldEntry

set_option maxRecDepth 20000 in
set_option maxHeartbeats 3200000 in
theorem refOther_iff (t : Tr) (ps : List (Nd × List Entry)) (n : Nd) (es : List Entry) (w : World) (hT : TreeH w t ps) (hen : n.en = es.length) (hd : (dataL n).length ≤ 1048576) :
    Calls Tryz.prog 30 #[t.val, .agg n.vals.toArray] w (TellsP (OthOk ps n es) w) := by
  obtain ⟨bT, bN, hB, hs⟩ := chain2_blks w t.vals n.vals 26 65
  obtain ⟨w1, hw1⟩ : ∃ V, V = (w.alloc (.cells t.vals.toArray 26)).alloc (.cells n.vals.toArray 65) := ⟨_, rfl⟩
  rw [← hw1] at bT bN hB hs
  have rT : rowOf w1 w.heap.size 0 6 = some t.vals.toArray := bT.row 0 6 (by rw [Tr.len]; omega)
  have cE : w1.cell? ⟨w.heap.size + 1, 14, none⟩ = some (.slice n.ea es.length n.ec) := by rw [bN.cell 14, ← hen]; rfl
  have cL : w1.cell? ⟨w.heap.size + 1, 13, none⟩ = some (.int .i64 n.last) := bN.cell 13
  have cP : w1.cell? ⟨w.heap.size + 1, 12, none⟩ = some (.int .i64 n.parent) := bN.cell 12
  have cV : w1.cell? ⟨w.heap.size + 1, 11, none⟩ = some (.int .i64 n.verf) := bN.cell 11
  have cD : w1.cell? ⟨w.heap.size + 1, 10, none⟩ = some (.string (bs (dataL n))) := by rw [← dataL_is]; exact bN.cell 10
  have cG : w1.cell? ⟨w.heap.size + 1, 7, none⟩ = some (.int .i64 n.attr.gen) := bN.cell 7
  have cK : w1.cell? ⟨w.heap.size + 1, 2, none⟩ = some (.int .i64 n.attr.nlink) := bN.cell 2
  have cT : w1.cell? ⟨w.heap.size + 1, 0, none⟩ = some (.int .i64 n.attr.type) := bN.cell 0
  have hlN := bN.lt
  have HW1 := Lib.hid hw1
  have HT := Lib.hid (hT.below hB)
  have KN := Lib.hid (refNamed_iff t ps n.attr.gen w1 HT.out)
  have KT := Lib.hid (fun W => refTarget4_any (dataL n) W (by omega))
  have HB := Lib.hid hB
  have hsz := bs_size (dataL n)
  have HO := Lib.hid (show OthOk ps n es ↔ (es.length = 0 ∧ n.parent = 0 ∧ n.last = 0 ∧ n.attr.nlink = (named ps n.attr.gen).1 ∧ 1 ≤ (named ps n.attr.gen).1 ∧ (named ps n.attr.gen).1 ≤ 8 ∧
      (n.attr.type = 1 → (dataL n).length ≤ 1024 ∧ 0 ≤ n.verf) ∧ (n.attr.type = 5 → targetSt (dataL n) = 0 ∧ n.verf = 0) ∧ (n.attr.type ≠ 1 → n.attr.type ≠ 5 → (dataL n).length = 0 ∧ n.verf = 0)) by
    unfold OthOk
    rw [dataL_len, List.length_eq_zero_iff]
    exact Iff.rfl)
  generalize OthOk ps n es = D at *
  generalize hty : n.attr.type = ty at *
  generalize dataL n = d at *
  generalize targetSt d = st at *
  generalize named ps n.attr.gen = R at *
  obtain ⟨y, z⟩ := R
  have HO2 := Lib.hid HO.out
  clear hw1 bT bN hs hT hB hen HO hty
  unfold Tr.val at KN ⊢
  go_enter Tryz.func30, Tryz.ntmps30
  go_upto_region 1 with fail
  change Code.wp _ _ _ _ ((w.alloc (.cells t.vals.toArray 26)).alloc (.cells n.vals.toArray 65))
  rw [← HW1.out]
  go_wp2_with fail
  refine KN.out.mono ?_
  rintro e w2 ⟨rfl, hb⟩
  replace cE := (hb.cell (p := ⟨w.heap.size + 1, 14, none⟩) hlN).trans cE
  replace cL := (hb.cell (p := ⟨w.heap.size + 1, 13, none⟩) hlN).trans cL
  replace cP := (hb.cell (p := ⟨w.heap.size + 1, 12, none⟩) hlN).trans cP
  replace cV := (hb.cell (p := ⟨w.heap.size + 1, 11, none⟩) hlN).trans cV
  replace cD := (hb.cell (p := ⟨w.heap.size + 1, 10, none⟩) hlN).trans cD
  replace cK := (hb.cell (p := ⟨w.heap.size + 1, 2, none⟩) hlN).trans cK
  replace cT := (hb.cell (p := ⟨w.heap.size + 1, 0, none⟩) hlN).trans cT
  have HF := Lib.hid (show Below w.heap.size w w2 from below_then HB.out hb)
  clear hb rT cG KN
  by_cases h0 : 0 < es.length
  case pos =>
    have h1 : (0 : Int) < (es.length : Int) := by omega
    have HQ := Lib.hid (show ¬ D from fun h => absurd (HO2.out.1 h).1 (by omega))
    clear HO2
    go_wp2
    go_ret
    exact TellsP.no HQ.out HF.out
  have h1 : ¬ (0 : Int) < (es.length : Int) := by omega
  by_cases q1 : n.parent = 0
  case neg =>
    have q1b : (n.parent != 0) = true := by simpa using q1
    have HQ := Lib.hid (show ¬ D from fun h => q1 (HO2.out.1 h).2.1)
    clear HO2 q1
    go_wp2
    go_ret
    exact TellsP.no HQ.out HF.out
  have q1b : (n.parent != 0) = false := by simpa using q1
  by_cases q2 : n.last = 0
  case neg =>
    have q2b : (n.last != 0) = true := by simpa using q2
    have HQ := Lib.hid (show ¬ D from fun h => q2 (HO2.out.1 h).2.2.1)
    clear HO2 q1 q2
    go_wp2
    go_ret
    exact TellsP.no HQ.out HF.out
  have q2b : (n.last != 0) = false := by simpa using q2
  by_cases q3 : n.attr.nlink = y
  case neg =>
    have q3b : (n.attr.nlink != y) = true := by simpa using q3
    have HQ := Lib.hid (show ¬ D from fun h => q3 (HO2.out.1 h).2.2.2.1)
    clear HO2 q1 q2 q3
    go_wp2
    go_ret
    exact TellsP.no HQ.out HF.out
  have q3b : (n.attr.nlink != y) = false := by simpa using q3
  by_cases q4 : 1 ≤ y
  case neg =>
    have q4b : y < 1 := by omega
    have HQ := Lib.hid (show ¬ D from fun h => q4 (HO2.out.1 h).2.2.2.2.1)
    clear HO2 q1 q2 q3 q4
    go_wp2
    go_ret
    exact TellsP.no HQ.out HF.out
  have q4b : ¬ y < 1 := by omega
  have q4c : decide (y < 1) = false := decide_eq_false q4b
  by_cases q5 : y ≤ 8
  case neg =>
    have q5b : 8 < y := by omega
    have HQ := Lib.hid (show ¬ D from fun h => q5 (HO2.out.1 h).2.2.2.2.2.1)
    clear HO2 q1 q2 q3 q4 q5
    go_wp2
    go_ret
    exact TellsP.no HQ.out HF.out
  have q5b : ¬ 8 < y := by omega
  have q5c : decide (8 < y) = false := decide_eq_false q5b
  have HO := Lib.hid (show D ↔ ((ty = 1 → d.length ≤ 1024 ∧ 0 ≤ n.verf) ∧ (ty = 5 → st = 0 ∧ n.verf = 0) ∧ (ty ≠ 1 → ty ≠ 5 → d.length = 0 ∧ n.verf = 0)) from
    ⟨fun h => (HO2.out.1 h).2.2.2.2.2.2, fun h => HO2.out.2 ⟨by omega, q1, q2, q3, q4, q5, h⟩⟩)
  clear HO2 q1 q2 q3 q4 q5
  by_cases t1 : ty = 1
  · subst t1
    by_cases hd1 : d.length ≤ 1024
    · have hd2 : (d.length : Int) ≤ 1024 := by omega
      by_cases hv : 0 ≤ n.verf
      · have hvd : decide (0 ≤ n.verf) = true := decide_eq_true hv
        have HY := Lib.hid (show D from HO.out.2 ⟨fun _ => ⟨hd1, hv⟩, (fun h => by cases h), fun h => absurd rfl h⟩)
        clear HO
        go_wp2
        all_goals
          go_ret
          exact TellsP.yes HY.out HF.out
      · have hv2 : decide (0 ≤ n.verf) = false := decide_eq_false hv
        have HQ := Lib.hid (show ¬ D from fun h => hv ((HO.out.1 h).1 rfl).2)
        clear HO
        go_wp2
        all_goals
          go_ret
          exact TellsP.no HQ.out HF.out
    · have hd2 : decide ((d.length : Int) ≤ 1024) = false := decide_eq_false (by omega)
      have HQ := Lib.hid (show ¬ D from fun h => hd1 ((HO.out.1 h).1 rfl).1)
      clear HO
      go_wp2
      all_goals
        go_ret
        exact TellsP.no HQ.out HF.out
  have t1' : (ty == 1) = false := by simpa using t1
  by_cases t5 : ty = 5
  · subst t5
    by_cases hs0 : st = 0
    · subst hs0
      have HY := Lib.hid (show D ↔ n.verf = 0 from ⟨fun h => ((HO.out.1 h).2.1 rfl).2, fun h => HO.out.2 ⟨fun h => absurd h (by decide), fun _ => ⟨rfl, h⟩, fun _ h => absurd rfl h⟩⟩)
      clear HO
      by_cases hv : n.verf = 0
      · have HQ := Lib.hid (HY.out.2 hv)
        have hv2 : (n.verf == 0) = true := by simpa using hv
        clear HY hv
        go_wp2_with (first | (go_at_call 69; refine (KT.out _).mono ?_; rintro e w3 ⟨rfl, rfl⟩) | fail)
        all_goals
          go_ret
          exact TellsP.yes HQ.out HF.out
      · have HQ := Lib.hid (fun h => hv (HY.out.1 h))
        have hv2 : (n.verf == 0) = false := by simpa using hv
        clear HY hv
        go_wp2_with (first | (go_at_call 69; refine (KT.out _).mono ?_; rintro e w3 ⟨rfl, rfl⟩) | fail)
        all_goals
          go_ret
          exact TellsP.no HQ.out HF.out
    · have hs1 : (st == 0) = false := by simpa using hs0
      have HQ := Lib.hid (show ¬ D from fun h => hs0 ((HO.out.1 h).2.1 rfl).1)
      clear HO hs0
      go_wp2_with (first | (go_at_call 69; refine (KT.out _).mono ?_; rintro e w3 ⟨rfl, rfl⟩) | fail)
      all_goals
        go_ret
        exact TellsP.no HQ.out HF.out
  have t5' : (ty == 5) = false := by simpa using t5
  by_cases hd0 : d.length = 0
  case neg =>
    have q2b : d ≠ [] := fun h => hd0 (by rw [h]; rfl)
    have q2c : d.isEmpty = false := by simpa using q2b
    have q2e : (d == []) = false := by simpa using q2b
    have HQ := Lib.hid (show ¬ D from fun h => hd0 ((HO.out.1 h).2.2 t1 t5).1)
    clear HO hd0
    go_wp2
    all_goals
      go_ret
      exact TellsP.no HQ.out HF.out
  obtain rfl : d = [] := List.eq_nil_of_length_eq_zero hd0
  have HY := Lib.hid (show D ↔ n.verf = 0 from ⟨fun h => ((HO.out.1 h).2.2 t1 t5).2, fun h => HO.out.2 ⟨fun h2 => absurd h2 t1, fun h2 => absurd h2 t5, fun _ _ => ⟨rfl, h⟩⟩⟩)
  clear HO hd0
  by_cases hv : n.verf = 0
  · have HQ := Lib.hid (HY.out.2 hv)
    have hv2 : (n.verf == 0) = true := by simpa using hv
    clear HY hv
    go_wp2
    all_goals
      go_ret
      exact TellsP.yes HQ.out HF.out
  · have HQ := Lib.hid (show ¬ D from fun h => hv (HY.out.1 h))
    have hv2 : (n.verf == 0) = false := by simpa using hv
    clear HY hv
    go_wp2
    all_goals
      go_ret
      exact TellsP.no HQ.out HF.out
end Go.Proofs.YtgifmpobokaejaaGreatDoor
