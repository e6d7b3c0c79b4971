/-
  Layer 22, walks: what is asked; bits, statuses, what is told of a node. No condition.
-/
import Derived.Test.YtgifmpobokaejaaGreatDoorF13
import Derived.Test.YtgifmpobokaejaaGreatDoorF23
import Derived.Test.YtgifmpobokaejaaGreatDoorF17
import Derived.Test.YtgifmpobokaejaaGreatDoorF25
namespace Go.Proofs.YtgifmpobokaejaaGreatDoor
open Go.RowKit
attribute [local go_sem ↓] Go.wp_at_zero Go.wp_at_succ
attribute [local go_sem] rowAt_ptr rowOf_drew rowOf_drewN rowOf_alloc_past rowOf_new

/-- a call, and the node that it is about -/
def askV (t : Tr) (u : Cred) (c : Call) (n : Nd) : List Value := t.vals ++ (u.vals ++ (c.vals ++ n.vals))
theorem askV_len (t : Tr) (u : Cred) (c : Call) (n : Nd) : (askV t u c n).length = 49 := rfl
theorem askV_one (t : Tr) (u : Cred) (c : Call) (n : Nd) : ∀ v ∈ askV t u c n, v.oneCell' = true := by
  intro v hv
  unfold askV at hv
  rcases List.mem_append.1 hv with hv | hv
  · unfold Tr.vals at hv
    rcases List.mem_append.1 hv with hv | hv
    · exact Lim.one _ v hv
    · simp only [List.mem_cons, List.not_mem_nil, or_false] at hv
      rcases hv with rfl | rfl | rfl <;> rfl
  · rcases List.mem_append.1 hv with hv | hv
    · exact Cred.one _ v hv
    · rcases List.mem_append.1 hv with hv | hv
      · exact Call.one _ v hv
      · exact Nd.one _ v hv
theorem ldAsk22 {ρ : Operand → Value} {w : World} {dst : Option Tmp} {ty : TypeId} {pos : String} {after : Array Edge} {g : Option (Nat × Bool)} {x : Operand} (h : (rowAt w 49 (ρ x)).isSome = true) :
    (execOp ρ ⟨dst, .load 76 x, ty, pos, after, g⟩).run Tryz.prog w = .ok (.value (.agg ((rowAt w 49 (ρ x)).getD #[]))) w := ex_load 76 49 Tryz.underlying76 rfl (by kernel_rfl) h
theorem ldNode22 {ρ : Operand → Value} {w : World} {dst : Option Tmp} {ty : TypeId} {pos : String} {after : Array Edge} {g : Option (Nat × Bool)} {x : Operand} (h : (rowAt w 15 (ρ x)).isSome = true) :
    (execOp ρ ⟨dst, .load 65 x, ty, pos, after, g⟩).run Tryz.prog w = .ok (.value (.agg ((rowAt w 15 (ρ x)).getD #[]))) w := ex_load 65 15 Tryz.underlying65 rfl (by kernel_rfl) h
attribute [local go_sem ↓] ldAsk22 ldNode22 ldCred6 ldAttrR ldTree22 ldCall

def statR (s : Int) : Reply := { replyZ with status := s }
set_option maxRecDepth 20000 in
set_option maxHeartbeats 800000 in
theorem lookStatus_any (s : Int) (w : World) : Calls Tryz.prog 33 #[.int .i64 s] w fun e w' => e = .returned (.agg (statR s).vals.toArray) ∧ Below w.heap.size w w' := by
  have b0 := Blk.new w 48 replyZ.vals
  have hB0 : Below w.heap.size w (w.alloc (.cells replyZ.vals.toArray 48)) := (Below.refl _ _).alloc (Nat.le_refl _) _
  have HB := Lib.hid (And.intro (b0.whole (cs := (statR s).vals) (by rfl)) (Below.setWhole hB0 (Nat.le_refl _) (statR s).vals))
  go_enter Tryz.func33, Tryz.ntmps33
  go_wp2_with (first | (refine wpList_store_whole (by rfl) 48 _ _ (by rfl) w.heap.size (statR s).vals _ b0 (by rfl) (by rfl) (by rfl) (by kernel_rfl) (Reply.one _) ?_) | fail)
  exact ret_cells w.heap.size 0 (statR s).vals Tryz.results33 Tryz.underlying48 rfl (by kernel_rfl) rfl HB.out.1.range rfl ⟨rfl, HB.out.2⟩
/-- what is told of a node -/
def postN (n : Nd) : Post := { is := true, attr := n.attr }
set_option maxRecDepth 20000 in
set_option maxHeartbeats 800000 in
theorem lookPost_any (n : Nd) (w : World) : Calls Tryz.prog 34 #[.agg n.vals.toArray] w fun e w' => e = .returned (.agg (postN n).vals.toArray) ∧ Below w.heap.size w w' := by
  obtain ⟨⟨a0, a1, a2, a3, a4, a5, a6, a7, a8, a9⟩, nd, nv, np, nl, ea, en, ec⟩ := n
  obtain ⟨n, hn⟩ : ∃ n : Nd, n = ⟨⟨a0, a1, a2, a3, a4, a5, a6, a7, a8, a9⟩, nd, nv, np, nl, ea, en, ec⟩ := ⟨_, rfl⟩
  rw [← hn]
  obtain ⟨bA, bR, hB, hs⟩ := chain2_blks w n.vals postZ.vals 65 42
  obtain ⟨w1, hw1⟩ : ∃ V, V = (w.alloc (.cells n.vals.toArray 65)).alloc (.cells postZ.vals.toArray 42) := ⟨_, rfl⟩
  rw [← hw1] at bA bR hB hs
  have r0 : rowOf w1 w.heap.size 0 10 = some #[.int .i64 a0, .int .i64 a1, .int .i64 a2, .int .i64 a3, .int .i64 a4, .int .i64 a5, .int .i64 a6, .int .i64 a7, .int .i64 a8, .int .i64 a9] := by rw [bA.row 0 10 (by simp [Nd.len]), hn]; rfl
  have HW1 := Lib.hid hw1
  obtain ⟨p, hp⟩ : ∃ p : Post, p = postN n := ⟨_, rfl⟩
  have HP := Lib.hid (show p = ⟨true, ⟨a0, a1, a2, a3, a4, a5, a6, a7, a8, a9⟩⟩ by rw [hp, hn]; rfl)
  have HB := Lib.hid (And.intro (bR.whole (cs := p.vals) (by rfl)) (Below.setWhole hB (Nat.le_succ _) p.vals))
  rw [← hp]
  clear hw1 bA hB hp hn
  go_enter Tryz.func34, Tryz.ntmps34
  go_upto_region 1 with fail
  change Code.wp _ _ _ _ ((w.alloc (.cells n.vals.toArray 65)).alloc (.cells postZ.vals.toArray 42))
  rw [← HW1.out]
  go_wp2_with (first | (refine wpList_store_whole (by rfl) 42 _ _ (by rfl) (w.heap.size + 1) p.vals _ bR (by rfl) (by rfl) (by rw [HP.out]; rfl) (by kernel_rfl) (Post.one _) ?_) | fail)
  exact ret_cells (w.heap.size + 1) 0 p.vals Tryz.results34 Tryz.underlying42 rfl (by kernel_rfl) rfl HB.out.1.range rfl ⟨rfl, HB.out.2⟩
set_option maxRecDepth 20000 in
set_option maxHeartbeats 800000 in
theorem askMay_any (t : Tr) (u : Cred) (c : Call) (n : Nd) (want : Int) (w : World) : Calls Tryz.prog 103 #[.agg (askV t u c n).toArray, .int .i64 want] w fun e w' => e = .returned (.bool (mayB (bitsP n.attr u.uid u.gid) want)) ∧ Below w.heap.size w w' := by
  have bA := Blk.new w 76 (askV t u c n)
  have hB : Below w.heap.size w (w.alloc (.cells (askV t u c n).toArray 76)) := (Below.refl _ _).alloc (Nat.le_refl _) _
  obtain ⟨w1, hw1⟩ : ∃ V, V = w.alloc (.cells (askV t u c n).toArray 76) := ⟨_, rfl⟩
  rw [← hw1] at bA hB
  have r0 : rowOf w1 w.heap.size 34 10 = some n.attr.vals.toArray := bA.row 34 10 (by rw [askV_len]; omega)
  have r1 : rowOf w1 w.heap.size 6 4 = some u.vals.toArray := bA.row 6 4 (by rw [askV_len]; omega)
  have HW1 := Lib.hid hw1
  have K := Lib.hid (fun W => may6_any n.attr u want W)
  clear hw1 bA
  generalize askV t u c n = av at *
  go_enter Tryz.func103, Tryz.ntmps103
  go_upto_region 1 with fail
  change Code.wp _ _ _ _ (w.alloc (.cells av.toArray 76))
  rw [← HW1.out]
  go_wp2_with fail
  refine (K.out _).mono ?_
  rintro e w2 ⟨rfl, hb⟩
  have HB := Lib.hid (below_then hB hb)
  clear hb hB
  go_wp2
  go_ret
  exact ⟨rfl, HB.out⟩
/-- why something is not done with a file -/
def fileSt (n : Nd) (u : Cred) (want : Int) : Int := if n.attr.type = 2 then 21 else if n.attr.type ≠ 1 then 22 else if mayB (bitsP n.attr u.uid u.gid) want then 0 else 13
set_option maxRecDepth 20000 in
set_option maxHeartbeats 1600000 in
theorem askFile_any (t : Tr) (u : Cred) (c : Call) (n : Nd) (want : Int) (w : World) : Calls Tryz.prog 106 #[.agg (askV t u c n).toArray, .int .i64 want] w fun e w' => e = .returned (.int .i64 (fileSt n u want)) ∧ Below w.heap.size w w' := by
  have bA := Blk.new w 76 (askV t u c n)
  have hB : Below w.heap.size w (w.alloc (.cells (askV t u c n).toArray 76)) := (Below.refl _ _).alloc (Nat.le_refl _) _
  obtain ⟨w1, hw1⟩ : ∃ V, V = w.alloc (.cells (askV t u c n).toArray 76) := ⟨_, rfl⟩
  rw [← hw1] at bA hB
  have r0 : rowOf w1 w.heap.size 0 49 = some (askV t u c n).toArray := by
    have := bA.row 0 49 (by rw [askV_len]; omega)
    rwa [show ((askV t u c n).drop 0).take 49 = askV t u c n from rfl] at this
  have c0 : w1.cell? ⟨w.heap.size, 34, none⟩ = some (.int .i64 n.attr.type) := bA.cell 34
  have HW1 := Lib.hid hw1
  have K := Lib.hid (fun W => askMay_any t u c n want W)
  have HF := Lib.hid (show fileSt n u want = if n.attr.type = 2 then 21 else if n.attr.type ≠ 1 then 22 else if mayB (bitsP n.attr u.uid u.gid) want then 0 else 13 from rfl)
  generalize mayB (bitsP n.attr u.uid u.gid) want = m at *
  generalize fileSt n u want = st at *
  generalize n.attr.type = ty at *
  clear hw1 bA
  generalize askV t u c n = av at *
  by_cases h2 : ty = 2
  · have HQ := Lib.hid (HF.out.trans (if_pos h2))
    subst h2
    go_enter Tryz.func106, Tryz.ntmps106
    go_upto_region 1 with fail
    change Code.wp _ _ _ _ (w.alloc (.cells av.toArray 76))
    rw [← HW1.out]
    go_wp2
    go_ret
    exact ⟨ret_int (by rw [HQ.out]), hB⟩
  have h2' : (ty == 2) = false := by simpa using h2
  by_cases h1 : ty = 1
  · have HQ := Lib.hid ((HF.out.trans (if_neg h2)).trans (if_neg (by simpa using h1)))
    subst h1
    go_enter Tryz.func106, Tryz.ntmps106
    go_upto_region 1 with fail
    change Code.wp _ _ _ _ (w.alloc (.cells av.toArray 76))
    rw [← HW1.out]
    go_wp2_with fail
    refine (K.out _).mono ?_
    rintro e w2 ⟨rfl, hb⟩
    have HB := Lib.hid (below_then hB hb)
    clear hb hB
    cases m
    · go_wp2
      go_ret
      exact ⟨ret_int (by rw [HQ.out]; rfl), HB.out⟩
    · go_wp2
      go_ret
      exact ⟨ret_int (by rw [HQ.out]; rfl), HB.out⟩
  · have HQ := Lib.hid ((HF.out.trans (if_neg h2)).trans (if_pos h1))
    have h1' : (ty != 1) = true := by simpa using h1
    go_enter Tryz.func106, Tryz.ntmps106
    go_upto_region 1 with fail
    change Code.wp _ _ _ _ (w.alloc (.cells av.toArray 76))
    rw [← HW1.out]
    go_wp2
    go_ret
    exact ⟨ret_int (by rw [HQ.out]), hB⟩
end Go.Proofs.YtgifmpobokaejaaGreatDoor
