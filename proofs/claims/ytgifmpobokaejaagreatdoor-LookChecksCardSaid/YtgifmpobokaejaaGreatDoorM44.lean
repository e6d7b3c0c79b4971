/-
  Layer 22, walks: whether two trees are the same, by the document. Condition: trees that are not too large.
-/
import Derived.Test.YtgifmpobokaejaaGreatDoorM41
import Derived.Test.YtgifmpobokaejaaGreatDoorM19
import Derived.Deep.CutRange
namespace Go.Proofs.YtgifmpobokaejaaGreatDoor
open Go.RowKit
open Go.RowKit
attribute [local go_sem ↓] Go.wp_at_zero Go.wp_at_succ
attribute [local go_sem] rowAt_ptr rowOf_drew rowOf_drewN rowOf_alloc_past rowOf_new
attribute [local go_sem ↓] ldNode22 ldTree22 ldAttrR ldEntry ldLim22

def lfLim22 : List Leaf := [.i .i64, .i .i64, .i .i64]
def lfAttr22 : List Leaf := [.i .i64, .i .i64, .i .i64, .i .i64, .i .i64, .i .i64, .i .i64, .i .i64, .i .i64, .i .i64]
theorem leafsLim22 : leafs Tryz.prog 8 23 = some lfLim22 := by kernel_rfl
theorem leafsAttr22 : leafs Tryz.prog 8 40 = some lfAttr22 := by kernel_rfl
theorem guardLim22 : Tryz.prog.eqGuardType Tryz.prog.depth 23 = false := by kernel_rfl
theorem guardAttr22 : Tryz.prog.eqGuardType Tryz.prog.depth 40 = false := by kernel_rfl
theorem Lim.inj22 {x y : Lim} (h : x.vals = y.vals) : x = y := by
  obtain ⟨_, _, _⟩ := x
  obtain ⟨_, _, _⟩ := y
  simp only [Lim.vals, List.cons.injEq, Value.int.injEq, true_and, and_true] at h
  obtain ⟨h0, h1, h2⟩ := h
  subst_vars
  rfl
theorem Attr.inj22 {x y : Attr} (h : x.vals = y.vals) : x = y := by
  obtain ⟨_, _, _, _, _, _, _, _, _, _⟩ := x
  obtain ⟨_, _, _, _, _, _, _, _, _, _⟩ := y
  simp only [Attr.vals, List.cons.injEq, Value.int.injEq, true_and, and_true] at h
  obtain ⟨h0, h1, h2, h3, h4, h5, h6, h7, h8, h9⟩ := h
  subst_vars
  rfl
theorem neqLim22 (x y : Lim) (w : World) : (binOp .neq 23 (.agg x.vals.toArray) (.agg y.vals.toArray)).run Tryz.prog w = .ok (.bool (decide (x ≠ y))) w := by
  by_cases h : x = y
  · rw [neq_same leafsLim22 (by kernel_rfl) w _ _ (by rfl) (by rw [h]), decide_eq_false (by simpa using h)]
  · rw [neq_other leafsLim22 (by kernel_rfl) w _ _ (by rfl) (by rfl) (fun e => h (Lim.inj22 e)), decide_eq_true h]
theorem eqlLim22 (x y : Lim) (w : World) : (binOp .eql 23 (.agg x.vals.toArray) (.agg y.vals.toArray)).run Tryz.prog w = .ok (.bool (decide (x = y))) w := by
  by_cases h : x = y
  · rw [eql_same leafsLim22 (by kernel_rfl) w _ _ (by rfl) (by rw [h]), decide_eq_true h]
  · rw [eql_other leafsLim22 (by kernel_rfl) w _ _ (by rfl) (by rfl) (fun e => h (Lim.inj22 e)), decide_eq_false h]
theorem neqAttr22 (x y : Attr) (w : World) : (binOp .neq 40 (.agg x.vals.toArray) (.agg y.vals.toArray)).run Tryz.prog w = .ok (.bool (decide (x ≠ y))) w := by
  by_cases h : x = y
  · rw [neq_same leafsAttr22 (by kernel_rfl) w _ _ (by rfl) (by rw [h]), decide_eq_false (by simpa using h)]
  · rw [neq_other leafsAttr22 (by kernel_rfl) w _ _ (by rfl) (by rfl) (fun e => h (Attr.inj22 e)), decide_eq_true h]
theorem eqlAttr22 (x y : Attr) (w : World) : (binOp .eql 40 (.agg x.vals.toArray) (.agg y.vals.toArray)).run Tryz.prog w = .ok (.bool (decide (x = y))) w := by
  by_cases h : x = y
  · rw [eql_same leafsAttr22 (by kernel_rfl) w _ _ (by rfl) (by rw [h]), decide_eq_true h]
  · rw [eql_other leafsAttr22 (by kernel_rfl) w _ _ (by rfl) (by rfl) (fun e => h (Attr.inj22 e)), decide_eq_false h]
attribute [local go_sem ↓] neqLim22 eqlLim22 neqAttr22 eqlAttr22

attribute [local go_sem] guardLim22 guardAttr22

/-- whether two nodes are the same -/
def SameN (p q : Nd × List Entry) : Prop := p.1.attr = q.1.attr ∧ dataL p.1 = dataL q.1 ∧ p.1.verf = q.1.verf ∧ p.1.parent = q.1.parent ∧ p.1.last = q.1.last ∧ p.2 = q.2
/-- whether two trees are the same -/
def SameT (t : Tr) (ps : List (Nd × List Entry)) (u : Tr) (qs : List (Nd × List Entry)) : Prop :=
  t.lim = u.lim ∧ t.now = u.now ∧ t.gens = u.gens ∧ ps.length = qs.length ∧ ∀ (k : Nat) (hk : k < ps.length) (hq : k < qs.length), SameN ps[k] qs[k]

theorem setCells_past22 (o : Obj) (n : Nat) : ∀ (vs : List Value) (i : Nat) (u : World), n < u.heap.size → (u.alloc o).setCells n i vs = (u.setCells n i vs).alloc o
  | [], _, _, _ => rfl
  | v :: vs, i, u, h => by
    rw [World.setCells, World.setCells, World.setCell_alloc_past _ _ _ _ h]
    exact setCells_past22 o n vs (i + 1) _ (by simpa using h)
theorem setCells_drew22 (n : Nat) : ∀ (vs : List Value) (i : Nat) (u : World), u.drew.setCells n i vs = (u.setCells n i vs).drew
  | [], _, _ => rfl
  | v :: vs, i, u => by
    rw [World.setCells, World.setCells]
    exact setCells_drew22 n vs (i + 1) (u.setCell ⟨n, i, none⟩ v)
theorem storeGen22 (r : Nd) (X : World) (n : Nat) (hB : Blk X n 65 ndZ.vals) : (storeCells ⟨n, 0, none⟩ r.vals 0).run Tryz.prog X = .ok () (X.setCells n 0 r.vals) := by
  have ht := hB.there 0 15 (by rw [Nd.len]; omega)
  exact run_storeCells_cells (P := Tryz.prog) n 0 r.vals 0 X (fun j hj => by simpa only [Nat.zero_add, Nat.add_zero] using (ht j (by rw [Nd.len] at hj; exact hj)).1) (fun j hj => by simpa only [Nat.zero_add, Nat.add_zero] using (ht j (by rw [Nd.len] at hj; exact hj)).2) (Nd.one _)
theorem set1_22 (r : Nd) (u : World) (o : Obj) : ((u.alloc (.cells ndZ.vals.toArray 65)).alloc o).setCells u.heap.size 0 r.vals = (u.alloc (.cells r.vals.toArray 65)).alloc o := by
  have h1 := setCells_new u 65 r.vals [] ndZ.vals rfl
  have h2 := setCells_past22 o u.heap.size r.vals 0 (u.alloc (.cells ndZ.vals.toArray 65)) (by simp)
  rw [h2]
  exact congrArg (fun x => x.alloc o) h1
theorem set2_22 (r : Nd) (u : World) (o : Obj) : ((u.alloc o).alloc (.cells ndZ.vals.toArray 65)).setCells (u.heap.size + 1) 0 r.vals = (u.alloc o).alloc (.cells r.vals.toArray 65) := by
  have h1 := setCells_new (u.alloc o) 65 r.vals [] ndZ.vals rfl
  have hs : (u.alloc o).heap.size = u.heap.size + 1 := by simp
  rw [hs] at h1
  exact h1
theorem store1_22 (r : Nd) (u : World) (o : Obj) : (storeCells ⟨u.heap.size, 0, none⟩ r.vals 0).run Tryz.prog ((u.alloc (.cells #[.int .i64 0, .int .i64 0, .int .i64 0, .int .i64 0, .int .i64 0, .int .i64 0, .int .i64 0, .int .i64 0, .int .i64 0, .int .i64 0, .string ⟨#[]⟩, .int .i64 0, .int .i64 0, .int .i64 0, .slice none 0 0] 65)).alloc o).drew = .ok () ((u.alloc (.cells r.vals.toArray 65)).alloc o).drew := by
  rw [← set1_22 r u o, ← setCells_drew22]
  exact storeGen22 r _ _ (Blk.drew ((Blk.new u _ ndZ.vals).alloc o))
theorem store2_22 (r : Nd) (u : World) (o : Obj) : (storeCells ⟨u.heap.size + 1, 0, none⟩ r.vals 0).run Tryz.prog ((u.alloc o).alloc (.cells #[.int .i64 0, .int .i64 0, .int .i64 0, .int .i64 0, .int .i64 0, .int .i64 0, .int .i64 0, .int .i64 0, .int .i64 0, .int .i64 0, .string ⟨#[]⟩, .int .i64 0, .int .i64 0, .int .i64 0, .slice none 0 0] 65)).drew = .ok () ((u.alloc o).alloc (.cells r.vals.toArray 65)).drew := by
  rw [← set2_22 r u o, ← setCells_drew22]
  have hs : (u.alloc o).heap.size = u.heap.size + 1 := by simp
  exact storeGen22 r _ _ (Blk.drew (hs ▸ Blk.new (u.alloc o) _ ndZ.vals))
attribute [local go_sem ↓] store1_22 store2_22

set_option maxRecDepth 20000 in
set_option maxHeartbeats 3200000 in
theorem refSame22_iff (t u : Tr) (ps qs : List (Nd × List Entry)) (w : World) (hT : TreeH w t ps) (hU : TreeH w u qs) :
    Calls Tryz.prog 21 #[t.val, u.val] w (TellsP (SameT t ps u qs) w) := by
  obtain ⟨bT, bU, hB, hs⟩ := chain2_blks w t.vals u.vals 26 26
  obtain ⟨w1, hw1⟩ : ∃ V, V = (w.alloc (.cells t.vals.toArray 26)).alloc (.cells u.vals.toArray 26) := ⟨_, rfl⟩
  rw [← hw1] at bT bU hB hs
  have rT : rowOf w1 w.heap.size 0 3 = some t.lim.vals.toArray := bT.row 0 3 (by rw [Tr.len]; omega)
  have rU : rowOf w1 (w.heap.size + 1) 0 3 = some u.lim.vals.toArray := bU.row 0 3 (by rw [Tr.len]; omega)
  have t3 : w1.cell? ⟨w.heap.size, 3, none⟩ = some (.int .i64 t.now) := bT.cell 3
  have t4 : w1.cell? ⟨w.heap.size, 4, none⟩ = some (.int .i64 t.gens) := bT.cell 4
  have t5 : w1.cell? ⟨w.heap.size, 5, none⟩ = some (.slice t.na t.ns.length t.nc) := bT.cell 5
  have u3 : w1.cell? ⟨w.heap.size + 1, 3, none⟩ = some (.int .i64 u.now) := bU.cell 3
  have u4 : w1.cell? ⟨w.heap.size + 1, 4, none⟩ = some (.int .i64 u.gens) := bU.cell 4
  have u5 : w1.cell? ⟨w.heap.size + 1, 5, none⟩ = some (.slice u.na u.ns.length u.nc) := bU.cell 5
  have hlT := bT.lt
  have hlU := bU.lt
  have HW1 := Lib.hid hw1
  have HT := Lib.hid (hT.below hB)
  have HU := Lib.hid (hU.below hB)
  have HB := Lib.hid hB
  have hl70 := hT.few.1
  have hlp : t.ns.length = ps.length := by rw [hT.ns, List.length_map]
  have hlq : u.ns.length = qs.length := by rw [hU.ns, List.length_map]
  have HD := Lib.hid (show SameT t ps u qs ↔ (t.lim = u.lim ∧ t.now = u.now ∧ t.gens = u.gens ∧ t.ns.length = u.ns.length ∧ ∀ (k : Nat) (hk : k < ps.length) (hq : k < qs.length), SameN ps[k] qs[k]) by
    rw [hlp, hlq]
    exact Iff.rfl)
  generalize SameT t ps u qs = D at *
  have HLP := Lib.hid (And.intro hlp hlq)
  clear hw1 bT bU hT hU hB hs hlp hlq
  unfold Tr.val
  go_enter Tryz.func21, Tryz.ntmps21
  go_upto_region 1 with fail
  change Code.wp _ _ _ _ ((w.alloc (.cells t.vals.toArray 26)).alloc (.cells u.vals.toArray 26))
  rw [← HW1.out]
  by_cases q1 : t.lim = u.lim
  case neg =>
    have q1b : decide (t.lim ≠ u.lim) = true := decide_eq_true q1
    have HQ := Lib.hid (show ¬ D from fun h => q1 (HD.out.1 h).1)
    clear q1
    go_wp2
    go_ret
    exact TellsP.no HQ.out HB.out
  have q1b : decide (t.lim ≠ u.lim) = false := decide_eq_false (fun h => h q1)
  by_cases q2 : t.now = u.now
  case neg =>
    have q2b : (t.now != u.now) = true := by simpa using q2
    have HQ := Lib.hid (show ¬ D from fun h => q2 (HD.out.1 h).2.1)
    clear q1 q2
    go_wp2
    go_ret
    exact TellsP.no HQ.out HB.out
  have q2b : (t.now != u.now) = false := by simpa using q2
  by_cases q3 : t.gens = u.gens
  case neg =>
    have q3b : (t.gens != u.gens) = true := by simpa using q3
    have HQ := Lib.hid (show ¬ D from fun h => q3 (HD.out.1 h).2.2.1)
    clear q1 q2 q3
    go_wp2
    go_ret
    exact TellsP.no HQ.out HB.out
  have q3b : (t.gens != u.gens) = false := by simpa using q3
  by_cases q4 : t.ns.length = u.ns.length
  case neg =>
    have q4b : ((t.ns.length : Int) != (u.ns.length : Int)) = true := bne_iff_ne.2 (by omega)
    have HQ := Lib.hid (show ¬ D from fun h => q4 (HD.out.1 h).2.2.2.1)
    clear q1 q2 q3 q4
    go_wp2
    go_ret
    exact TellsP.no HQ.out HB.out
  have q4b : ((t.ns.length : Int) != (u.ns.length : Int)) = false := by rw [q4]; exact bne_self_eq_false _
  have q4c : t.ns.length ≤ u.ns.length := by omega
  have HDN := Lib.hid (show D ↔ ∀ (k : Nat) (hk : k < ps.length) (hq : k < qs.length), SameN ps[k] qs[k] from ⟨fun h => (HD.out.1 h).2.2.2.2, fun h => HD.out.2 ⟨q1, q2, q3, q4, h⟩⟩)
  clear q1 q2 q3 q4 HD
  go_wp2
  clear rT rU t3 t4 u3 u4
  go_loopw [5] (fun i wr => ∃ k : Nat, k ≤ t.ns.length ∧ i = .int .i64 k ∧ (∀ (j : Nat) (hj : j < ps.length) (hq : j < qs.length), j < k → SameN ps[j] qs[j]) ∧ Below w1.heap.size w1 wr) (fun i _ => t.ns.length - (intOf i).toNat)
  case atStart => exact ⟨0, Nat.zero_le _, rfl, (fun _ _ _ h => absurd h (Nat.not_lt_zero _)), Below.refl _ _⟩
  case round =>
    obtain ⟨k, hk, rfl, hok, hb⟩ := hrel
    replace t5 := (hb.cell (p := ⟨w.heap.size, 5, none⟩) hlT).trans t5
    replace u5 := (hb.cell (p := ⟨w.heap.size + 1, 5, none⟩) hlU).trans u5
    have hlT2 := Nat.lt_of_lt_of_le hlT hb.size
    have hlU2 := Nat.lt_of_lt_of_le hlU hb.size
    have hk0 : (0 : Int) ≤ (k : Int) := Int.natCast_nonneg _
    by_cases hlt : k < t.ns.length
    · have hk1 : (k : Int) < (t.ns.length : Int) := by omega
      have hk2 : (k : Int) < (u.ns.length : Int) := by omega
      have hiw : IntKind.i64.wrap ((k : Int) + 1) = ((k + 1 : Nat) : Int) := by rw [IntWalk.i64_in _ (by omega)]; omega
      have hkp : k < ps.length := by have := HLP.out.1; omega
      have hkq : k < qs.length := by have := HLP.out.2; omega
      have HNX := Lib.hid (fun (h : SameN ps[k] qs[k]) => (show ∀ (j : Nat) (hj : j < ps.length) (hq : j < qs.length), j < k + 1 → SameN ps[j] qs[j] from fun j hj hq hjk => by
        rcases Nat.lt_or_ge j k with h1 | h1
        · exact hok j hj hq h1
        · obtain rfl : j = k := by omega
          exact h))
      have HIF := Lib.hid (fun (h : D) => HDN.out.1 h k hkp hkq)
      obtain ⟨_, hnp, hen, hE, h70⟩ := HT.out.rowAt2 hlt
      obtain ⟨_, hnq, hfn, hF, h71⟩ := HU.out.rowAt2 (k := k) (by omega)
      obtain ⟨b1, o1, hna, hb1, rn, -⟩ := rowCell8 Nd.len (by decide) (HT.out.at_.below hb) hlt
      obtain ⟨b2, o2, hua, hb2, rm, -⟩ := rowCell8 Nd.len (by decide) (HU.out.at_.below hb) (k := k) (by omega)
      rw [hnp] at rn
      rw [hnq] at rm
      rw [hna] at t5
      rw [hua] at u5
      have HE := Lib.hid (hE.below hb)
      have HFE := Lib.hid (hF.below hb)
      have HBr := Lib.hid hb
      generalize ps[k] = p at *
      generalize qs[k] = q at *
      obtain ⟨n, es⟩ := p
      obtain ⟨m, fs⟩ := q
      simp only at hen hfn rn rm HE HFE h70 h71
      clear hok hb hE hF hnp hnq hna hua
      go_upto_region 6 with fail
      go_cut [6, 7] from 43 to 93 (fun v6 v7 wx => ∃ b6 b7 : Nat, v6 = .pointer (some ⟨b6, 0, none⟩) ∧ v7 = .pointer (some ⟨b7, 0, none⟩) ∧ Blk wx b6 65 n.vals ∧ Blk wx b7 65 m.vals ∧ Stb wr wx)
      case first =>
        go_region_held3 (fun W => Stb wr W) (first | exact Stb.start | assumption | (exact Stb.alloc (Stb.alloc Stb.start _) _) | (exact Stb.alloc Stb.start _)) (first | fail)
        all_goals
          go_wp2
          go_meet
          case rel =>
            first
            | (obtain ⟨k1, k2, k3, -⟩ := chain2_blks wr n.vals m.vals 65 65; exact ⟨_, _, rfl, rfl, k1.drew, k2.drew, Stb.of k3.drew⟩)
            | (obtain ⟨k1, k2, k3, -⟩ := chain2_blks wr m.vals n.vals 65 65; exact ⟨_, _, rfl, rfl, k2.drew, k1.drew, Stb.of k3.drew⟩)
      obtain ⟨b6, b7, rfl, rfl, h6, h7, hst⟩ := hcut
      have hb := hst.below
      have HBc := Lib.hid (HBr.out.trans (hb.mono HBr.out.size))
      have HFc := Lib.hid (show Below w.heap.size w wc from below_then HB.out HBc.out)
      have r6 : rowOf wc b6 0 10 = some n.attr.vals.toArray := h6.row 0 10 (by rw [Nd.len]; omega)
      have r7 : rowOf wc b7 0 10 = some m.attr.vals.toArray := h7.row 0 10 (by rw [Nd.len]; omega)
      have x10 : wc.cell? ⟨b6, 10, none⟩ = some (.string (bs (dataL n))) := by rw [← dataL_is]; exact h6.cell 10
      have y10 : wc.cell? ⟨b7, 10, none⟩ = some (.string (bs (dataL m))) := by rw [← dataL_is]; exact h7.cell 10
      have x11 : wc.cell? ⟨b6, 11, none⟩ = some (.int .i64 n.verf) := h6.cell 11
      have y11 : wc.cell? ⟨b7, 11, none⟩ = some (.int .i64 m.verf) := h7.cell 11
      have x12 : wc.cell? ⟨b6, 12, none⟩ = some (.int .i64 n.parent) := h6.cell 12
      have y12 : wc.cell? ⟨b7, 12, none⟩ = some (.int .i64 m.parent) := h7.cell 12
      have x13 : wc.cell? ⟨b6, 13, none⟩ = some (.int .i64 n.last) := h6.cell 13
      have y13 : wc.cell? ⟨b7, 13, none⟩ = some (.int .i64 m.last) := h7.cell 13
      have x14 : wc.cell? ⟨b6, 14, none⟩ = some (.slice n.ea es.length n.ec) := by rw [h6.cell 14, ← hen]; rfl
      have y14 : wc.cell? ⟨b7, 14, none⟩ = some (.slice m.ea fs.length m.ec) := by rw [h7.cell 14, ← hfn]; rfl
      have KS := Lib.hid (same20_any n.ea m.ea n.ec m.ec es fs wc (by omega) (by omega) (HE.out.below hb) (HFE.out.below hb))
      have HN := Lib.hid (show SameN (n, es) (m, fs) ↔ (n.attr = m.attr ∧ dataL n = dataL m ∧ n.verf = m.verf ∧ n.parent = m.parent ∧ n.last = m.last ∧ es = fs) from Iff.rfl)
      generalize SameN (n, es) (m, fs) = SN at *
      generalize dataL n = dn at *
      generalize dataL m = dm at *
      clear h6 h7 hst hb rn rm hen hfn t5 u5 HE HFE
      by_cases e1 : n.attr = m.attr
      case neg =>
        have e1b : decide (n.attr ≠ m.attr) = true := decide_eq_true e1
        have HQ := Lib.hid (show ¬ D from fun h => e1 (HN.out.1 (HIF.out h)).1)
        clear e1
        go_wp2
        go_ret
        exact TellsP.no HQ.out HFc.out
      have e1b : decide (n.attr ≠ m.attr) = false := decide_eq_false (fun h => h e1)
      by_cases e2 : dn = dm
      case neg =>
        have e2b : (dn == dm) = false := by simpa using e2
        have HQ := Lib.hid (show ¬ D from fun h => e2 (HN.out.1 (HIF.out h)).2.1)
        clear e1 e2
        go_wp2
        go_ret
        exact TellsP.no HQ.out HFc.out
      have e2b : (dn == dm) = true := by simpa using e2
      by_cases e3 : n.verf = m.verf
      case neg =>
        have e3b : (n.verf != m.verf) = true := by simpa using e3
        have HQ := Lib.hid (show ¬ D from fun h => e3 (HN.out.1 (HIF.out h)).2.2.1)
        clear e1 e2 e3
        go_wp2
        go_ret
        exact TellsP.no HQ.out HFc.out
      have e3b : (n.verf != m.verf) = false := by simpa using e3
      by_cases e4 : n.parent = m.parent
      case neg =>
        have e4b : (n.parent != m.parent) = true := by simpa using e4
        have HQ := Lib.hid (show ¬ D from fun h => e4 (HN.out.1 (HIF.out h)).2.2.2.1)
        clear e1 e2 e3 e4
        go_wp2
        go_ret
        exact TellsP.no HQ.out HFc.out
      have e4b : (n.parent != m.parent) = false := by simpa using e4
      by_cases e5 : n.last = m.last
      case neg =>
        have e5b : (n.last != m.last) = true := by simpa using e5
        have HQ := Lib.hid (show ¬ D from fun h => e5 (HN.out.1 (HIF.out h)).2.2.2.2.1)
        clear e1 e2 e3 e4 e5
        go_wp2
        go_ret
        exact TellsP.no HQ.out HFc.out
      have e5b : (n.last != m.last) = false := by simpa using e5
      have HN2 := Lib.hid (show SN ↔ es = fs from ⟨fun h => (HN.out.1 h).2.2.2.2.2, fun h => HN.out.2 ⟨e1, e2, e3, e4, e5, h⟩⟩)
      clear HN e1 e2 e3 e4 e5
      by_cases e6 : es = fs
      case neg =>
        have e6b : decide (es = fs) = false := decide_eq_false e6
        have HQ := Lib.hid (show ¬ D from fun h => e6 (HN2.out.1 (HIF.out h)))
        rw [e6b] at KS
        clear e6 HN2
        go_wp2_with fail
        refine KS.out.mono ?_
        rintro e w9 ⟨rfl, hb9⟩
        have HF9 := Lib.hid (below_then HFc.out hb9)
        clear hb9
        go_wp2
        go_ret
        exact TellsP.no HQ.out HF9.out
      have e6b : decide (es = fs) = true := decide_eq_true e6
      have HOK := Lib.hid (HNX.out (HN2.out.2 e6))
      rw [e6b] at KS
      clear e6 HN2
      go_wp2_with fail
      refine KS.out.mono ?_
      rintro e w9 ⟨rfl, hb9⟩
      have HB9 := Lib.hid (HBc.out.trans (hb9.mono HBc.out.size))
      clear hb9
      go_wp2
      go_roundw
      case rel => first
        | exact ⟨k + 1, by omega, by first | rfl | go_num, HOK.out, HB9.out⟩
        | (repeat apply Exists.intro
           refine ⟨?_, rfl⟩
           exact ⟨k + 1, by omega, by first | rfl | go_num, HOK.out, HB9.out⟩)
      case measure => simp [intOf]; omega
    · obtain rfl : k = t.ns.length := by omega
      have hlm : ¬ (t.ns.length : Int) < (t.ns.length : Int) := by omega
      have HQ := Lib.hid (show D from HDN.out.2 fun j hj hq => hok j hj hq (by have := HLP.out.1; omega))
      have HFr := Lib.hid (show Below w.heap.size w wr from below_then HB.out hb)
      clear hok hb
      go_wp2
      go_ret
      exact TellsP.yes HQ.out HFr.out
end Go.Proofs.YtgifmpobokaejaaGreatDoor

/-
  Layer 22, walks: whether two trees are the same, by the program. Condition: trees that are not too large.
-/
namespace Go.Proofs.YtgifmpobokaejaaGreatDoor
open Go.RowKit
open Go.RowKit
attribute [local go_sem ↓] Go.wp_at_zero Go.wp_at_succ
attribute [local go_sem] rowAt_ptr rowOf_drew rowOf_drewN rowOf_alloc_past rowOf_new
attribute [local go_sem ↓] ldNode22 ldTree22 ldAttrR ldEntry ldLim22

attribute [local go_sem ↓] neqLim22 eqlLim22 neqAttr22 eqlAttr22

attribute [local go_sem] guardLim22 guardAttr22

/-- a tree in memory, of few nodes and entries -/
structure TreeW (w : World) (t : Tr) (ps : List (Nd × List Entry)) : Prop where
  ns : t.ns = ps.map (·.1)
  at_ : At w 15 t.na (t.ns.map Nd.vals)
  ents : Ents w ps
  few : t.ns.length ≤ 70
  rows : ∀ p ∈ ps, p.2.length ≤ 70
theorem TreeW.below {w w' : World} {t : Tr} {ps : List (Nd × List Entry)} (h : TreeW w t ps) (hb : Below w.heap.size w w') : TreeW w' t ps :=
  ⟨h.ns, h.at_.below hb, h.ents.below hb, h.few, h.rows⟩
theorem TreeH.weak {w : World} {t : Tr} {ps : List (Nd × List Entry)} (h : TreeH w t ps) : TreeW w t ps := ⟨h.ns, h.at_, h.ents, h.few.1, fun p hp => (h.rows p hp).1⟩
theorem TreeW.rowAt2 {w : World} {t : Tr} {ps : List (Nd × List Entry)} (h : TreeW w t ps) {k : Nat} (hk : k < t.ns.length) : ∃ hk2 : k < ps.length, t.ns[k] = ps[k].1 ∧ ps[k].1.en = ps[k].2.length ∧ At w 15 ps[k].1.ea (ps[k].2.map Entry.vals) ∧ ps[k].2.length ≤ 70 := by
  have hns := h.ns
  have hkp : k < ps.length := by rw [hns, List.length_map] at hk; exact hk
  refine ⟨hkp, by simp only [hns, List.getElem_map], (h.ents _ (List.getElem_mem hkp)).1, (h.ents _ (List.getElem_mem hkp)).2, h.rows _ (List.getElem_mem hkp)⟩
theorem callSame1 (args : Array Value) (w : World) : (callFunc 63 args).run Tryz.prog w = .ok (.enter 63 args) w := by kernel_rfl
set_option maxRecDepth 20000 in
set_option maxHeartbeats 3200000 in
theorem lookSame1_iff (n m : Nd) (es fs : List Entry) (w : World) (hen : n.en = es.length) (hfn : m.en = fs.length) (h70 : es.length ≤ 70) (h71 : fs.length ≤ 70) (hE : At w 15 n.ea (es.map Entry.vals)) (hF : At w 15 m.ea (fs.map Entry.vals)) :
    Calls Tryz.prog 63 #[.agg n.vals.toArray, .agg m.vals.toArray] w (TellsP (SameN (n, es) (m, fs)) w) := by
  obtain ⟨h6, h7, hB, hs⟩ := chain2_blks w n.vals m.vals 65 65
  obtain ⟨wc, hw1⟩ : ∃ V, V = (w.alloc (.cells n.vals.toArray 65)).alloc (.cells m.vals.toArray 65) := ⟨_, rfl⟩
  rw [← hw1] at h6 h7 hB hs
  have HW1 := Lib.hid hw1
  have HFc := Lib.hid hB
  have r6 : rowOf wc w.heap.size 0 10 = some n.attr.vals.toArray := h6.row 0 10 (by rw [Nd.len]; omega)
  have r7 : rowOf wc (w.heap.size + 1) 0 10 = some m.attr.vals.toArray := h7.row 0 10 (by rw [Nd.len]; omega)
  have x10 : wc.cell? ⟨w.heap.size, 10, none⟩ = some (.string (bs (dataL n))) := by rw [← dataL_is]; exact h6.cell 10
  have y10 : wc.cell? ⟨w.heap.size + 1, 10, none⟩ = some (.string (bs (dataL m))) := by rw [← dataL_is]; exact h7.cell 10
  have x11 : wc.cell? ⟨w.heap.size, 11, none⟩ = some (.int .i64 n.verf) := h6.cell 11
  have y11 : wc.cell? ⟨w.heap.size + 1, 11, none⟩ = some (.int .i64 m.verf) := h7.cell 11
  have x12 : wc.cell? ⟨w.heap.size, 12, none⟩ = some (.int .i64 n.parent) := h6.cell 12
  have y12 : wc.cell? ⟨w.heap.size + 1, 12, none⟩ = some (.int .i64 m.parent) := h7.cell 12
  have x13 : wc.cell? ⟨w.heap.size, 13, none⟩ = some (.int .i64 n.last) := h6.cell 13
  have y13 : wc.cell? ⟨w.heap.size + 1, 13, none⟩ = some (.int .i64 m.last) := h7.cell 13
  have x14 : wc.cell? ⟨w.heap.size, 14, none⟩ = some (.slice n.ea es.length n.ec) := by rw [h6.cell 14, ← hen]; rfl
  have y14 : wc.cell? ⟨w.heap.size + 1, 14, none⟩ = some (.slice m.ea fs.length m.ec) := by rw [h7.cell 14, ← hfn]; rfl
  have KS := Lib.hid (equalE_any n.ea m.ea n.ec m.ec es fs wc (by omega) (by omega) (hE.below hB) (hF.below hB))
  have HN := Lib.hid (show SameN (n, es) (m, fs) ↔ (n.attr = m.attr ∧ dataL n = dataL m ∧ n.verf = m.verf ∧ n.parent = m.parent ∧ n.last = m.last ∧ es = fs) from Iff.rfl)
  generalize SameN (n, es) (m, fs) = SN at *
  generalize dataL n = dn at *
  generalize dataL m = dm at *
  clear hw1 h6 h7 hB hs hE hF hen hfn
  go_enter Tryz.func63, Tryz.ntmps63
  go_upto_region 1 with fail
  change Code.wp _ _ _ _ ((w.alloc (.cells n.vals.toArray 65)).alloc (.cells m.vals.toArray 65))
  rw [← HW1.out]
  by_cases e1 : n.attr = m.attr
  case neg =>
    have e1b : decide (n.attr = m.attr) = false := decide_eq_false e1
    have HQ := Lib.hid (show ¬ SN from fun h => e1 (HN.out.1 h).1)
    clear e1
    go_wp2
    go_ret
    exact TellsP.no HQ.out HFc.out
  have e1b : decide (n.attr = m.attr) = true := decide_eq_true e1
  by_cases e2 : dn = dm
  case neg =>
    have e2b : (dn == dm) = false := by simpa using e2
    have HQ := Lib.hid (show ¬ SN from fun h => e2 (HN.out.1 h).2.1)
    clear e1 e2
    go_wp2
    go_ret
    exact TellsP.no HQ.out HFc.out
  have e2b : (dn == dm) = true := by simpa using e2
  by_cases e3 : n.verf = m.verf
  case neg =>
    have e3b : (n.verf == m.verf) = false := by simpa using e3
    have HQ := Lib.hid (show ¬ SN from fun h => e3 (HN.out.1 h).2.2.1)
    clear e1 e2 e3
    go_wp2
    go_ret
    exact TellsP.no HQ.out HFc.out
  have e3b : (n.verf == m.verf) = true := by simpa using e3
  by_cases e4 : n.parent = m.parent
  case neg =>
    have e4b : (n.parent == m.parent) = false := by simpa using e4
    have HQ := Lib.hid (show ¬ SN from fun h => e4 (HN.out.1 h).2.2.2.1)
    clear e1 e2 e3 e4
    go_wp2
    go_ret
    exact TellsP.no HQ.out HFc.out
  have e4b : (n.parent == m.parent) = true := by simpa using e4
  by_cases e5 : n.last = m.last
  case neg =>
    have e5b : (n.last == m.last) = false := by simpa using e5
    have HQ := Lib.hid (show ¬ SN from fun h => e5 (HN.out.1 h).2.2.2.2.1)
    clear e1 e2 e3 e4 e5
    go_wp2
    go_ret
    exact TellsP.no HQ.out HFc.out
  have e5b : (n.last == m.last) = true := by simpa using e5
  have HN2 := Lib.hid (show es = fs ↔ SN from ⟨fun h => HN.out.2 ⟨e1, e2, e3, e4, e5, h⟩, fun h => (HN.out.1 h).2.2.2.2.2⟩)
  clear HN e1 e2 e3 e4 e5
  go_wp2_with fail
  refine KS.out.mono ?_
  rintro e w9 ⟨rfl, hb9⟩
  have HF9 := Lib.hid (below_then HFc.out hb9)
  clear hb9
  have HD := Lib.hid (show decide (es = fs) = true ↔ SN from by rw [decide_eq_true_eq]; exact HN2.out)
  generalize decide (es = fs) = d at *
  go_wp2
  go_ret
  exact TellsP.is HD.out HF9.out
set_option maxRecDepth 20000 in
set_option maxHeartbeats 3200000 in
theorem equalFuncN_iff (t u : Tr) (ps qs : List (Nd × List Entry)) (w : World) (hT : TreeW w t ps) (hU : TreeW w u qs) :
    Calls Tryz.prog 62 #[.slice t.na t.ns.length t.nc, .slice u.na u.ns.length u.nc, .func (.func 63) #[] #[]] w
      (TellsP (ps.length = qs.length ∧ ∀ (k : Nat) (hk : k < ps.length) (hq : k < qs.length), SameN ps[k] qs[k]) w) := by
  have hcf := callSame1
  have HT := Lib.hid hT
  have HU := Lib.hid hU
  have hl70 := hT.few
  have hlp : t.ns.length = ps.length := by rw [hT.ns, List.length_map]
  have hlq : u.ns.length = qs.length := by rw [hU.ns, List.length_map]
  have HD := Lib.hid (show (ps.length = qs.length ∧ ∀ (k : Nat) (hk : k < ps.length) (hq : k < qs.length), SameN ps[k] qs[k]) ↔ (t.ns.length = u.ns.length ∧ ∀ (k : Nat) (hk : k < ps.length) (hq : k < qs.length), SameN ps[k] qs[k]) by rw [hlp, hlq])
  generalize (ps.length = qs.length ∧ ∀ (k : Nat) (hk : k < ps.length) (hq : k < qs.length), SameN ps[k] qs[k]) = D at *
  have HLP := Lib.hid (And.intro hlp hlq)
  clear hT hU hlp hlq
  go_enter Tryz.func62, Tryz.ntmps62
  by_cases q4 : t.ns.length = u.ns.length
  case neg =>
    have q4b : ((t.ns.length : Int) != (u.ns.length : Int)) = true := bne_iff_ne.2 (by omega)
    have HQ := Lib.hid (show ¬ D from fun h => q4 (HD.out.1 h).1)
    clear q4
    go_wp2
    go_ret
    exact TellsP.no HQ.out (Below.refl _ _)
  have q4b : ((t.ns.length : Int) != (u.ns.length : Int)) = false := by rw [q4]; exact bne_self_eq_false _
  have q4c : t.ns.length ≤ u.ns.length := by omega
  have HDN := Lib.hid (show D ↔ ∀ (k : Nat) (hk : k < ps.length) (hq : k < qs.length), SameN ps[k] qs[k] from ⟨fun h => (HD.out.1 h).2, fun h => HD.out.2 ⟨q4, h⟩⟩)
  clear q4 HD
  go_wp2
  go_loopw [17] (fun i wr => ∃ k : Nat, k ≤ t.ns.length ∧ i = .int .i64 k ∧ (∀ (j : Nat) (hj : j < ps.length) (hq : j < qs.length), j < k → SameN ps[j] qs[j]) ∧ Below w.heap.size w wr) (fun i _ => t.ns.length - (intOf i).toNat)
  case atStart => exact ⟨0, Nat.zero_le _, rfl, (fun _ _ _ h => absurd h (Nat.not_lt_zero _)), Below.refl _ _⟩
  case round =>
    obtain ⟨k, hk, rfl, hok, hb⟩ := hrel
    have hk0 : (0 : Int) ≤ (k : Int) := Int.natCast_nonneg _
    by_cases hlt : k < t.ns.length
    · have hk1 : (k : Int) < (t.ns.length : Int) := by omega
      have hk2 : (k : Int) < (u.ns.length : Int) := by omega
      have hiw : IntKind.i64.wrap ((k : Int) + 1) = ((k + 1 : Nat) : Int) := by rw [IntWalk.i64_in _ (by omega)]; omega
      have hkp : k < ps.length := by have := HLP.out.1; omega
      have hkq : k < qs.length := by have := HLP.out.2; omega
      have HNX := Lib.hid (fun (h : SameN ps[k] qs[k]) => (show ∀ (j : Nat) (hj : j < ps.length) (hq : j < qs.length), j < k + 1 → SameN ps[j] qs[j] from fun j hj hq hjk => by
        rcases Nat.lt_or_ge j k with h1 | h1
        · exact hok j hj hq h1
        · obtain rfl : j = k := by omega
          exact h))
      have HIF := Lib.hid (fun (h : D) => HDN.out.1 h k hkp hkq)
      obtain ⟨_, hnp, hen, hE, h70⟩ := HT.out.rowAt2 hlt
      obtain ⟨_, hnq, hfn, hF, h71⟩ := HU.out.rowAt2 (k := k) (by omega)
      obtain ⟨b1, o1, hna, hb1, rn, -⟩ := rowCell8 Nd.len (by decide) (HT.out.at_.below hb) hlt
      obtain ⟨b2, o2, hua, hb2, rm, -⟩ := rowCell8 Nd.len (by decide) (HU.out.at_.below hb) (k := k) (by omega)
      rw [hnp] at rn
      rw [hnq] at rm
      rw [hna, hua]
      have KS := Lib.hid (fun W (h : Below w.heap.size w W) => lookSame1_iff ps[k].1 qs[k].1 ps[k].2 qs[k].2 W hen hfn h70 h71 (hE.below h) (hF.below h))
      have HBr := Lib.hid hb
      have hna1 := hna
      generalize ps[k] = p at *
      generalize qs[k] = q at *
      obtain ⟨n, es⟩ := p
      obtain ⟨m, fs⟩ := q
      simp only at rn rm KS
      clear hok hb hE hF hnp hnq hna hua hen hfn h70 h71
      have bN := Blk.new wr 65 n.vals
      have hbN : Below wr.heap.size wr (wr.alloc (.cells n.vals.toArray 65)) := (Below.refl _ _).alloc (Nat.le_refl _) _
      obtain ⟨w3, hw3⟩ : ∃ V, V = wr.alloc (.cells n.vals.toArray 65) := ⟨_, rfl⟩
      rw [← hw3] at bN hbN
      have HW3 := Lib.hid hw3
      replace rm := (rowOf_below hbN hb2 (o2 + k * 15) 15).trans rm
      clear hw3
      go_upto_region 6 with (first
        | (refine wpList_store_new (by rfl) 65 _ _ (by rfl) n.vals ndZ.vals wr 65 rfl (by rfl) (by rfl) (by rfl) (by kernel_rfl) (Nd.one _) ?_; rw [← HW3.out])
        | fail)
      have bM := Blk.new w3 65 m.vals
      have hbM : Below w3.heap.size w3 (w3.alloc (.cells m.vals.toArray 65)) := (Below.refl _ _).alloc (Nat.le_refl _) _
      replace bN := bN.stays hbM
      have HB4 := Lib.hid ((HBr.out.trans (hbN.mono HBr.out.size)).trans (hbM.mono (HBr.out.trans (hbN.mono HBr.out.size)).size))
      clear hbN hbM rn
      go_upto_region 7 with (first | (refine wpList_new_struct (by rfl) (by rfl) 65 (by rfl) _ _ (by rfl) m.vals infoNode (by rfl) (by rfl) (Nd.one _) (by rfl) (by rfl) ?_) | fail)
      generalize w3.alloc (.cells m.vals.toArray 65) = w4 at *
      have rN : rowOf w4 wr.heap.size 0 15 = some n.vals.toArray := bN.row 0 15 (by rw [Nd.len]; omega)
      have rM : rowOf w4 w3.heap.size 0 15 = some m.vals.toArray := bM.row 0 15 (by rw [Nd.len]; omega)
      have KSx := Lib.hid (KS.out w4 HB4.out)
      generalize SameN (n, es) (m, fs) = SN at *
      clear bN bM rm HW3 KS
      go_wp2_with fail
      refine KSx.out.mono ?_
      rintro e w9 ⟨b, rfl, hd, hb9⟩
      have HB9 := Lib.hid (HB4.out.trans (hb9.mono HB4.out.size))
      clear hb9
      cases b
      case false =>
        have HQ := Lib.hid (show ¬ D from fun h => by have := hd.2 (HIF.out h); cases this)
        clear hd
        go_wp2
        go_ret
        exact TellsP.no HQ.out HB9.out
      have HOK := Lib.hid (HNX.out (hd.1 rfl))
      clear hd
      go_wp2
      go_roundw
      case rel => first
        | exact ⟨k + 1, by omega, by first | rfl | go_num, HOK.out, HB9.out⟩
        | (repeat apply Exists.intro
           refine ⟨?_, rfl⟩
           exact ⟨k + 1, by omega, by first | rfl | go_num, HOK.out, HB9.out⟩)
      case measure => simp [intOf]; omega
    · obtain rfl : k = t.ns.length := by omega
      have hlm : ¬ (t.ns.length : Int) < (t.ns.length : Int) := by omega
      have HQ := Lib.hid (show D from HDN.out.2 fun j hj hq => hok j hj hq (by have := HLP.out.1; omega))
      have HFr := Lib.hid hb
      clear hok hb
      go_wp2
      go_ret
      exact TellsP.yes HQ.out HFr.out
set_option maxRecDepth 20000 in
set_option maxHeartbeats 3200000 in
theorem lookSame_iff (t u : Tr) (ps qs : List (Nd × List Entry)) (w : World) (hT : TreeW w t ps) (hU : TreeW w u qs) :
    Calls Tryz.prog 25 #[t.val, u.val] w (TellsP (SameT t ps u qs) w) := by
  obtain ⟨bT, bU, hB, hs⟩ := chain2_blks w t.vals u.vals 26 26
  obtain ⟨w1, hw1⟩ : ∃ V, V = (w.alloc (.cells t.vals.toArray 26)).alloc (.cells u.vals.toArray 26) := ⟨_, rfl⟩
  rw [← hw1] at bT bU hB hs
  have rT : rowOf w1 w.heap.size 0 3 = some t.lim.vals.toArray := bT.row 0 3 (by rw [Tr.len]; omega)
  have rU : rowOf w1 (w.heap.size + 1) 0 3 = some u.lim.vals.toArray := bU.row 0 3 (by rw [Tr.len]; omega)
  have t3 : w1.cell? ⟨w.heap.size, 3, none⟩ = some (.int .i64 t.now) := bT.cell 3
  have t4 : w1.cell? ⟨w.heap.size, 4, none⟩ = some (.int .i64 t.gens) := bT.cell 4
  have t5 : w1.cell? ⟨w.heap.size, 5, none⟩ = some (.slice t.na t.ns.length t.nc) := bT.cell 5
  have u3 : w1.cell? ⟨w.heap.size + 1, 3, none⟩ = some (.int .i64 u.now) := bU.cell 3
  have u4 : w1.cell? ⟨w.heap.size + 1, 4, none⟩ = some (.int .i64 u.gens) := bU.cell 4
  have u5 : w1.cell? ⟨w.heap.size + 1, 5, none⟩ = some (.slice u.na u.ns.length u.nc) := bU.cell 5
  have hlT := bT.lt
  have hlU := bU.lt
  have HW1 := Lib.hid hw1
  have HT := Lib.hid (hT.below hB)
  have HU := Lib.hid (hU.below hB)
  have HB := Lib.hid hB
  have KE := Lib.hid (equalFuncN_iff t u ps qs w1 HT.out HU.out)
  have hl70 := hT.few
  have hlp : t.ns.length = ps.length := by rw [hT.ns, List.length_map]
  have hlq : u.ns.length = qs.length := by rw [hU.ns, List.length_map]
  have HD := Lib.hid (show SameT t ps u qs ↔ (t.lim = u.lim ∧ t.now = u.now ∧ t.gens = u.gens ∧ (ps.length = qs.length ∧ ∀ (k : Nat) (hk : k < ps.length) (hq : k < qs.length), SameN ps[k] qs[k])) from Iff.rfl)
  generalize SameT t ps u qs = D at *
  generalize (ps.length = qs.length ∧ ∀ (k : Nat) (hk : k < ps.length) (hq : k < qs.length), SameN ps[k] qs[k]) = E at *
  have HLP := Lib.hid (And.intro hlp hlq)
  clear hw1 bT bU hT hU hB hs hlp hlq
  unfold Tr.val
  go_enter Tryz.func25, Tryz.ntmps25
  go_upto_region 1 with fail
  change Code.wp _ _ _ _ ((w.alloc (.cells t.vals.toArray 26)).alloc (.cells u.vals.toArray 26))
  rw [← HW1.out]
  by_cases q1 : t.lim = u.lim
  case neg =>
    have q1b : decide (t.lim = u.lim) = false := decide_eq_false q1
    have HQ := Lib.hid (show ¬ D from fun h => q1 (HD.out.1 h).1)
    clear q1
    go_wp2
    go_ret
    exact TellsP.no HQ.out HB.out
  have q1b : decide (t.lim = u.lim) = true := decide_eq_true q1
  by_cases q2 : t.now = u.now
  case neg =>
    have q2b : (t.now == u.now) = false := by simpa using q2
    have HQ := Lib.hid (show ¬ D from fun h => q2 (HD.out.1 h).2.1)
    clear q1 q2
    go_wp2
    go_ret
    exact TellsP.no HQ.out HB.out
  have q2b : (t.now == u.now) = true := by simpa using q2
  by_cases q3 : t.gens = u.gens
  case neg =>
    have q3b : (t.gens == u.gens) = false := by simpa using q3
    have HQ := Lib.hid (show ¬ D from fun h => q3 (HD.out.1 h).2.2.1)
    clear q1 q2 q3
    go_wp2
    go_ret
    exact TellsP.no HQ.out HB.out
  have q3b : (t.gens == u.gens) = true := by simpa using q3
  have HE := Lib.hid (show E ↔ D from ⟨fun h => HD.out.2 ⟨q1, q2, q3, h⟩, fun h => (HD.out.1 h).2.2.2⟩)
  clear q1 q2 q3 HD
  go_wp2_with fail
  refine KE.out.mono ?_
  rintro e w9 ⟨b, rfl, hd, hb9⟩
  have HF := Lib.hid (below_then HB.out hb9)
  have HD9 := Lib.hid (hd.trans HE.out)
  clear hb9 hd
  go_wp2
  go_ret
  exact TellsP.is HD9.out HF.out
end Go.Proofs.YtgifmpobokaejaaGreatDoor
