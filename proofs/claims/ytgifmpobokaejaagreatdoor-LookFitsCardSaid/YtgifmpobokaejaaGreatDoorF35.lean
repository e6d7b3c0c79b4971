/-
  Layer 22, walks: the program's Do. Conditions: a tree that is not too large.
-/
import Derived.Test.YtgifmpobokaejaaGreatDoorF34
namespace Go.Proofs.YtgifmpobokaejaaGreatDoor
open Go.RowKit
open Go.RowKit
attribute [local go_sem ↓] Go.wp_at_zero Go.wp_at_succ
attribute [local go_sem] rowAt_ptr rowOf_drew rowOf_drewN rowOf_alloc_past rowOf_new
attribute [local go_sem ↓] ldAsk22 ldNode22 ldCred6 ldAttrR ldTree22 ldCall ldReply exBuildAsk exBuildWcc stPost22 stWcc22

attribute [local go_sem] catV_ask sizesV_ask cat2V_wcc sizes2V_wcc ptrAt blkAt offAt

theorem fld_store (z : Reply) (i : Nat) (r : Reply) (cs : List Value) (W : World) (g : Nat) (hB : Blk W g 48 z.vals) (h : setAt z.vals i cs = r.vals) : Blk (putsW W g i cs) g 48 r.vals := by
  rw [putsW_eq, ← h]
  exact hB.sets _ _ _ _
theorem DoP.end_ {d : RepD × Bool} {w w0 W : World} {z : Reply} {g : Nat} (hf : z.bare = d.1.f) (he : z.en = d.1.es.length ∧ At W 15 z.ea (d.1.es.map Entry.vals)) (hu : z.un = d.1.us.length ∧ At W 1 z.ua (d.1.us.map int1)) (hfr : FreshR w0 z) (hg : g < w0.heap.size) (hb : Below w.heap.size w W) (hw : w.heap.size ≤ g) (cs : List Value) :
    DoP d w (.returned (.tuple #[.agg z.vals.toArray, .bool d.2])) (W.setCells g 0 cs) :=
  ⟨z, rfl, hf, ⟨he.1, he.2.farCells (fun p hp => Nat.lt_of_lt_of_le hg (hfr p (.inl hp))) _ _⟩, ⟨hu.1, hu.2.farCells (fun p hp => Nat.lt_of_lt_of_le hg (hfr p (.inr hp))) _ _⟩, Below.setWhole hb hw _⟩
theorem atP_ok {ns : List Nd} {s : List UInt8} (h : (atP ns s).2 = 0) : ∃ k : Nat, (atP ns s).1 = k ∧ k < ns.length := by
  unfold atP at h ⊢
  split at h
  · next h1 => exact absurd h (by simp)
  · split at h
    · next h2 => exact absurd h (by simp)
    · next h1 h2 =>
      obtain ⟨k, hk, hk2, -⟩ := placeOf_at h2
      exact ⟨k, by rw [if_neg h1, if_neg h2]; exact hk, hk2⟩
theorem fnOf_mem {p : Int} {f : Nat} (h : fnOf p = some f) : f ∈ [70, 71, 72, 73, 74, 75, 76, 77, 78, 79, 80] := by
  unfold fnOf at h
  repeat' (split at h)
  all_goals first | (cases h; simp) | cases h
set_option maxRecDepth 20000 in
set_option maxHeartbeats 6400000 in
theorem lookDo_any (t : Tr) (ps : List (Nd × List Entry)) (u : Cred) (c : Call) (w : World) (hT : TreeH w t ps) (hlim : t.lim.ok = true) (hc : c.good) (hfh : c.fh.length ≤ 300) (hL : LookLaid w) :
    Calls Tryz.prog 11 #[t.val, .agg u.vals.toArray, .agg c.vals.toArray] w (DoP (doR t ps u c) w) := by
  obtain ⟨bT, bU, bC, bR, hB, hs⟩ := chain4_blks w t.vals u.vals c.vals replyZ.vals 26 28 34 48
  obtain ⟨w1, hw1⟩ : ∃ V, V = (((w.alloc (.cells t.vals.toArray 26)).alloc (.cells u.vals.toArray 28)).alloc (.cells c.vals.toArray 34)).alloc (.cells replyZ.vals.toArray 48) := ⟨_, rfl⟩
  rw [← hw1] at bT bU bC bR hB hs
  have cP : w1.cell? ⟨w.heap.size + 1 + 1, 0, none⟩ = some (.int .i64 c.proc) := bC.cell 0
  have cF : w1.cell? ⟨w.heap.size + 1 + 1, 1, none⟩ = some (.string (bs c.fh)) := bC.cell 1
  have c5 : w1.cell? ⟨w.heap.size, 5, none⟩ = some (.slice t.na t.ns.length t.nc) := bT.cell 5
  have rT : rowOf w1 w.heap.size 0 6 = some t.vals.toArray := bT.row 0 6 (by rw [Tr.len]; omega)
  have rU : rowOf w1 (w.heap.size + 1) 0 4 = some u.vals.toArray := bU.row 0 4 (by show _ ≤ 4; omega)
  have rC : rowOf w1 (w.heap.size + 1 + 1) 0 24 = some c.vals.toArray := bC.row 0 24 (by rw [Call.len]; omega)
  have HW1 := Lib.hid hw1
  have hsz := Lib.hid hs
  have HT := Lib.hid (hT.below hB)
  have HL := Lib.hid (hL.below hB)
  have HD := Lib.hid (show doR t ps u c = if c.proc = 0 then (⟨fldsZ, [], []⟩, true) else if fnOf c.proc = none then (⟨fldsZ, [], []⟩, false) else if (atP t.ns c.fh).2 ≠ 0 then (statD (atP t.ns c.fh).2, true) else (toldR c.proc (ps.getD (atP t.ns c.fh).1.toNat (ndZ, [])).1 (askR t u c (ps.getD (atP t.ns c.fh).1.toNat (ndZ, [])).1 (ps.getD (atP t.ns c.fh).1.toNat (ndZ, [])).2), true) from rfl)
  have KD := Lib.hid (fun W => lookDoes_any c.proc W)
  have e1 : ∀ f w, (binOp .eql 70 (fnV f) Value.nilFunc).run Tryz.prog w = .ok (.bool false) w := eqlNilF
  have e2 : ∀ f w, (binOp .neq 70 (fnV f) Value.nilFunc).run Tryz.prog w = .ok (.bool true) w := neqNilF
  have e3 : ∀ w, (binOp .eql 70 Value.nilFunc Value.nilFunc).run Tryz.prog w = .ok (.bool true) w := eqlNilN
  have e4 : ∀ w, (binOp .neq 70 Value.nilFunc Value.nilFunc).run Tryz.prog w = .ok (.bool false) w := neqNilN
  have e5 : ∀ x y f w, (eqGuard .eql 70 x y (fnV f) Value.nilFunc).run Tryz.prog w = .ok () w := fun _ _ _ _ => rfl
  have e6 : ∀ x y f w, (eqGuard .neq 70 x y (fnV f) Value.nilFunc).run Tryz.prog w = .ok () w := fun _ _ _ _ => rfl
  have hlT := bT.lt
  have hlU := bU.lt
  have hlC := bC.lt
  have hlR := bR.lt
  have HC := Lib.hid hc
  generalize doR t ps u c = D at *
  clear hw1 bT bU bC hs hT hL hc
  unfold Tr.val
  by_cases h0 : c.proc = 0
  · have HQ := Lib.hid (HD.out.trans (if_pos h0))
    have hfv : fnVal c.proc = fnV 70 := by rw [h0]; rfl
    rw [hfv] at KD
    rw [h0] at cP KD
    obtain ⟨z, hz⟩ : ∃ z : Reply, z = replyZ := ⟨_, rfl⟩
    have HZ := Lib.hid hz
    have HR := Lib.hid (And.intro (bR.whole (cs := z.vals) (by rfl)) (Below.setWhole (b := w.heap.size + 1 + 1 + 1) hB (by omega) z.vals))
    clear hz
    go_enter Tryz.func11, Tryz.ntmps11
    go_upto_region 1 with fail
    change Code.wp _ _ _ _ ((((w.alloc (.cells t.vals.toArray 26)).alloc (.cells u.vals.toArray 28)).alloc (.cells c.vals.toArray 34)).alloc (.cells replyZ.vals.toArray 48))
    rw [← HW1.out]
    go_wp2_with fail
    refine (KD.out _).mono ?_
    rintro e w2 ⟨rfl, rfl⟩
    go_wp2_with (first | (refine wpList_store_whole (by rfl) 48 _ _ (by rfl) (w.heap.size + 1 + 1 + 1) z.vals _ bR (by rfl) (by rfl) (by first | rfl | (rw [HZ.out]; done) | (rw [HZ.out]; rfl)) (by kernel_rfl) (Reply.one _) ?_) | fail)
    refine ret_cells2 (w.heap.size + 1 + 1 + 1) 0 z.vals (.bool true) Tryz.results11 Tryz.underlying48 rfl (by kernel_rfl) rfl rfl HR.out.1.range rfl ?_
    rw [HQ.out]
    exact ⟨z, rfl, by rw [HZ.out]; rfl, ⟨by rw [HZ.out]; rfl, At.nil⟩, ⟨by rw [HZ.out]; rfl, At.nil⟩, HR.out.2⟩
  have HD1 := Lib.hid (HD.out.trans (if_neg h0))
  cases hfn : fnOf c.proc with
  | none =>
    have HQ := Lib.hid (HD1.out.trans (if_pos hfn))
    have hfv : fnVal c.proc = Value.nilFunc := by unfold fnVal; rw [hfn]
    rw [hfv] at KD
    obtain ⟨z, hz⟩ : ∃ z : Reply, z = replyZ := ⟨_, rfl⟩
    have HZ := Lib.hid hz
    have HR := Lib.hid (And.intro (bR.whole (cs := z.vals) (by rfl)) (Below.setWhole (b := w.heap.size + 1 + 1 + 1) hB (by omega) z.vals))
    clear hz
    go_enter Tryz.func11, Tryz.ntmps11
    go_upto_region 1 with fail
    change Code.wp _ _ _ _ ((((w.alloc (.cells t.vals.toArray 26)).alloc (.cells u.vals.toArray 28)).alloc (.cells c.vals.toArray 34)).alloc (.cells replyZ.vals.toArray 48))
    rw [← HW1.out]
    go_wp2_with fail
    refine (KD.out _).mono ?_
    rintro e w2 ⟨rfl, rfl⟩
    go_wp2_with (first | (refine wpList_store_whole (by rfl) 48 _ _ (by rfl) (w.heap.size + 1 + 1 + 1) z.vals _ bR (by rfl) (by rfl) (by first | rfl | (rw [HZ.out]; done) | (rw [HZ.out]; rfl)) (by kernel_rfl) (Reply.one _) ?_) | fail)
    refine ret_cells2 (w.heap.size + 1 + 1 + 1) 0 z.vals (.bool false) Tryz.results11 Tryz.underlying48 rfl (by kernel_rfl) rfl rfl HR.out.1.range rfl ?_
    rw [HQ.out]
    exact ⟨z, rfl, by rw [HZ.out]; rfl, ⟨by rw [HZ.out]; rfl, At.nil⟩, ⟨by rw [HZ.out]; rfl, At.nil⟩, HR.out.2⟩
  | some f =>
    have HD2 := Lib.hid (HD1.out.trans (if_neg (by rw [hfn]; simp)))
    have hfv : fnVal c.proc = fnV f := by unfold fnVal; rw [hfn]
    rw [hfv] at KD
    have hcf := callF f (fnOf_mem hfn)
    have h0' : (c.proc == 0) = false := by simpa using h0
    have KA := Lib.hid (lookAt_any t c.fh w1 HT.out.len (by omega) HT.out.at_ HL.out)
    have HPL := Lib.hid (fun h => atP_ok (ns := t.ns) (s := c.fh) h)
    have HF := Lib.hid hfn
    unfold Tr.val at KA
    generalize hres : atP t.ns c.fh = res at *
    obtain ⟨i, st⟩ := res
    simp only at HD2 KA HPL
    clear hres HD HD1 hfn
    go_enter Tryz.func11, Tryz.ntmps11
    go_upto_region 1 with fail
    change Code.wp _ _ _ _ ((((w.alloc (.cells t.vals.toArray 26)).alloc (.cells u.vals.toArray 28)).alloc (.cells c.vals.toArray 34)).alloc (.cells replyZ.vals.toArray 48))
    rw [← HW1.out]
    go_wp2_with fail
    refine (KD.out _).mono ?_
    rintro e w2 ⟨rfl, rfl⟩
    go_wp2_with fail
    refine KA.out.mono ?_
    rintro e w2 ⟨rfl, hb⟩
    replace cP := (hb.cell (p := ⟨w.heap.size + 1 + 1, 0, none⟩) hlC).trans cP
    replace c5 := (hb.cell (p := ⟨w.heap.size, 5, none⟩) hlT).trans c5
    replace rT := (rowOf_below hb hlT 0 6).trans rT
    replace rU := (rowOf_below hb hlU 0 4).trans rU
    replace rC := (rowOf_below hb hlC 0 24).trans rC
    replace bR := bR.stays hb
    replace HT := Lib.hid (HT.out.below hb)
    replace HL := Lib.hid (HL.out.below hb)
    replace hB := below_then hB hb
    replace hlT := Nat.lt_of_lt_of_le hlT hb.size
    replace hlU := Nat.lt_of_lt_of_le hlU hb.size
    replace hlC := Nat.lt_of_lt_of_le hlC hb.size
    replace hlR := Nat.lt_of_lt_of_le hlR hb.size
    clear hb KA cF
    by_cases hst : st = 0
    case neg =>
      have hst' : (st != 0) = true := by simpa using hst
      have HQ := Lib.hid (HD2.out.trans (if_pos hst))
      obtain ⟨z, hz⟩ : ∃ z : Reply, z = statR st := ⟨_, rfl⟩
      have HZ := Lib.hid hz
      clear hz
      go_wp2_with fail
      refine (lookStatus_any st _).mono ?_
      rintro e w3 ⟨rfl, hb⟩
      replace bR := bR.stays hb
      replace hB := below_then hB hb
      have HR := Lib.hid (And.intro (bR.whole (cs := z.vals) (by rfl)) (Below.setWhole (b := w.heap.size + 1 + 1 + 1) hB (by omega) z.vals))
      clear hb
      go_wp2_with (first | (refine wpList_store_whole (by rfl) 48 _ _ (by rfl) (w.heap.size + 1 + 1 + 1) z.vals _ bR (by rfl) (by rfl) (by first | rfl | (rw [HZ.out]; done) | (rw [HZ.out]; rfl)) (by kernel_rfl) (Reply.one _) ?_) | fail)
      refine ret_cells2 (w.heap.size + 1 + 1 + 1) 0 z.vals (.bool true) Tryz.results11 Tryz.underlying48 rfl (by kernel_rfl) rfl rfl HR.out.1.range rfl ?_
      rw [HQ.out]
      exact ⟨z, rfl, by rw [HZ.out]; rfl, ⟨by rw [HZ.out]; rfl, At.nil⟩, ⟨by rw [HZ.out]; rfl, At.nil⟩, HR.out.2⟩
    subst hst
    have HD3 := Lib.hid (HD2.out.trans (if_neg (by simp)))
    obtain ⟨k, hi, hk⟩ := HPL.out rfl
    subst hi
    have hkp : k < ps.length := by
      have := HT.out.ns
      rw [this, List.length_map] at hk
      exact hk
    obtain ⟨nd, es, hmem, hget, hrow⟩ : ∃ nd es, (nd, es) ∈ ps ∧ ps.getD k (ndZ, []) = (nd, es) ∧ t.ns[k] = nd := by
      refine ⟨ps[k].1, ps[k].2, List.getElem_mem hkp, ?_, ?_⟩
      · rw [List.getD_eq_getElem?_getD, List.getElem?_eq_getElem hkp]
        rfl
      · have := HT.out.ns
        simp only [this, List.getElem_map]
    have HQ := Lib.hid (show D = (toldR c.proc nd (askR t u c nd es), true) by rw [HD3.out]; simp only [Int.toNat_natCast, hget])
    obtain ⟨b1, o1, hna, hb1, rnd, -⟩ := rowCell8 Nd.len (by decide) HT.out.at_ hk
    rw [hna] at c5
    rw [hrow] at rnd
    have hk0 : (0 : Int) ≤ (k : Int) := Int.natCast_nonneg _
    have hk1 : (k : Int) < (t.ns.length : Int) := by omega
    have KC := Lib.hid (fun W (hb : Below w2.heap.size w2 W) => askAny t ps u c f (nd, es) hmem W (HT.out.below hb) hlim HC.out (HL.out.below hb) HF.out)
    have KPo := Lib.hid (fun W => lookPost_any nd W)
    generalize askR t u c nd es = A at *
    clear HD3 HD2 HPL hget hrow hna HT HL hmem hkp
    go_upto_region 8 with (first | (refine wpList_new_struct (by rfl) (by rfl) 65 (by rfl) _ _ (by rfl) nd.vals infoNode (by rfl) (by rfl) (Nd.one _) (by rfl) (by rfl) ?_) | fail)
    have bN := Blk.new w2 65 nd.vals
    have hbN : Below w2.heap.size w2 (w2.alloc (.cells nd.vals.toArray 65)) := (Below.refl _ _).alloc (Nat.le_refl _) _
    generalize w2.alloc (.cells nd.vals.toArray 65) = w3 at *
    replace cP := (hbN.cell (p := ⟨w.heap.size + 1 + 1, 0, none⟩) hlC).trans cP
    replace rT := (rowOf_below hbN hlT 0 6).trans rT
    replace rU := (rowOf_below hbN hlU 0 4).trans rU
    replace rC := (rowOf_below hbN hlC 0 24).trans rC
    replace bR := bR.stays hbN
    replace hB := below_then hB hbN
    have rN : rowOf w3 w2.heap.size 0 15 = some nd.vals.toArray := bN.row 0 15 (by rw [Nd.len]; omega)
    have cN : w3.cell? ⟨w2.heap.size, 8, none⟩ = some (.int .i64 nd.attr.change) := bN.cell 8
    have hlN := bN.lt
    replace hlC := Nat.lt_of_lt_of_le hlC hbN.size
    replace hlR := Nat.lt_of_lt_of_le hlR hbN.size
    have HBN := Lib.hid hbN
    clear c5 rnd hbN
    unfold fnV
    go_wp2_with fail
    have hlR3 := Lib.hid hlR
    refine (KC.out _ HBN.out).mono ?_
    rintro e w4 ⟨z, rfl, hf, he, hu, hb4, hfr⟩
    replace cP := (hb4.cell (p := ⟨w.heap.size + 1 + 1, 0, none⟩) hlC).trans cP
    replace cN := (hb4.cell (p := ⟨w2.heap.size, 8, none⟩) hlN).trans cN
    replace rN := (rowOf_below hb4 hlN 0 15).trans rN
    replace bR := bR.stays hb4
    replace hB := below_then hB hb4
    replace hlC := Nat.lt_of_lt_of_le hlC hb4.size
    replace hlR := Nat.lt_of_lt_of_le hlR hb4.size
    replace hlN := Nat.lt_of_lt_of_le hlN hb4.size
    clear hb4 KC rT rU rC
    have HE : Hid (∀ (W : World) (z' : Reply) (d : RepD × Bool), Below w4.heap.size w4 W → d = D → z'.bare = d.1.f → z'.ea = z.ea → z'.en = z.en → z'.ua = z.ua → z'.un = z.un → d.1.es = A.es → d.1.us = A.us → d.2 = true → DoP D w (.returned (.tuple #[.agg z'.vals.toArray, .bool true])) (W.setCells (w.heap.size + 1 + 1 + 1) 0 z'.vals)) := Lib.hid (fun W z' d hb e h1 h2 h3 h4 h5 h6 h7 h8 => by
      rw [← e, ← h8]
      refine DoP.end_ (w0 := w3) h1 ⟨by rw [h3, h6]; exact he.1, by rw [h2, h6]; exact he.2.below hb⟩ ⟨by rw [h5, h7]; exact hu.1, by rw [h4, h7]; exact hu.2.below hb⟩ (fun p hp => hfr p (by rw [← h2, ← h4]; exact hp)) hlR3.out (below_then hB hb) (by omega) _)
    clear he hu hfr hb1
    go_upto_region 9 with (first | (refine wpList_new_struct (by rfl) (by rfl) 48 (by rfl) _ _ (by rfl) z.vals infoReply (by rfl) (by rfl) (Reply.one _) (by rfl) (by rfl) ?_) | fail)
    have bZ := Blk.new w4 48 z.vals
    have hbZ : Below w4.heap.size w4 (w4.alloc (.cells z.vals.toArray 48)) := (Below.refl _ _).alloc (Nat.le_refl _) _
    generalize w4.alloc (.cells z.vals.toArray 48) = w5 at *
    replace cP := (hbZ.cell (p := ⟨w.heap.size + 1 + 1, 0, none⟩) hlC).trans cP
    replace cN := (hbZ.cell (p := ⟨w2.heap.size, 8, none⟩) hlN).trans cN
    replace rN := (rowOf_below hbZ hlN 0 15).trans rN
    have hlN5 := Nat.lt_of_lt_of_le hlN hbZ.size
    have hlC5 := Nat.lt_of_lt_of_le hlC hbZ.size
    have hlZ := bZ.lt
    have hpk : rowOk 11 (.agg (postN nd).vals.toArray) := ⟨rfl, Post.one _⟩
    by_cases h3 : c.proc = 3
    · have HQ3 := Lib.hid (show D = ({ A with f := { A.f with dir := postN nd } }, true) by rw [HQ.out]; unfold toldR; rw [if_pos h3])
      rw [h3] at cP
      go_wp2_with fail
      refine (KPo.out _).mono ?_
      rintro e w6 ⟨rfl, hb6⟩
      have bZ6 := bZ.stays hb6
      have hb46 : Below w4.heap.size w4 w6 := hbZ.trans (hb6.mono hbZ.size)
      have ht6 : w6.there w4.heap.size 13 11 := bZ6.there 13 11 (by rw [Reply.len]; omega)
      go_upto_region 15 with fail
      obtain ⟨z7, hz7⟩ : ∃ r : Reply, r = { z with dir := postN nd } := ⟨_, rfl⟩
      have bZ7 := fld_store z 13 z7 (postN nd).vals w6 w4.heap.size bZ6 (by rw [hz7]; rfl)
      have hb47 : Below w4.heap.size w4 (putsW w6 w4.heap.size 13 (postN nd).vals) := by rw [putsW_eq]; exact Below.setCells (Nat.le_refl _) _ _ _ hb46
      generalize putsW w6 w4.heap.size 13 (postN nd).vals = w7 at *
      have bR7 := bR.stays hb47
      have r7 : rowOf w7 w4.heap.size 0 58 = some z7.vals.toArray := bZ7.row 0 58 (by rw [Reply.len]; omega)
      have HR := Lib.hid (bR7.whole (cs := z7.vals) (by rfl))
      have HF := Lib.hid (HE.out w7 z7 ({ A with f := { A.f with dir := postN nd } }, true) hb47 HQ3.out.symm (by rw [hz7, ← hf]; rfl) (by rw [hz7]) (by rw [hz7]) (by rw [hz7]) (by rw [hz7]) rfl rfl rfl)
      clear hz7 bZ7 bZ6 hb47 hb46
      go_wp2_with (first | (refine wpList_store_whole (by rfl) 48 _ _ (by rfl) (w.heap.size + 1 + 1 + 1) z7.vals _ bR7 (by rfl) (by rfl) (by rfl) (by kernel_rfl) (Reply.one _) ?_) | fail)
      exact ret_cells2 (w.heap.size + 1 + 1 + 1) 0 z7.vals (.bool true) Tryz.results11 Tryz.underlying48 rfl (by kernel_rfl) rfl rfl HR.out.range rfl HF.out
    have h3' : (c.proc == 3) = false := by simpa using h3
    by_cases h21 : c.proc = 21
    · have HQ3 := Lib.hid (show D = ({ A with f := { A.f with wcc := ⟨⟨true, nd.attr.change⟩, postN nd⟩ } }, true) by rw [HQ.out]; unfold toldR; rw [if_neg h3, if_pos h21])
      rw [h21] at cP
      have hwk : rowOk 13 (.agg (Wcc.mk ⟨true, nd.attr.change⟩ (postN nd)).vals.toArray) := ⟨rfl, Wcc.one _⟩
      generalize nd.attr.change = ch at *
      have HS := Lib.hid (fun (V : World) (hb : Below w5.heap.size w5 V) => (show rowOf V w2.heap.size 0 15 = some nd.vals.toArray ∧ V.cell? ⟨w2.heap.size, 8, none⟩ = some (.int .i64 ch) ∧ V.there w4.heap.size 24 13 from ⟨(rowOf_below hb hlN5 0 15).trans rN, (hb.cell (p := ⟨w2.heap.size, 8, none⟩) hlN5).trans cN, (bZ.stays hb).there 24 13 (by rw [Reply.len]; omega)⟩))
      have HSP := Lib.hid (fun (V : World) (hb : Below w5.heap.size w5 V) => (show rowOf (putsW V w4.heap.size 24 (Wcc.mk ⟨true, ch⟩ (postN nd)).vals) w2.heap.size 0 15 = some nd.vals.toArray ∧ (putsW V w4.heap.size 24 (Wcc.mk ⟨true, ch⟩ (postN nd)).vals).cell? ⟨w2.heap.size, 8, none⟩ = some (.int .i64 ch) ∧ (putsW V w4.heap.size 24 (Wcc.mk ⟨true, ch⟩ (postN nd)).vals).there w4.heap.size 24 13 from by
        have hb2 : Below (w2.heap.size + 1) w5 (putsW V w4.heap.size 24 (Wcc.mk ⟨true, ch⟩ (postN nd)).vals) := by rw [putsW_eq]; exact Below.setCells (by omega) _ _ _ (hb.mono (by omega))
        refine ⟨(rowOf_below hb2 (Nat.lt_succ_self _) 0 15).trans rN, (hb2.cell (p := ⟨w2.heap.size, 8, none⟩) (Nat.lt_succ_self _)).trans cN, ?_⟩
        rw [putsW_eq]
        exact World.there_setCells ((bZ.stays hb).there 24 13 (by rw [Reply.len]; omega)) _ _ _))
      have hS5 := HS.out w5.drew (Below.refl _ _).drew
      go_wp2_with fail
      go_region_held3 (fun V => rowOf V w2.heap.size 0 15 = some nd.vals.toArray ∧ V.cell? ⟨w2.heap.size, 8, none⟩ = some (.int .i64 ch) ∧ V.there w4.heap.size 24 13) (first | with_reducible assumption | (exact HSP.out _ (by with_reducible assumption))) (first
        | (go_at_call 34; refine (KPo.out _).mono ?_; rintro e w6 ⟨rfl, hb6⟩; have hb56 : Below w5.heap.size w5 w6 := below_then (Below.refl _ _).drew hb6; have hS6 := HS.out w6 hb56))
      have bZ6 := bZ.stays hb56
      have hb46 : Below w4.heap.size w4 w6 := hbZ.trans (hb56.mono hbZ.size)
      obtain ⟨z7, hz7⟩ : ∃ r : Reply, r = { z with wcc := ⟨⟨true, ch⟩, postN nd⟩ } := ⟨_, rfl⟩
      have bZ7 := fld_store z 24 z7 (Wcc.mk ⟨true, ch⟩ (postN nd)).vals w6 w4.heap.size bZ6 (by rw [hz7]; rfl)
      have hb47 : Below w4.heap.size w4 (putsW w6 w4.heap.size 24 (Wcc.mk ⟨true, ch⟩ (postN nd)).vals) := by rw [putsW_eq]; exact Below.setCells (Nat.le_refl _) _ _ _ hb46
      generalize putsW w6 w4.heap.size 24 (Wcc.mk ⟨true, ch⟩ (postN nd)).vals = w7 at *
      have bR7 := bR.stays hb47
      have r7 : rowOf w7 w4.heap.size 0 58 = some z7.vals.toArray := bZ7.row 0 58 (by rw [Reply.len]; omega)
      have HR := Lib.hid (bR7.whole (cs := z7.vals) (by rfl))
      have HF := Lib.hid (HE.out w7 z7 ({ A with f := { A.f with wcc := ⟨⟨true, ch⟩, postN nd⟩ } }, true) hb47 HQ3.out.symm (by rw [hz7, ← hf]; rfl) (by rw [hz7]) (by rw [hz7]) (by rw [hz7]) (by rw [hz7]) rfl rfl rfl)
      clear hz7 bZ7 bZ6 hb47 hb46
      go_wp2_with (first | (refine wpList_store_whole (by rfl) 48 _ _ (by rfl) (w.heap.size + 1 + 1 + 1) z7.vals _ bR7 (by rfl) (by rfl) (by rfl) (by kernel_rfl) (Reply.one _) ?_) | fail)
      exact ret_cells2 (w.heap.size + 1 + 1 + 1) 0 z7.vals (.bool true) Tryz.results11 Tryz.underlying48 rfl (by kernel_rfl) rfl rfl HR.out.range rfl HF.out
    have h21' : (c.proc == 21) = false := by simpa using h21
    have HQ3 := Lib.hid (show D = ({ A with f := { A.f with obj := postN nd } }, true) by rw [HQ.out]; unfold toldR; rw [if_neg h3, if_neg h21])
    go_wp2_with fail
    refine (KPo.out _).mono ?_
    rintro e w6 ⟨rfl, hb6⟩
    have bZ6 := bZ.stays hb6
    have hb46 : Below w4.heap.size w4 w6 := hbZ.trans (hb6.mono hbZ.size)
    have ht6 : w6.there w4.heap.size 2 11 := bZ6.there 2 11 (by rw [Reply.len]; omega)
    go_upto_region 15 with fail
    obtain ⟨z7, hz7⟩ : ∃ r : Reply, r = { z with obj := postN nd } := ⟨_, rfl⟩
    have bZ7 := fld_store z 2 z7 (postN nd).vals w6 w4.heap.size bZ6 (by rw [hz7]; rfl)
    have hb47 : Below w4.heap.size w4 (putsW w6 w4.heap.size 2 (postN nd).vals) := by rw [putsW_eq]; exact Below.setCells (Nat.le_refl _) _ _ _ hb46
    generalize putsW w6 w4.heap.size 2 (postN nd).vals = w7 at *
    have bR7 := bR.stays hb47
    have r7 : rowOf w7 w4.heap.size 0 58 = some z7.vals.toArray := bZ7.row 0 58 (by rw [Reply.len]; omega)
    have HR := Lib.hid (bR7.whole (cs := z7.vals) (by rfl))
    have HF := Lib.hid (HE.out w7 z7 ({ A with f := { A.f with obj := postN nd } }, true) hb47 HQ3.out.symm (by rw [hz7, ← hf]; rfl) (by rw [hz7]) (by rw [hz7]) (by rw [hz7]) (by rw [hz7]) rfl rfl rfl)
    clear hz7 bZ7 bZ6 hb47 hb46
    go_wp2_with (first | (refine wpList_store_whole (by rfl) 48 _ _ (by rfl) (w.heap.size + 1 + 1 + 1) z7.vals _ bR7 (by rfl) (by rfl) (by rfl) (by kernel_rfl) (Reply.one _) ?_) | fail)
    exact ret_cells2 (w.heap.size + 1 + 1 + 1) 0 z7.vals (.bool true) Tryz.results11 Tryz.underlying48 rfl (by kernel_rfl) rfl rfl HR.out.range rfl HF.out
end Go.Proofs.YtgifmpobokaejaaGreatDoor
