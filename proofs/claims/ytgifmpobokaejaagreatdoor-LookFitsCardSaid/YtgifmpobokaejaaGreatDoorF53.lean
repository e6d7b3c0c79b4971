/-
  Layer 22: the law LookFits, walked. Condition: the library's table and errors are laid.
-/
import Derived.Test.YtgifmpobokaejaaGreatDoorF34
import Derived.Test.YtgifmpobokaejaaGreatDoorF36
import Derived.Test.YtgifmpobokaejaaGreatDoorF35
import Derived.Test.YtgifmpobokaejaaGreatDoorF20
import Derived.Test.YtgifmpobokaejaaGreatDoorF43
import Derived.Test.YtgifmpobokaejaaGreatDoorF38
import Derived.Test.YtgifmpobokaejaaGreatDoorF52
import Derived.Test.YtgifmpobokaejaaGreatDoorF51
import Derived.Test.YtgifmpobokaejaaGreatDoorF27
import Derived.Test.YtgifmpobokaejaaGreatDoorF05
namespace Go.Proofs.YtgifmpobokaejaaGreatDoor
open Go.RowKit
open Go.RowKit
attribute [local go_sem ↓] Go.wp_at_zero Go.wp_at_succ
attribute [local go_sem] rowAt_ptr rowOf_drew rowOf_drewN rowOf_alloc_past rowOf_new
attribute [local go_sem ↓] ldTree22 ldReply ldCall ldCred6

/-- what is asked of results that are told -/
structure FitsZ (p : Int) (z : Reply) (d : RepD) : Prop where
  ok : RepOk (pFields p (z.status == 0)) z d.es d.us
  s0 : 0 ≤ z.status
  s1 : z.status ≤ 4294967295
  m : ∀ k (hk : k < (pFields p (z.status == 0)).length), rM8 ⟨z.bare, d.es, d.us⟩ (pFields p (z.status == 0))[k].toNat
  few : (num z.status.toNat 4 ++ pLaid ⟨z.bare, d.es, d.us⟩ (pFields p (z.status == 0)) (pFields p (z.status == 0)).length).length ≤ 1900
theorem stats_small : ∀ s ∈ statsP, 0 ≤ s ∧ s ≤ 4294967295 := by decide
theorem fits_of {p : Int} {z : Reply} {d : RepD} (hz : z.bare = d.f) (h : All8 (pFields p (d.f.status == 0)) d) : FitsZ p z d := by
  obtain ⟨f, es, us⟩ := d
  simp only at hz h ⊢
  subst hz
  have h : All8 (pFields p (z.status == 0)) ⟨z.bare, es, us⟩ := h
  have hk : pKnown z.status = true := h.1.st
  have hs := stats_small z.status (by simpa [pKnown] using hk)
  have hm := fun (c : UInt8) (hc : c ∈ pFields p (z.status == 0)) => (show rM8 ⟨z.bare, es, us⟩ c.toNat ∧ (rB8 ⟨z.bare, es, us⟩ c.toNat).length ≤ most8 c by
    obtain ⟨k, hk, rfl⟩ := List.getElem_of_mem hc
    exact rM8_of h.1 h.2.1 h.2.2 hc (pFields_letter p _ hk).2)
  refine ⟨h.1.rep rfl, hs.1, hs.2, fun k hk => (hm _ (List.getElem_mem hk)).1, ?_⟩
  have h1 := pLaid_most (d := ⟨z.bare, es, us⟩) (pFields p (z.status == 0)) fun c hc => (hm c hc).2
  have h2 := most_all p (z.status == 0)
  show (num z.status.toNat 4 ++ ((pFields p (z.status == 0)).take (pFields p (z.status == 0)).length).flatMap fun c => rB8 ⟨z.bare, es, us⟩ c.toNat).length ≤ 1900
  rw [List.take_length, List.length_append, num_len]
  omega
theorem doR_changes {t : Tr} {ps : List (Nd × List Entry)} {u : Cred} {c : Call} (h3 : cThere c.proc = true) : cChanges c.proc = !(doR t ps u c).2 := by
  have h4 : 0 ≤ c.proc ∧ c.proc ≤ 21 := by simpa [cThere] using h3
  cases hd : (doR t ps u c).2
  case false =>
    obtain ⟨-, h0, h1⟩ := doR_not hd
    have h5 : c.proc = 2 ∨ (7 ≤ c.proc ∧ c.proc ≤ 15) := by
      unfold fnOf at h1
      repeat' (split at h1)
      all_goals first | omega | cases h1
    unfold cChanges
    rcases h5 with h | ⟨h, h2⟩
    · simp [h]
    · simp [h, h2]
  case true =>
    have h6 : ¬ c.proc = 2 ∧ ¬ (7 ≤ c.proc ∧ c.proc ≤ 15) := by
      by_cases h0 : c.proc = 0
      · omega
      · have h1 : fnOf c.proc ≠ none := fun h1 => by
          unfold doR at hd
          rw [if_neg h0, if_pos h1] at hd
          cases hd
        have := fnOf_reads h1 h0
        omega
    unfold cChanges
    have h7 : (c.proc == 2) = false := by simpa using h6.1
    have h8 : (decide (7 ≤ c.proc) && decide (c.proc ≤ 15)) = false := by
      rcases Int.lt_or_le c.proc 7 with h | h
      · simp [show ¬ 7 ≤ c.proc by omega]
      · simp [show ¬ c.proc ≤ 15 by omega]
    rw [h7, h8]
    rfl
set_option maxRecDepth 20000 in
set_option maxHeartbeats 6400000 in
theorem lookFitsLaw_any (t : Tr) (ps : List (Nd × List Entry)) (u : Cred) (c : Call) (w : World) (hT : OpenT w t ps) (hge : ∀ p ∈ ps, ∀ e ∈ p.2, e.good) (hc : c.good) (hL : LookLaid w) :
    Calls Tryz.prog 4 #[t.val, .agg u.vals.toArray, .agg c.vals.toArray] w fun e w' => e = .returned (.bool true) ∧ Below w.heap.size w w' := by
  obtain ⟨bT, bU, bC, hB, hs⟩ := chain3_blks w t.vals u.vals c.vals 26 28 34
  obtain ⟨w1, hw1⟩ : ∃ V, V = ((w.alloc (.cells t.vals.toArray 26)).alloc (.cells u.vals.toArray 28)).alloc (.cells c.vals.toArray 34) := ⟨_, rfl⟩
  rw [← hw1] at bT bU bC hB hs
  have rT : rowOf w1 w.heap.size 0 6 = some t.vals.toArray := bT.row 0 6 (by rw [Tr.len]; omega)
  have rU : rowOf w1 (w.heap.size + 1) 0 4 = some u.vals.toArray := bU.row 0 4 (by show _ ≤ 4; omega)
  have rC : rowOf w1 (w.heap.size + 1 + 1) 0 24 = some c.vals.toArray := bC.row 0 24 (by rw [Call.len]; omega)
  have cu : w1.cell? ⟨w.heap.size + 1, 2, none⟩ = some (.int .i64 u.uid) := bU.cell 2
  have cg : w1.cell? ⟨w.heap.size + 1, 3, none⟩ = some (.int .i64 u.gid) := bU.cell 3
  have cp : w1.cell? ⟨w.heap.size + 1 + 1, 0, none⟩ = some (.int .i64 c.proc) := bC.cell 0
  have hlT := bT.lt
  have hlU := bU.lt
  have hlC := bC.lt
  have HW1 := Lib.hid hw1
  have HT := Lib.hid (hT.below hB)
  have HL := Lib.hid (hL.below hB)
  have HB := Lib.hid hB
  have HC := Lib.hid hc
  have HGE := Lib.hid hge
  have KL := Lib.hid (refLarge22_any t ps w1 HT.out.ns HT.out.len HT.out.at_ HT.out.ents HT.out.good)
  have K7 := Lib.hid (fun W => refLarge7_any c W)
  have KN := Lib.hid (fun W (h : Below w1.heap.size w1 W) => known22_any W (HL.out.below h))
  clear hw1 bT bU bC hs hT hL hB hc hge
  unfold Tr.val at KL ⊢
  go_enter Tryz.func4, Tryz.ntmps4
  go_upto_region 1 with fail
  change Code.wp _ _ _ _ (((w.alloc (.cells t.vals.toArray 26)).alloc (.cells u.vals.toArray 28)).alloc (.cells c.vals.toArray 34))
  rw [← HW1.out]
  go_wp2_with fail
  refine KL.out.mono ?_
  rintro e w2 ⟨b, rfl, hfew, hb⟩
  have H2 := Lib.hid hb
  replace rT := (rowOf_below hb hlT 0 6).trans rT
  replace rU := (rowOf_below hb hlU 0 4).trans rU
  replace rC := (rowOf_below hb hlC 0 24).trans rC
  replace cu := (hb.cell (p := ⟨w.heap.size + 1, 2, none⟩) hlU).trans cu
  replace cg := (hb.cell (p := ⟨w.heap.size + 1, 3, none⟩) hlU).trans cg
  replace cp := (hb.cell (p := ⟨w.heap.size + 1 + 1, 0, none⟩) hlC).trans cp
  clear hb KL HW1
  cases b
  case true =>
    go_wp2_with fail
    refine (KN.out _ H2.out).mono ?_
    rintro e wq ⟨rfl, hb⟩
    have HF := Lib.hid (below_then (below_then HB.out H2.out) hb)
    clear hb
    go_wp2
    go_ret
    exact ⟨rfl, HF.out⟩
  have HFew := Lib.hid (hfew rfl)
  clear hfew
  go_wp2_with fail
  refine (K7.out _).mono ?_
  rintro e w3 ⟨rfl, hb⟩
  have H3 := Lib.hid (below_then H2.out hb)
  replace rT := (rowOf_below hb (Nat.lt_of_lt_of_le hlT H2.out.size) 0 6).trans rT
  replace rU := (rowOf_below hb (Nat.lt_of_lt_of_le hlU H2.out.size) 0 4).trans rU
  replace rC := (rowOf_below hb (Nat.lt_of_lt_of_le hlC H2.out.size) 0 24).trans rC
  replace cu := (hb.cell (p := ⟨w.heap.size + 1, 2, none⟩) (Nat.lt_of_lt_of_le hlU H2.out.size)).trans cu
  replace cg := (hb.cell (p := ⟨w.heap.size + 1, 3, none⟩) (Nat.lt_of_lt_of_le hlU H2.out.size)).trans cg
  replace cp := (hb.cell (p := ⟨w.heap.size + 1 + 1, 0, none⟩) (Nat.lt_of_lt_of_le hlC H2.out.size)).trans cp
  clear hb K7
  cases hcl : cLarge c
  case true =>
    go_wp2_with fail
    refine (KN.out _ H3.out).mono ?_
    rintro e wq ⟨rfl, hb⟩
    have HF := Lib.hid (below_then (below_then HB.out H3.out) hb)
    clear hb
    go_wp2
    go_ret
    exact ⟨rfl, HF.out⟩
  have hfh : c.fh.length ≤ 300 := by
    unfold cLarge at hcl
    simp only [Bool.or_eq_false_iff, decide_eq_false_iff_not] at hcl
    omega
  have HFH := Lib.hid hfh
  clear hfh hcl
  have HTH := Lib.hid (HT.out.tree HFew.out)
  have KC := Lib.hid (refCheck22_iff t ps w3 (HTH.out.below H3.out))
  unfold Tr.val at KC
  go_wp2_with fail
  refine KC.out.mono ?_
  rintro e w4 ⟨b, rfl, hchk, hb⟩
  have H4 := Lib.hid (below_then H3.out hb)
  replace rT := (rowOf_below hb (Nat.lt_of_lt_of_le hlT H3.out.size) 0 6).trans rT
  replace rU := (rowOf_below hb (Nat.lt_of_lt_of_le hlU H3.out.size) 0 4).trans rU
  replace rC := (rowOf_below hb (Nat.lt_of_lt_of_le hlC H3.out.size) 0 24).trans rC
  replace cu := (hb.cell (p := ⟨w.heap.size + 1, 2, none⟩) (Nat.lt_of_lt_of_le hlU H3.out.size)).trans cu
  replace cg := (hb.cell (p := ⟨w.heap.size + 1, 3, none⟩) (Nat.lt_of_lt_of_le hlU H3.out.size)).trans cg
  replace cp := (hb.cell (p := ⟨w.heap.size + 1 + 1, 0, none⟩) (Nat.lt_of_lt_of_le hlC H3.out.size)).trans cp
  clear hb KC
  cases b
  case false =>
    clear hchk
    go_wp2_with fail
    refine (KN.out _ H4.out).mono ?_
    rintro e wq ⟨rfl, hb⟩
    have HF := Lib.hid (below_then (below_then HB.out H4.out) hb)
    clear hb
    go_wp2
    go_ret
    exact ⟨rfl, HF.out⟩
  have HX := Lib.hid ((hchk.1 rfl).toX HT.out.ns HT.out.good HGE.out)
  clear hchk
  by_cases h1 : u.uid < 0
  · have d1 : decide (u.uid < 0) = true := decide_eq_true h1
    go_wp2_with fail
    refine (KN.out _ H4.out).mono ?_
    rintro e wq ⟨rfl, hb⟩
    have HF := Lib.hid (below_then (below_then HB.out H4.out) hb)
    clear hb
    go_wp2
    go_ret
    exact ⟨rfl, HF.out⟩
  have d1 : decide (u.uid < 0) = false := decide_eq_false h1
  by_cases h2 : u.gid < 0
  · have d2 : decide (u.gid < 0) = true := decide_eq_true h2
    go_wp2_with fail
    refine (KN.out _ H4.out).mono ?_
    rintro e wq ⟨rfl, hb⟩
    have HF := Lib.hid (below_then (below_then HB.out H4.out) hb)
    clear hb
    go_wp2
    go_ret
    exact ⟨rfl, HF.out⟩
  have d2 : decide (u.gid < 0) = false := decide_eq_false h2
  go_wp2_with fail
  refine (refThere_any c.proc _).mono ?_
  rintro e w5 ⟨rfl, hw⟩
  subst hw
  cases hth : cThere c.proc
  case false =>
    go_wp2_with fail
    refine (KN.out _ H4.out).mono ?_
    rintro e wq ⟨rfl, hb⟩
    have HF := Lib.hid (below_then (below_then HB.out H4.out) hb)
    clear hb
    go_wp2
    go_ret
    exact ⟨rfl, HF.out⟩
  have HCh := Lib.hid (fun (t : Tr) (ps : List (Nd × List Entry)) (u : Cred) => doR_changes (t := t) (ps := ps) (u := u) hth)
  clear hth
  go_wp2_with fail
  refine (refCheck7_any c _).mono ?_
  rintro e w5 ⟨rfl, hb⟩
  have H5 := Lib.hid (below_then H4.out hb)
  replace rT := (rowOf_below hb (Nat.lt_of_lt_of_le hlT H4.out.size) 0 6).trans rT
  replace rU := (rowOf_below hb (Nat.lt_of_lt_of_le hlU H4.out.size) 0 4).trans rU
  replace rC := (rowOf_below hb (Nat.lt_of_lt_of_le hlC H4.out.size) 0 24).trans rC
  replace cu := (hb.cell (p := ⟨w.heap.size + 1, 2, none⟩) (Nat.lt_of_lt_of_le hlU H4.out.size)).trans cu
  replace cg := (hb.cell (p := ⟨w.heap.size + 1, 3, none⟩) (Nat.lt_of_lt_of_le hlU H4.out.size)).trans cg
  replace cp := (hb.cell (p := ⟨w.heap.size + 1 + 1, 0, none⟩) (Nat.lt_of_lt_of_le hlC H4.out.size)).trans cp
  clear hb
  cases hci : cIs c
  case false =>
    clear hci
    go_wp2_with fail
    refine (KN.out _ H5.out).mono ?_
    rintro e wq ⟨rfl, hb⟩
    have HF := Lib.hid (below_then (below_then HB.out H5.out) hb)
    clear hb
    go_wp2
    go_ret
    exact ⟨rfl, HF.out⟩
  clear hci
  have KD := Lib.hid (fun W (h : Below w1.heap.size w1 W) => lookDo_any t ps u c W (HTH.out.below h) HX.out.lim HC.out HFH.out (HL.out.below h))
  have HLen := Lib.hid (doR_rows (t := t) (u := u) (c := c) (fun p hp => (HFew.out.2 p hp).1))
  have HOk := Lib.hid (fun h => doR_ok HX.out u c h)
  have HNo := Lib.hid (fun h => (doR_not (t := t) (ps := ps) (u := u) (c := c) h).1)
  have HCg := Lib.hid (HCh.out t ps u)
  clear HCh
  generalize doR t ps u c = D at *
  obtain ⟨d, is⟩ := D
  unfold Tr.val at KD
  go_wp2_with fail
  refine (KD.out _ H5.out).mono ?_
  rintro e w6 ⟨z, rfl, hf, he, hu, hb⟩
  have H6 := Lib.hid (below_then H5.out hb)
  replace rC := (rowOf_below hb (Nat.lt_of_lt_of_le hlC H5.out.size) 0 24).trans rC
  replace cp := (hb.cell (p := ⟨w.heap.size + 1 + 1, 0, none⟩) (Nat.lt_of_lt_of_le hlC H5.out.size)).trans cp
  have HZ6 := Lib.hid (there_of he hu HLen.out)
  have HZf := Lib.hid hf
  have HZn := Lib.hid (And.intro he.1 hu.1)
  clear hb KD cu cg he hu hf rT rU
  go_upto_region 4 with (first | (refine wpList_new_struct (by rfl) (by rfl) 48 (by rfl) _ _ (by rfl) z.vals infoReply (by rfl) (by rfl) (Reply.one _) (by rfl) (by rfl) ?_) | fail)
  have bZ := Blk.new w6 48 z.vals
  have hb : Below w6.heap.size w6 (w6.alloc (.cells z.vals.toArray 48)) := (Below.refl _ _).alloc (Nat.le_refl _) _
  generalize w6.alloc (.cells z.vals.toArray 48) = w7 at *
  have H7 := Lib.hid (below_then H6.out hb)
  replace cp := (hb.cell (p := ⟨w.heap.size + 1 + 1, 0, none⟩) (Nat.lt_of_lt_of_le hlC H6.out.size)).trans cp
  have HZ7 := Lib.hid (HZ6.out.below hb)
  have rZ : rowOf w7 w6.heap.size 0 58 = some z.vals.toArray := bZ.row 0 58 (by rw [Reply.len]; omega)
  have hlZ := bZ.lt
  clear hb bZ rC
  go_wp2_with fail
  refine (refChanges_any c.proc _).mono ?_
  rintro e w8 ⟨rfl, hb⟩
  have H8 := Lib.hid (below_then H7.out hb)
  replace cp := (hb.cell (p := ⟨w.heap.size + 1 + 1, 0, none⟩) (Nat.lt_of_lt_of_le hlC H7.out.size)).trans cp
  replace rZ := (rowOf_below hb hlZ 0 58).trans rZ
  have HZ8 := Lib.hid (HZ7.out.below hb)
  have hlZ8 := Nat.lt_of_lt_of_le hlZ hb.size
  clear hb
  rw [HCg.out]
  cases is
  case false =>
    have hd : d = ⟨fldsZ, [], []⟩ := HNo.out rfl
    subst hd
    have KS := Lib.hid (refSame8_any ⟨z, [], []⟩ ⟨replyZ, [], []⟩ w8 HZ8.out ⟨rfl, rfl, Nat.zero_le _, Nat.zero_le _, At.nil, At.nil⟩)
    have hsm : RepL.same ⟨z, [], []⟩ ⟨replyZ, [], []⟩ = true := by
      have e : z.bare = replyZ.bare := HZf.out.trans rfl
      simp [RepL.same, e]
    rw [hsm] at KS
    clear hsm
    go_wp2_with fail
    refine KS.out.mono ?_
    rintro e w9 ⟨rfl, hb⟩
    have H9 := Lib.hid (below_then H8.out hb)
    clear hb
    go_wp2_with fail
    refine (KN.out _ H9.out).mono ?_
    rintro e wq ⟨rfl, hb⟩
    have HF := Lib.hid (below_then (below_then HB.out H9.out) hb)
    clear hb
    go_wp2
    go_ret
    exact ⟨rfl, HF.out⟩
  case true =>
    have HFz := Lib.hid (fits_of (p := c.proc) (z := z) (d := d) HZf.out (HOk.out rfl))
    have K8 := Lib.hid (refCheck8_yes c.proc z d.es d.us w8 HZn.out.1 HZn.out.2 HZ8.out.e HZ8.out.u HFz.out.ok)
    have KB := Lib.hid (fun W (h : Below w8.heap.size w8 W) => refBytes8_any c.proc z d.es d.us W HZn.out.1 HZn.out.2 (HZ8.out.e.below h) (HZ8.out.u.below h) HFz.out.s0 HFz.out.s1 HFz.out.m)
    have HFew2 := Lib.hid HFz.out.few
    clear HFz
    generalize (num z.status.toNat 4 ++ pLaid ⟨z.bare, d.es, d.us⟩ (pFields c.proc (z.status == 0)) (pFields c.proc (z.status == 0)).length) = l at *
    go_wp2_with fail
    refine K8.out.mono ?_
    rintro e w9 ⟨rfl, hb⟩
    have Hb9 := Lib.hid hb
    have H9 := Lib.hid (below_then H8.out hb)
    replace cp := (hb.cell (p := ⟨w.heap.size + 1 + 1, 0, none⟩) (Nat.lt_of_lt_of_le hlC H8.out.size)).trans cp
    replace rZ := (rowOf_below hb hlZ8 0 58).trans rZ
    clear hb K8
    go_wp2_with fail
    refine (KB.out _ Hb9.out).mono ?_
    rintro e w10 ⟨rfl, hb⟩
    have H10 := Lib.hid (below_then H9.out hb)
    clear hb KB
    have hsz := bs_size l
    have hs1 : ((bs l).size : Int) ≤ 1900 := by have := HFew2.out; omega
    have hs2 : decide (((bs l).size : Int) ≤ 1900) = true := decide_eq_true hs1
    have hs3 : ¬ (1900 : Int) < ((bs l).size : Int) := by omega
    clear hsz
    go_wp2_with fail
    refine (KN.out _ H10.out).mono ?_
    rintro e wq ⟨rfl, hb⟩
    have HF := Lib.hid (below_then (below_then HB.out H10.out) hb)
    clear hb
    go_wp2
    go_ret
    exact ⟨rfl, HF.out⟩
end Go.Proofs.YtgifmpobokaejaaGreatDoor
