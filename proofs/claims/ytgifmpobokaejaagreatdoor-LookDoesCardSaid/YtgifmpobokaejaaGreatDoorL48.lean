/-
  Layer 22: the law LookDoes, walked. Condition: the library's table and errors are laid.
-/
import Derived.Test.YtgifmpobokaejaaGreatDoorL37
import Derived.Test.YtgifmpobokaejaaGreatDoorL44
import Derived.Test.YtgifmpobokaejaaGreatDoorL47
import Derived.Test.YtgifmpobokaejaaGreatDoorL35
import Derived.Test.YtgifmpobokaejaaGreatDoorL25
import Derived.Test.YtgifmpobokaejaaGreatDoorL20
import Derived.Test.YtgifmpobokaejaaGreatDoorRows
import Derived.Test.YtgifmpobokaejaaGreatDoorL19
import Derived.Shelf.Vars
import Derived.Stop.LaidErr
import Derived.MakeChecks
import Derived.Lib.LaidTab
namespace Go.Proofs.YtgifmpobokaejaaGreatDoor
open Go.RowKit
open Go.RowKit
attribute [local go_sem ↓] Go.wp_at_zero Go.wp_at_succ
attribute [local go_sem] rowAt_ptr rowOf_drew rowOf_drewN rowOf_alloc_past rowOf_new
attribute [local go_sem ↓] ldTree22 ldReply ldCall ldCred6

theorem toldR_rows (p : Int) (n : Nd) (r : RepD) : (toldR p n r).es = r.es ∧ (toldR p n r).us = r.us := by
  unfold toldR
  repeat' split
  all_goals exact ⟨rfl, rfl⟩
theorem listR_rows (ns : List Nd) (u : Cred) (c : Call) (n : Nd) (es : List Entry) (plus : Bool) : (listR ns u c n es plus).es.length ≤ es.length ∧ (listR ns u c n es plus).us.length ≤ 6 := by
  unfold listR statD
  repeat' split
  all_goals first
    | exact ⟨Nat.zero_le _, Nat.zero_le _⟩
    | (refine ⟨?_, Nat.zero_le _⟩; show List.length (List.map _ _) ≤ _; rw [List.length_map]; exact pageF_len _ _ _ _)
    | (refine ⟨?_, Nat.zero_le _⟩; exact pageF_len _ _ _ _)
theorem askR_rows (t : Tr) (u : Cred) (c : Call) (n : Nd) (es : List Entry) : (askR t u c n es).es.length ≤ es.length ∧ (askR t u c n es).us.length ≤ 6 := by
  unfold askR
  repeat' split
  all_goals first
    | exact ⟨Nat.zero_le _, Nat.zero_le _⟩
    | exact listR_rows _ _ _ _ _ _
    | (refine ⟨Nat.zero_le _, ?_⟩; decide)
    | (refine ⟨Nat.zero_le _, ?_⟩; show List.length (nums _ _) ≤ 6; exact Nat.le_refl 6)
theorem doR_rows {t : Tr} {ps : List (Nd × List Entry)} {u : Cred} {c : Call} (h : ∀ p ∈ ps, p.2.length ≤ 70) : (doR t ps u c).1.es.length ≤ 70 ∧ (doR t ps u c).1.us.length ≤ 6 := by
  unfold doR statD
  repeat' split
  all_goals first
    | exact ⟨Nat.zero_le _, Nat.zero_le _⟩
    | skip
  rw [(toldR_rows _ _ _).1, (toldR_rows _ _ _).2]
  refine ⟨Nat.le_trans (askR_rows _ _ _ _ _).1 ?_, (askR_rows _ _ _ _ _).2⟩
  generalize (atP t.ns c.fh).1.toNat = k
  rw [List.getD_eq_getElem?_getD]
  cases hk : ps[k]? with
  | none => exact Nat.zero_le _
  | some p => exact h p (List.mem_of_getElem? hk)
/-- a tree that came in, with what the laws know of it -/
structure OpenT (w : World) (t : Tr) (ps : List (Nd × List Entry)) : Prop where
  ns : t.ns = ps.map (·.1)
  len : ps.length ≤ maxLen
  at_ : At w 15 t.na (t.ns.map Nd.vals)
  ents : Ents w ps
  good : ∀ p ∈ ps, p.1.good
theorem OpenT.below {w w' : World} {t : Tr} {ps : List (Nd × List Entry)} (h : OpenT w t ps) (hb : Below w.heap.size w w') : OpenT w' t ps := ⟨h.ns, h.len, h.at_.below hb, h.ents.below hb, h.good⟩
theorem OpenT.tree {w : World} {t : Tr} {ps : List (Nd × List Entry)} (h : OpenT w t ps) (hf : FewT ps) : TreeH w t ps :=
  ⟨h.ns, h.at_, h.ents, by rw [h.ns]; exact hf.1, hf.2, fun m hm => by
    rw [h.ns] at hm
    obtain ⟨p, hp, rfl⟩ := List.mem_map.1 hm
    exact (Go.bounds_i64 (h.good p hp).1.2.2.2.2.2.2.2.1).2⟩
theorem TreeF.pos {t : Tr} {ps : List (Nd × List Entry)} (h : TreeF t ps) (hns : t.ns = ps.map (·.1)) : ∀ m ∈ t.ns, 1 ≤ m.attr.gen := fun m hm => by
  rw [hns] at hm
  obtain ⟨p, hp, rfl⟩ := List.mem_map.1 hm
  exact (h.2 p hp).2.1
theorem there_of {d : RepD × Bool} {w' : World} {z : Reply} (he : z.en = d.1.es.length ∧ At w' 15 z.ea (d.1.es.map Entry.vals)) (hu : z.un = d.1.us.length ∧ At w' 1 z.ua (d.1.us.map int1)) (hl : d.1.es.length ≤ 70 ∧ d.1.us.length ≤ 6) : RepL.There ⟨z, d.1.es, d.1.us⟩ w' :=
  ⟨he.1, hu.1, Nat.le_trans hl.1 (by omega), Nat.le_trans hl.2 (by omega), he.2, hu.2⟩
set_option maxRecDepth 20000 in
set_option maxHeartbeats 6400000 in
theorem lookDoesLaw_any (t : Tr) (ps : List (Nd × List Entry)) (u : Cred) (c : Call) (w : World) (hT : OpenT w t ps) (hc : c.good) (hL : LookLaid w) :
    Calls Tryz.prog 3 #[t.val, .agg u.vals.toArray, .agg c.vals.toArray] w fun e w' => e = .returned (.bool true) ∧ Below w.heap.size w w' := by
  obtain ⟨bT, bU, bC, hB, hs⟩ := chain3_blks w t.vals u.vals c.vals 26 28 34
  obtain ⟨w1, hw1⟩ : ∃ V, V = ((w.alloc (.cells t.vals.toArray 26)).alloc (.cells u.vals.toArray 28)).alloc (.cells c.vals.toArray 34) := ⟨_, rfl⟩
  rw [← hw1] at bT bU bC hB hs
  have rT : rowOf w1 w.heap.size 0 6 = some t.vals.toArray := bT.row 0 6 (by rw [Tr.len]; omega)
  have rU : rowOf w1 (w.heap.size + 1) 0 4 = some u.vals.toArray := bU.row 0 4 (by show _ ≤ 4; omega)
  have rC : rowOf w1 (w.heap.size + 1 + 1) 0 24 = some c.vals.toArray := bC.row 0 24 (by rw [Call.len]; omega)
  have cu : w1.cell? ⟨w.heap.size + 1, 2, none⟩ = some (.int .i64 u.uid) := bU.cell 2
  have cg : w1.cell? ⟨w.heap.size + 1, 3, none⟩ = some (.int .i64 u.gid) := bU.cell 3
  have ch : w1.cell? ⟨w.heap.size + 1 + 1, 7, none⟩ = some (.int .i64 c.how) := bC.cell 7
  have hlT := bT.lt
  have hlU := bU.lt
  have hlC := bC.lt
  have HW1 := Lib.hid hw1
  have HT := Lib.hid (hT.below hB)
  have HL := Lib.hid (hL.below hB)
  have HB := Lib.hid hB
  have HC := Lib.hid hc
  have KL := Lib.hid (refLarge22_any t ps w1 HT.out.ns HT.out.len HT.out.at_ HT.out.ents HT.out.good)
  have K7 := Lib.hid (fun W => refLarge7_any c W)
  have KN := Lib.hid (fun W (h : Below w1.heap.size w1 W) => known22_any W (HL.out.below h))
  clear hw1 bT bU bC hs hT hL hB hc
  unfold Tr.val at KL ⊢
  go_enter Tryz.func3, Tryz.ntmps3
  go_upto_region 1 with fail
  change Code.wp _ _ _ _ (((w.alloc (.cells t.vals.toArray 26)).alloc (.cells u.vals.toArray 28)).alloc (.cells c.vals.toArray 34))
  rw [← HW1.out]
  go_wp2_with fail
  refine KL.out.mono ?_
  rintro e w2 ⟨b, rfl, hfew, hb⟩
  have H2 := Lib.hid hb
  replace rT := (rowOf_below hb hlT 0 6).trans rT
  replace rU := (rowOf_below hb hlU 0 4).trans rU
  replace rC := (rowOf_below hb hlC 0 24).trans rC
  replace cu := (hb.cell (p := ⟨w.heap.size + 1, 2, none⟩) hlU).trans cu
  replace cg := (hb.cell (p := ⟨w.heap.size + 1, 3, none⟩) hlU).trans cg
  replace ch := (hb.cell (p := ⟨w.heap.size + 1 + 1, 7, none⟩) hlC).trans ch
  clear hb KL HW1
  cases b
  case true =>
    go_wp2_with fail
    refine (KN.out _ H2.out).mono ?_
    rintro e w3 ⟨rfl, hb⟩
    have HF := Lib.hid (below_then (below_then HB.out H2.out) hb)
    clear hb
    go_wp2
    go_ret
    exact ⟨rfl, HF.out⟩
  have HFew := Lib.hid (hfew rfl)
  clear hfew
  go_wp2_with fail
  refine (K7.out _).mono ?_
  rintro e w3 ⟨rfl, hb⟩
  have H3 := Lib.hid (below_then H2.out hb)
  replace rT := (rowOf_below hb (Nat.lt_of_lt_of_le hlT H2.out.size) 0 6).trans rT
  replace rU := (rowOf_below hb (Nat.lt_of_lt_of_le hlU H2.out.size) 0 4).trans rU
  replace rC := (rowOf_below hb (Nat.lt_of_lt_of_le hlC H2.out.size) 0 24).trans rC
  replace cu := (hb.cell (p := ⟨w.heap.size + 1, 2, none⟩) (Nat.lt_of_lt_of_le hlU H2.out.size)).trans cu
  replace cg := (hb.cell (p := ⟨w.heap.size + 1, 3, none⟩) (Nat.lt_of_lt_of_le hlU H2.out.size)).trans cg
  replace ch := (hb.cell (p := ⟨w.heap.size + 1 + 1, 7, none⟩) (Nat.lt_of_lt_of_le hlC H2.out.size)).trans ch
  clear hb K7
  cases hcl : cLarge c
  case true =>
    go_wp2_with fail
    refine (KN.out _ H3.out).mono ?_
    rintro e w4 ⟨rfl, hb⟩
    have HF := Lib.hid (below_then (below_then HB.out H3.out) hb)
    clear hb
    go_wp2
    go_ret
    exact ⟨rfl, HF.out⟩
  have hfh : c.fh.length ≤ 300 := by
    unfold cLarge at hcl
    simp only [Bool.or_eq_false_iff, decide_eq_false_iff_not] at hcl
    omega
  have HFH := Lib.hid hfh
  clear hfh hcl
  have HTH := Lib.hid (HT.out.tree HFew.out)
  have KC := Lib.hid (refCheck22_any t ps w3 (HTH.out.below H3.out) HT.out.good)
  unfold Tr.val at KC
  go_wp2_with fail
  refine KC.out.mono ?_
  rintro e w4 ⟨b, rfl, hchk, hb⟩
  have H4 := Lib.hid (below_then H3.out hb)
  replace rT := (rowOf_below hb (Nat.lt_of_lt_of_le hlT H3.out.size) 0 6).trans rT
  replace rU := (rowOf_below hb (Nat.lt_of_lt_of_le hlU H3.out.size) 0 4).trans rU
  replace rC := (rowOf_below hb (Nat.lt_of_lt_of_le hlC H3.out.size) 0 24).trans rC
  replace cu := (hb.cell (p := ⟨w.heap.size + 1, 2, none⟩) (Nat.lt_of_lt_of_le hlU H3.out.size)).trans cu
  replace cg := (hb.cell (p := ⟨w.heap.size + 1, 3, none⟩) (Nat.lt_of_lt_of_le hlU H3.out.size)).trans cg
  replace ch := (hb.cell (p := ⟨w.heap.size + 1 + 1, 7, none⟩) (Nat.lt_of_lt_of_le hlC H3.out.size)).trans ch
  clear hb KC
  cases b
  case false =>
    go_wp2_with fail
    refine (KN.out _ H4.out).mono ?_
    rintro e w5 ⟨rfl, hb⟩
    have HF := Lib.hid (below_then (below_then HB.out H4.out) hb)
    clear hb
    go_wp2
    go_ret
    exact ⟨rfl, HF.out⟩
  have HTF := Lib.hid (hchk rfl)
  clear hchk
  by_cases hn : u.uid < 0 ∨ u.gid < 0 ∨ c.how < 0
  · have HN := Lib.hid hn
    by_cases h1 : u.uid < 0
    · clear hn
      go_wp2_with fail
      refine (KN.out _ H4.out).mono ?_
      rintro e w5 ⟨rfl, hb⟩
      have HF := Lib.hid (below_then (below_then HB.out H4.out) hb)
      clear hb
      go_wp2
      go_ret
      exact ⟨rfl, HF.out⟩
    by_cases h2 : u.gid < 0
    · clear hn
      go_wp2_with fail
      refine (KN.out _ H4.out).mono ?_
      rintro e w5 ⟨rfl, hb⟩
      have HF := Lib.hid (below_then (below_then HB.out H4.out) hb)
      clear hb
      go_wp2
      go_ret
      exact ⟨rfl, HF.out⟩
    have h3 : c.how < 0 := by omega
    clear hn
    go_wp2_with fail
    refine (KN.out _ H4.out).mono ?_
    rintro e w5 ⟨rfl, hb⟩
    have HF := Lib.hid (below_then (below_then HB.out H4.out) hb)
    clear hb
    go_wp2
    go_ret
    exact ⟨rfl, HF.out⟩
  have h1 : ¬ u.uid < 0 := by omega
  have h2 : ¬ u.gid < 0 := by omega
  have h3 : ¬ c.how < 0 := by omega
  have d1 : decide (u.uid < 0) = false := decide_eq_false h1
  have d2 : decide (u.gid < 0) = false := decide_eq_false h2
  have d3 : decide (c.how < 0) = false := decide_eq_false h3
  clear hn
  have KD := Lib.hid (fun W (h : Below w1.heap.size w1 W) => lookDo_any t ps u c W (HTH.out.below h) HTF.out.1 HC.out HFH.out (HL.out.below h))
  have KR := Lib.hid (fun W (h : Below w1.heap.size w1 W) => refDo_any t ps u c W (HTH.out.below h) (HTF.out.pos HT.out.ns) HTF.out.1 HC.out HFH.out)
  have HLen := Lib.hid (doR_rows (t := t) (u := u) (c := c) (fun p hp => (HFew.out.2 p hp).1))
  generalize doR t ps u c = D at *
  obtain ⟨d, is⟩ := D
  unfold Tr.val at KD KR
  go_wp2_with fail
  refine (KD.out _ H4.out).mono ?_
  rintro e w5 ⟨z, rfl, hf, he, hu, hb⟩
  have H5 := Lib.hid (below_then H4.out hb)
  replace rT := (rowOf_below hb (Nat.lt_of_lt_of_le hlT H4.out.size) 0 6).trans rT
  replace rU := (rowOf_below hb (Nat.lt_of_lt_of_le hlU H4.out.size) 0 4).trans rU
  replace rC := (rowOf_below hb (Nat.lt_of_lt_of_le hlC H4.out.size) 0 24).trans rC
  have HZ5 := Lib.hid (there_of he hu HLen.out)
  clear hb KD cu cg ch he hu
  go_upto_region 4 with (first | (refine wpList_new_struct (by rfl) (by rfl) 48 (by rfl) _ _ (by rfl) z.vals infoReply (by rfl) (by rfl) (Reply.one _) (by rfl) (by rfl) ?_) | fail)
  have bZ := Blk.new w5 48 z.vals
  have hb : Below w5.heap.size w5 (w5.alloc (.cells z.vals.toArray 48)) := (Below.refl _ _).alloc (Nat.le_refl _) _
  generalize w5.alloc (.cells z.vals.toArray 48) = w6 at *
  have H6 := Lib.hid (below_then H5.out hb)
  replace rT := (rowOf_below hb (Nat.lt_of_lt_of_le hlT H5.out.size) 0 6).trans rT
  replace rU := (rowOf_below hb (Nat.lt_of_lt_of_le hlU H5.out.size) 0 4).trans rU
  replace rC := (rowOf_below hb (Nat.lt_of_lt_of_le hlC H5.out.size) 0 24).trans rC
  have HZ6 := Lib.hid (HZ5.out.below hb)
  have rZ : rowOf w6 w5.heap.size 0 58 = some z.vals.toArray := bZ.row 0 58 (by rw [Reply.len]; omega)
  have hlZ := bZ.lt
  clear hb bZ
  go_wp2_with fail
  refine (KR.out _ H6.out).mono ?_
  rintro e w7 ⟨y, rfl, hf2, he, hu, hb⟩
  have H7 := Lib.hid (below_then H6.out hb)
  replace rZ := (rowOf_below hb hlZ 0 58).trans rZ
  have hlZ7 := Nat.lt_of_lt_of_le hlZ hb.size
  have HY7 := Lib.hid (there_of he hu HLen.out)
  have HZ7 := Lib.hid (HZ6.out.below hb)
  clear hb KR he hu rT rU rC
  go_upto_region 5 with (first | (refine wpList_new_struct (by rfl) (by rfl) 48 (by rfl) _ _ (by rfl) y.vals infoReply (by rfl) (by rfl) (Reply.one _) (by rfl) (by rfl) ?_) | fail)
  have bY := Blk.new w7 48 y.vals
  have hb : Below w7.heap.size w7 (w7.alloc (.cells y.vals.toArray 48)) := (Below.refl _ _).alloc (Nat.le_refl _) _
  generalize w7.alloc (.cells y.vals.toArray 48) = w8 at *
  have H8 := Lib.hid (below_then H7.out hb)
  replace rZ := (rowOf_below hb hlZ7 0 58).trans rZ
  have rY : rowOf w8 w7.heap.size 0 58 = some y.vals.toArray := bY.row 0 58 (by rw [Reply.len]; omega)
  have KS := Lib.hid (refSame8_any ⟨z, d.es, d.us⟩ ⟨y, d.es, d.us⟩ w8 (HZ7.out.below hb) (HY7.out.below hb))
  have hsm : RepL.same ⟨z, d.es, d.us⟩ ⟨y, d.es, d.us⟩ = true := by
    have e : z.bare = y.bare := hf.trans hf2.symm
    simp [RepL.same, e]
  rw [hsm] at KS
  clear hb bY hf hf2 hsm
  cases is
  all_goals
    go_wp2_with fail
    refine KS.out.mono ?_
    rintro e w9 ⟨rfl, hb⟩
    have H9 := Lib.hid (below_then H8.out hb)
    clear hb
    go_wp2_with fail
    refine (KN.out _ H9.out).mono ?_
    rintro e w10 ⟨rfl, hb⟩
    have HF := Lib.hid (below_then (below_then HB.out H9.out) hb)
    clear hb
    go_wp2
    go_ret
    exact ⟨rfl, HF.out⟩
end Go.Proofs.YtgifmpobokaejaaGreatDoor

/-
  Layer 22: what is laid: the table of tens' powers and the library's two errors. No condition.
-/
namespace Go.Proofs.YtgifmpobokaejaaGreatDoor
open Go.ChangeShapes Go.WideShapes Go.ChangeAt Go.RowKit Go.Deep

theorem tabB_of22 {W : World} {rest : List (String × DataW Unit)} (h : laidMet Tryz.prog (("internal/strconv.uint64pow10", Rows.laid_internal_strconv_uint64pow10) :: rest) W) : Lib.TabIs Tryz.prog W "internal/strconv.uint64pow10" .u64 Lib.pow10Tab := by
  have e : (Rows.laid_internal_strconv_uint64pow10 : DataW Unit) = Lib.tabData .u64 Lib.pow10Tab := by
    have e2 : Lib.pow10Tab = [1, 10, 100, 1000, 10000, 100000, 1000000, 10000000, 100000000, 1000000000, 10000000000, 100000000000, 1000000000000, 10000000000000, 100000000000000, 1000000000000000, 10000000000000000, 100000000000000000, 1000000000000000000, 10000000000000000000] := by decide +kernel
    rw [e2]; rfl
  rw [e] at h
  exact Lib.tabIs_of_head (g := 3) (by kernel_rfl) (by kernel_rfl) (Tryz.underlying185) Tryz.underlying162 (by kernel_rfl) (by kernel_rfl) h
theorem rowErr22 (u : TypeId) (h : Tryz.prog.typeName? 3 u = some "*errors.errorString") : u = 174 :=
  typeName_ptr_named (nm := "errors.errorString") (by rw [show "*" ++ "errors.errorString" = "*errors.errorString" by decide]; kernel_rfl) (by kernel_rfl) (by decide) u (by rw [show "*" ++ "errors.errorString" = "*errors.errorString" by decide]; exact h)
theorem range_of22 {W : World} {rest : List (String × DataW Unit)} (h : laidMet Tryz.prog (("strconv.ErrRange", Rows.laid_strconv_ErrRange) :: rest) W) : ∃ tp p, W.var? Tryz.prog "strconv.ErrRange" = some #[.iface tp p] := by
  obtain ⟨a, s, hv, -⟩ := laid_sentinel (g := 1) (ti := 111) (te := 176) (ts := 9) h (by kernel_rfl) (by kernel_rfl) Tryz.underlying111 rowErr22 Tryz.underlying174 Tryz.underlying176 rfl rfl Tryz.underlying9 (by kernel_rfl) (by kernel_rfl)
  exact ⟨_, _, hv⟩
theorem syntax_of22 {W : World} {rest : List (String × DataW Unit)} (h : laidMet Tryz.prog (("strconv.ErrSyntax", Rows.laid_strconv_ErrSyntax) :: rest) W) : ∃ tp p, W.var? Tryz.prog "strconv.ErrSyntax" = some #[.iface tp p] := by
  obtain ⟨a, s, hv, -⟩ := laid_sentinel (g := 0) (ti := 111) (te := 176) (ts := 9) h (by kernel_rfl) (by kernel_rfl) Tryz.underlying111 rowErr22 Tryz.underlying174 Tryz.underlying176 rfl rfl Tryz.underlying9 (by kernel_rfl) (by kernel_rfl)
  exact ⟨_, _, hv⟩
/-- what is laid stays -/
theorem tabIs_below22 {W V : World} (h : Lib.TabIs Tryz.prog W "internal/strconv.uint64pow10" .u64 Lib.pow10Tab) (hb : Below W.heap.size W V) : Lib.TabIs Tryz.prog V "internal/strconv.uint64pow10" .u64 Lib.pow10Tab := Lib.tabBelow_of_tabIs h V hb
theorem var_below22 {W V : World} {n : String} {cs : Array Value} (h : W.var? Tryz.prog n = some cs) (hb : Below W.heap.size W V) : V.var? Tryz.prog n = some cs := by
  unfold World.var? at h ⊢
  cases hg : Tryz.prog.globalNamed n with
  | none => simp [hg] at h
  | some g =>
    simp only [hg, Option.bind_some] at h ⊢
    have hlt : g < W.heap.size := by
      rcases Nat.lt_or_ge g W.heap.size with h' | h'
      · exact h'
      · simp [Array.getElem?_eq_none h'] at h
    rw [hb.block g hlt]
    exact h
/-- a row that lays the two tables of bits, the table of tens' powers and the two errors -/
theorem lookLaid_of {W : World} {a b : String × DataW Unit} (h : laidMetH Tryz.prog [a, b, ("internal/strconv.uint64pow10", Rows.laid_internal_strconv_uint64pow10), ("strconv.ErrRange", Rows.laid_strconv_ErrRange), ("strconv.ErrSyntax", Rows.laid_strconv_ErrSyntax)] W)
    (hp : ([a, b, ("internal/strconv.uint64pow10", (Rows.laid_internal_strconv_uint64pow10 : DataW Unit)), ("strconv.ErrRange", Rows.laid_strconv_ErrRange), ("strconv.ErrSyntax", Rows.laid_strconv_ErrSyntax)].all fun x => x.2.handleName?.isNone) = true) : LookLaid W := by
  rw [MakeChecks.laidMetH_plain _ _ _ hp] at h
  have ht := tabB_of22 (laidMet.tail (laidMet.tail h))
  obtain ⟨t1, p1, hr⟩ := range_of22 (laidMet.tail (laidMet.tail (laidMet.tail h)))
  obtain ⟨t2, p2, hs⟩ := syntax_of22 (laidMet.tail (laidMet.tail (laidMet.tail (laidMet.tail h))))
  exact fun V hb => ⟨tabIs_below22 ht hb, ⟨t2, p2, var_below22 hs hb⟩, ⟨t1, p1, var_below22 hr hb⟩⟩
/-- a tree that came in, as the laws take it -/
structure TreeE where
  t : Tr
  ps : List (Nd × List Entry)
def TreeE.vals (x : TreeE) : List Value := x.t.vals
section
variable {H : Type} {enc : TypeId × Value → H} {w : World} {base : Nat} {spare : Nat → Bool} {held : Bool} {fuel : Nat} {cs : List Value} {x : DataW H × List MemPlace}
theorem open_Cred22 (h : DataW.trod enc Tryz.prog w base spare held fuel 28 cs = some x) : ∃ a : Cred, cs = a.vals ∧ (Lit.int .i64 a.uid).wf = true ∧ (Lit.int .i64 a.gid).wf = true := by
  have hl : cs.length = 4 := (len_of Tryz.underlying28 h).trans (by kernel_rfl)
  obtain ⟨z0, h0, g0⟩ := int_field Tryz.underlying28 h 0 0 _ rfl (e := 3) rfl rfl (by kernel_rfl) Tryz.underlying3
  obtain ⟨z1, h1, g1⟩ := int_field Tryz.underlying28 h 1 1 _ rfl (e := 3) rfl rfl (by kernel_rfl) Tryz.underlying3
  obtain ⟨z2, h2, g2⟩ := int_field Tryz.underlying28 h 2 2 _ rfl (e := 3) rfl rfl (by kernel_rfl) Tryz.underlying3
  obtain ⟨z3, h3, g3⟩ := int_field Tryz.underlying28 h 3 3 _ rfl (e := 3) rfl rfl (by kernel_rfl) Tryz.underlying3
  have hend : cs.drop 4 = [] := List.drop_of_length_le (by omega)
  have e : cs = cs.drop 0 := rfl
  simp only [Nat.reduceAdd] at h0 h1 h2 h3
  refine ⟨⟨z0, z1, z2, z3⟩, e.trans ?_, g2, g3⟩
  rw [h0, h1, h2, h3, hend]
  rfl
theorem open_treeE (hlt : ∀ p ∈ x.2, p.block < w.heap.size) (h : DataW.trod enc Tryz.prog w base spare held fuel 26 cs = some x) : ∃ a : TreeE, cs = a.vals ∧ (∀ p ∈ a.ps, ∀ e ∈ p.2, e.good) ∧ OpenT w a.t a.ps := by
  obtain ⟨t, ps, rfl, h1, h2, h3, h4, h5⟩ := open_deep hlt h
  exact ⟨⟨t, ps⟩, rfl, fun p hp => (h5 p hp).2, ⟨h1, h2, h3, h4, fun p hp => (h5 p hp).1⟩⟩
end
end Go.Proofs.YtgifmpobokaejaaGreatDoor
