/-
  Layer 22, walks: the document's lookup (written by wip/tools/genlookref.py). Conditions: numbers of nodes are natural.
-/
import Derived.Test.YtgifmpobokaejaaGreatDoorF46
namespace Go.Proofs.YtgifmpobokaejaaGreatDoor
open Go.RowKit
attribute [local go_sem ↓] Go.wp_at_zero Go.wp_at_succ
attribute [local go_sem] rowAt_ptr rowOf_drew rowOf_drewN rowOf_alloc_past rowOf_new
attribute [local go_sem ↓] ldAsk22 ldNode22 ldCred6 ldAttrR ldTree22 ldCall exStore22

attribute [local go_sem] blkOf22 isPtr22 rowV22 allV22 oneV22

set_option maxRecDepth 20000 in
set_option maxHeartbeats 6400000 in
theorem refLookup_any (t : Tr) (u : Cred) (c : Call) (n : Nd) (es : List Entry) (w : World) (hl : t.ns.length ≤ 9223372036854775807) (hA : At w 15 t.na (t.ns.map Nd.vals)) (hgen : ∀ m ∈ t.ns, 1 ≤ m.attr.gen ∧ m.attr.gen ≤ 9223372036854775807)
    (hen : n.en = es.length) (hes : es.length ≤ 9223372036854775807) (hE : At w 15 n.ea (es.map Entry.vals)) (hcn : c.name.length ≤ 9223372036854775807) :
    Calls Tryz.prog 84 #[t.val, .agg u.vals.toArray, .agg c.vals.toArray, .agg n.vals.toArray] w fun e w' => e = .returned (.agg (lookupR t.ns u c n es).vals.toArray) ∧ Below w.heap.size w w' := by
  obtain ⟨bT, bU, bC, bN, bR, hB, hs⟩ := chain5_blks w t.vals u.vals c.vals n.vals replyZ.vals 26 28 34 65 48
  obtain ⟨w1, hw1⟩ : ∃ V, V = ((((w.alloc (.cells t.vals.toArray 26)).alloc (.cells u.vals.toArray 28)).alloc (.cells c.vals.toArray 34)).alloc (.cells n.vals.toArray 65)).alloc (.cells replyZ.vals.toArray 48) := ⟨_, rfl⟩
  rw [← hw1] at bT bU bC bN bR hB hs
  have cT : w1.cell? ⟨w.heap.size + 1 + 1 + 1, 0, none⟩ = some (.int .i64 n.attr.type) := bN.cell 0
  have cE : w1.cell? ⟨w.heap.size + 1 + 1 + 1, 14, none⟩ = some (.slice n.ea es.length n.ec) := by rw [bN.cell 14, ← hen]; rfl
  have c5 : w1.cell? ⟨w.heap.size, 5, none⟩ = some (.slice t.na t.ns.length t.nc) := bT.cell 5
  have rT : rowOf w1 w.heap.size 0 6 = some t.vals.toArray := bT.row 0 6 (by rw [Tr.len]; omega)
  have rU : rowOf w1 (w.heap.size + 1) 0 4 = some u.vals.toArray := bU.row 0 4 (by show _ ≤ 4; omega)
  have rA : rowOf w1 (w.heap.size + 1 + 1 + 1) 0 10 = some n.attr.vals.toArray := bN.row 0 10 (by rw [Nd.len]; omega)
  have hlT := bT.lt
  have hlU := bU.lt
  have hlC := bC.lt
  have hlN := bN.lt
  have hlR := bR.lt
  have HW1 := Lib.hid hw1
  have cM : w1.cell? ⟨w.heap.size + 1 + 1, 2, none⟩ = some (.string (bs c.name)) := bC.cell 2
  have HL := Lib.hid (show lookupR t.ns u c n es = if n.attr.type ≠ 2 then statR 20 else if nameSt c.name ≠ 0 then statR (nameSt c.name) else if mayB (bitsP n.attr u.uid u.gid) 1 = false then statR 13 else if (findGen es c.name).2 = false ∨ placeOf t.ns (findGen es c.name).1 < 0 then statR 2 else { replyZ with fh := genText (findGen es c.name).1, obj := postN (nodeAt t.ns (placeOf t.ns (findGen es c.name).1)) } from rfl)
  have KM := Lib.hid (fun W => refMayB6_any n.attr u 1 W (.inl rfl))
  have KC := Lib.hid (fun W => refCheck4_any c.name W hcn)
  have KF := Lib.hid (fun W hE => refFind20_any n.ea n.ec es c.name W hes hE)
  have KO := Lib.hid (fun W g hA => refOf22_any t g W hl hA)
  have HPL := Lib.hid (fun g (h : ¬ placeOf t.ns g < 0) => placeOf_at (ns := t.ns) (gen := g) h)
  have hE1 := hE.below hB
  have hA1 := hA.below hB
  have HA0 := Lib.hid hA
  have HE0 := Lib.hid hE
  have HFN := Lib.hid (show findName es c.name = if es.findIdx (fun x => x.name == c.name) < es.length then ((es.findIdx (fun x => x.name == c.name) : Nat) : Int) else -1 from rfl)
  have HFG := Lib.hid (And.intro (fun h => findGen_some (l := es) (s := c.name) h) (fun h => findGen_none (l := es) (s := c.name) h))
  unfold Tr.val at KO ⊢
  generalize lookupR t.ns u c n es = lr at *
  generalize mayB (bitsP n.attr u.uid u.gid) 1 = m at *
  generalize nameSt c.name = st at *
  generalize findGen es c.name = fg at *
  generalize findName es c.name = fn at *
  generalize es.findIdx (fun x => x.name == c.name) = K at *
  generalize c.name = cn at *
  clear hw1 bT bU bC bN hs hA hE hen hcn
  by_cases h2 : n.attr.type = 2
  case neg =>
    have HQ := Lib.hid (HL.out.trans (if_pos h2))
    have h2' : (n.attr.type != 2) = true := by simpa using h2
    go_enter Tryz.func84, Tryz.ntmps84
    go_upto_region 1 with fail
    change Code.wp _ _ _ _ (((((w.alloc (.cells t.vals.toArray 26)).alloc (.cells u.vals.toArray 28)).alloc (.cells c.vals.toArray 34)).alloc (.cells n.vals.toArray 65)).alloc (.cells replyZ.vals.toArray 48))
    rw [← HW1.out]
    obtain ⟨z, hz⟩ : ∃ z : Reply, z = statR 20 := ⟨_, rfl⟩
    have HZ := Lib.hid hz
    clear hz
    go_wp2_with fail
    refine (refBad_any 20 _).mono ?_
    rintro e wz ⟨rfl, hbz⟩
    have HR := Lib.hid (retReply5 (z := z) (bR.stays hbz) (below_then hB hbz))
    replace bR := bR.stays hbz
    clear hbz
    go_wp2_with (first | (refine wpList_store_whole (by rfl) 48 _ _ (by rfl) (w.heap.size + 1 + 1 + 1 + 1) z.vals _ bR (by rfl) (by rfl) (by first | rfl | (rw [HZ.out]; done) | (rw [HZ.out]; rfl)) (by kernel_rfl) (Reply.one _) ?_) | fail)
    exact ret_cells (w.heap.size + 1 + 1 + 1 + 1) 0 z.vals Tryz.results84 Tryz.underlying48 rfl (by kernel_rfl) rfl HR.out.1.range rfl ⟨by rw [HQ.out, HZ.out], HR.out.2⟩
  have HL2 := Lib.hid (HL.out.trans (if_neg (by simpa using h2)))
  rw [h2] at cT
  go_enter Tryz.func84, Tryz.ntmps84
  go_upto_region 1 with fail
  change Code.wp _ _ _ _ (((((w.alloc (.cells t.vals.toArray 26)).alloc (.cells u.vals.toArray 28)).alloc (.cells c.vals.toArray 34)).alloc (.cells n.vals.toArray 65)).alloc (.cells replyZ.vals.toArray 48))
  rw [← HW1.out]
  go_wp2_with fail
  refine (KC.out _).mono ?_
  rintro e w2 ⟨rfl, rfl⟩
  by_cases h0 : st = 0
  case neg =>
    have h0' : (st != 0) = true := by simpa using h0
    have HQ := Lib.hid (HL2.out.trans (if_pos h0))
    obtain ⟨z, hz⟩ : ∃ z : Reply, z = statR st := ⟨_, rfl⟩
    have HZ := Lib.hid hz
    clear hz
    go_wp2_with fail
    refine (refBad_any st _).mono ?_
    rintro e wz ⟨rfl, hbz⟩
    have HR := Lib.hid (retReply5 (z := z) (bR.stays hbz) (below_then hB hbz))
    replace bR := bR.stays hbz
    clear hbz
    go_wp2_with (first | (refine wpList_store_whole (by rfl) 48 _ _ (by rfl) (w.heap.size + 1 + 1 + 1 + 1) z.vals _ bR (by rfl) (by rfl) (by first | rfl | (rw [HZ.out]; done) | (rw [HZ.out]; rfl)) (by kernel_rfl) (Reply.one _) ?_) | fail)
    exact ret_cells (w.heap.size + 1 + 1 + 1 + 1) 0 z.vals Tryz.results84 Tryz.underlying48 rfl (by kernel_rfl) rfl HR.out.1.range rfl ⟨by rw [HQ.out, HZ.out], HR.out.2⟩
  have HL3 := Lib.hid (HL2.out.trans (if_neg (by simpa using h0)))
  subst h0
  go_wp2_with fail
  refine (KM.out _).mono ?_
  rintro e w2 ⟨rfl, hb⟩
  replace cE := (hb.cell (p := ⟨w.heap.size + 1 + 1 + 1, 14, none⟩) hlN).trans cE
  replace cM := (hb.cell (p := ⟨w.heap.size + 1 + 1, 2, none⟩) hlC).trans cM
  replace c5 := (hb.cell (p := ⟨w.heap.size, 5, none⟩) hlT).trans c5
  replace rT := (rowOf_below hb hlT 0 6).trans rT
  replace bR := bR.stays hb
  replace hE1 := hE1.below hb
  replace hA1 := hA1.below hb
  replace hB := below_then hB hb
  replace hlT := Nat.lt_of_lt_of_le hlT hb.size
  replace hlC := Nat.lt_of_lt_of_le hlC hb.size
  replace hlN := Nat.lt_of_lt_of_le hlN hb.size
  replace hlR := Nat.lt_of_lt_of_le hlR hb.size
  clear hb cT rU rA
  cases m
  case false =>
    have HQ := Lib.hid (HL3.out.trans (if_pos rfl))
    obtain ⟨z, hz⟩ : ∃ z : Reply, z = statR 13 := ⟨_, rfl⟩
    have HZ := Lib.hid hz
    clear hz
    go_wp2_with fail
    refine (refBad_any 13 _).mono ?_
    rintro e wz ⟨rfl, hbz⟩
    have HR := Lib.hid (retReply5 (z := z) (bR.stays hbz) (below_then hB hbz))
    replace bR := bR.stays hbz
    clear hbz
    go_wp2_with (first | (refine wpList_store_whole (by rfl) 48 _ _ (by rfl) (w.heap.size + 1 + 1 + 1 + 1) z.vals _ bR (by rfl) (by rfl) (by first | rfl | (rw [HZ.out]; done) | (rw [HZ.out]; rfl)) (by kernel_rfl) (Reply.one _) ?_) | fail)
    exact ret_cells (w.heap.size + 1 + 1 + 1 + 1) 0 z.vals Tryz.results84 Tryz.underlying48 rfl (by kernel_rfl) rfl HR.out.1.range rfl ⟨by rw [HQ.out, HZ.out], HR.out.2⟩
  have HL4 := Lib.hid (HL3.out.trans (if_neg (by simp)))
  go_wp2_with fail
  refine (KF.out _ hE1).mono ?_
  rintro e w3 ⟨rfl, rfl⟩
  by_cases hK : K < es.length
  case neg =>
    have hfg := HFG.out.2 hK
    have hfn := HFN.out.trans (if_neg hK)
    subst hfg hfn
    have HQ := Lib.hid (HL4.out.trans (if_pos (.inl rfl)))
    obtain ⟨z, hz⟩ : ∃ z : Reply, z = statR 2 := ⟨_, rfl⟩
    have HZ := Lib.hid hz
    clear hz
    go_wp2_with fail
    refine (refBad_any 2 _).mono ?_
    rintro e wz ⟨rfl, hbz⟩
    have HR := Lib.hid (retReply5 (z := z) (bR.stays hbz) (below_then hB hbz))
    replace bR := bR.stays hbz
    clear hbz
    go_wp2_with (first | (refine wpList_store_whole (by rfl) 48 _ _ (by rfl) (w.heap.size + 1 + 1 + 1 + 1) z.vals _ bR (by rfl) (by rfl) (by first | rfl | (rw [HZ.out]; done) | (rw [HZ.out]; rfl)) (by kernel_rfl) (Reply.one _) ?_) | fail)
    exact ret_cells (w.heap.size + 1 + 1 + 1 + 1) 0 z.vals Tryz.results84 Tryz.underlying48 rfl (by kernel_rfl) rfl HR.out.1.range rfl ⟨by rw [HQ.out, HZ.out], HR.out.2⟩
  have hfg := HFG.out.1 hK
  have hfn := HFN.out.trans (if_pos hK)
  subst hfg hfn
  simp only at HL4
  obtain ⟨be, oe, hea, hbe, re, ce⟩ := rowCell8 Entry.len (by decide) hE1 hK
  obtain ⟨be0, oe0, hea0, hbe0, -⟩ := rowCell8 Entry.len (by decide) HE0.out hK
  have hbb : be = be0 := by rw [hea] at hea0; injection hea0 with h; injection h with h1 h2
  subst hbb
  have cg : w2.cell? ⟨be, oe + K * 15, none⟩ = some (.int .i64 es[K].gen) := ce 0 _ rfl
  rw [hea] at cE
  clear ce re hea0
  generalize es[K] = ek at *
  have hK0 : (0 : Int) ≤ (K : Int) := Int.natCast_nonneg _
  have hK1 : (K : Int) < (es.length : Int) := by omega
  have KO3 := Lib.hid (fun W (h : Stb w2 W) => KO.out W ek.gen (hA1.stb h))
  have HPL2 := Lib.hid (HPL.out ek.gen)
  generalize hpl : placeOf t.ns ek.gen = pl at *
  clear HFN HFG hpl
  go_wp2_with fail
  go_region_held3 (fun W => Stb w2 W) (first | exact Stb.start | assumption | (exact Stb.alloc (by assumption) _) | (exact Stb.call (by assumption) (by assumption))) (first | (go_at_call 66; refine (KO3.out _ (by assumption)).mono ?_; rintro e w4 ⟨rfl, hb4⟩))
  rename_i hX
  have hst : Stb w2 w4 := hX
  clear hX
  have hb := hst.below
  replace cE := (hb.cell (p := ⟨w.heap.size + 1 + 1 + 1, 14, none⟩) hlN).trans cE
  replace c5 := (hb.cell (p := ⟨w.heap.size, 5, none⟩) hlT).trans c5
  replace bR := bR.stays hb
  replace hA1 := hA1.below hb
  replace hB := below_then hB hb
  replace hlT := Nat.lt_of_lt_of_le hlT hb.size
  replace hlN := Nat.lt_of_lt_of_le hlN hb.size
  replace hlR := Nat.lt_of_lt_of_le hlR hb.size
  replace cg := (hb.cell (p := ⟨be, _, none⟩) hbe).trans cg
  clear hb hb4 rT KO3 hst cM hE1
  by_cases hp : pl < 0
  case pos =>
    have HQ := Lib.hid (HL4.out.trans (if_pos (.inr hp)))
    obtain ⟨z, hz⟩ : ∃ z : Reply, z = statR 2 := ⟨_, rfl⟩
    have HZ := Lib.hid hz
    clear hz
    go_wp2_with fail
    refine (refBad_any 2 _).mono ?_
    rintro e wz ⟨rfl, hbz⟩
    have HR := Lib.hid (retReply5 (z := z) (bR.stays hbz) (below_then hB hbz))
    replace bR := bR.stays hbz
    clear hbz
    go_wp2_with (first | (refine wpList_store_whole (by rfl) 48 _ _ (by rfl) (w.heap.size + 1 + 1 + 1 + 1) z.vals _ bR (by rfl) (by rfl) (by first | rfl | (rw [HZ.out]; done) | (rw [HZ.out]; rfl)) (by kernel_rfl) (Reply.one _) ?_) | fail)
    exact ret_cells (w.heap.size + 1 + 1 + 1 + 1) 0 z.vals Tryz.results84 Tryz.underlying48 rfl (by kernel_rfl) rfl HR.out.1.range rfl ⟨by rw [HQ.out, HZ.out], HR.out.2⟩
  have HL5 := Lib.hid (HL4.out.trans (if_neg (by simpa using hp)))
  obtain ⟨k, hk1, hk2, hk3, hk4⟩ := HPL2.out (by omega)
  rw [hk3] at HL5
  subst hk1
  obtain ⟨b1, o1, hna, hb1, r1, -⟩ := rowCell8 Nd.len (by decide) hA1 hk2
  rw [hna] at c5
  have hgle := hgen _ (List.getElem_mem hk2)
  rw [hk4] at hgle
  have hki : (0 : Int) ≤ (k : Int) := Int.natCast_nonneg _
  have hkl : (k : Int) < (t.ns.length : Int) := by omega
  obtain ⟨b0, o0, hna0, hb0, -⟩ := rowCell8 Nd.len (by decide) HA0.out hk2
  have hbb1 : b1 = b0 := by rw [hna] at hna0; injection hna0 with h; injection h with h1 h2
  have hne1 : ¬ b1 = w.heap.size + 1 + 1 + 1 + 1 := by omega
  have hne2 : ¬ be = w.heap.size + 1 + 1 + 1 + 1 := by omega
  have hneT : ¬ w.heap.size = w.heap.size + 1 + 1 + 1 + 1 := by omega
  have hneN : ¬ w.heap.size + 1 + 1 + 1 = w.heap.size + 1 + 1 + 1 + 1 := by omega
  have hbl : be < w4.heap.size := by have := hB.size; omega
  clear hna0 hb0 hbb1 hbe0
  generalize t.ns[k] = nd at *
  obtain ⟨⟨a0, a1, a2, a3, a4, a5, a6, a7, a8, a9⟩, nd1, nd2, nd3, nd4, nd5, nd6, nd7, hnd⟩ : ∃ (at_ : Attr) (nd1 : ByteArray) (nd2 nd3 nd4 : Int) (nd5 : Option Addr) (nd6 nd7 : Nat), nd = ⟨at_, nd1, nd2, nd3, nd4, nd5, nd6, nd7⟩ := ⟨_, _, _, _, _, _, _, _, rfl⟩
  have KP := Lib.hid (fun W => (show Calls Tryz.prog 38 #[.agg nd.vals.toArray] W fun e w' => e = .returned (.agg #[.bool true, .int .i64 a0, .int .i64 a1, .int .i64 a2, .int .i64 a3, .int .i64 a4, .int .i64 a5, .int .i64 a6, .int .i64 a7, .int .i64 a8, .int .i64 a9]) ∧ Below W.heap.size W w' by
    have := refPost22_any nd W
    rw [show (postN nd).vals.toArray = #[.bool true, .int .i64 a0, .int .i64 a1, .int .i64 a2, .int .i64 a3, .int .i64 a4, .int .i64 a5, .int .i64 a6, .int .i64 a7, .int .i64 a8, .int .i64 a9] by rw [hnd]; rfl] at this
    exact this))
  obtain ⟨z, hz⟩ : ∃ z : Reply, z = { replyZ with fh := genText ek.gen, obj := postN nd } := ⟨_, rfl⟩
  rw [← hz] at HL5
  have HZ := Lib.hid (show z = { replyZ with fh := genText ek.gen, obj := ⟨true, ⟨a0, a1, a2, a3, a4, a5, a6, a7, a8, a9⟩⟩ } by rw [hz, hnd]; rfl)
  have bR4 : Blk w4.drew (w.heap.size + 1 + 1 + 1 + 1) 48 replyZ.vals := bR
  have KT := Lib.hid (fun W => digits22_any ek.gen W hgle.1 hgle.2)
  generalize genText ek.gen = gt at *
  clear hz hnd hk3 hk4 hA1 HPL HPL2 HA0 HE0
  go_wp2_with fail
  go_region_law (first
    | (go_simp; go_at_call 114; refine (KT.out _).mono ?_; rintro e wt ⟨rfl, hbt⟩; have hTt := Touch.of_below hbt (fun k => k = w.heap.size + 1 + 1 + 1 + 1); have bRt := Blk.stays (by with_reducible assumption : Blk _ (w.heap.size + 1 + 1 + 1 + 1) 48 replyZ.vals) hbt; (first | (have hBt : Below w.heap.size w wt := below_then hB.drew hbt) | (have hBt : Below w.heap.size w wt := below_then hBp hbt)); first | (have hSt : StQ (w.heap.size + 1 + 1 + 1 + 1) w4 wt := StQ.of ((Touch.refl _ _).drew.then_ hTt)) | skip)
    | (go_simp; go_at_call 38; refine (KP.out _).mono ?_; rintro e wp ⟨rfl, hbp⟩; have hTp := Touch.of_below hbp (fun k => k = w.heap.size + 1 + 1 + 1 + 1); have bRp := Blk.stays (by with_reducible assumption : Blk _ (w.heap.size + 1 + 1 + 1 + 1) 48 replyZ.vals) hbp; (first | (have hBp : Below w.heap.size w wp := below_then hB.drew hbp) | (have hBp : Below w.heap.size w wp := below_then hBt hbp)); first | (have hSp : StQ (w.heap.size + 1 + 1 + 1 + 1) w4 wp := StQ.of ((Touch.refl _ _).drew.then_ hTp)) | skip))
  all_goals (first
    | (change Exit.then _ _ _ _ (wp.setCells (w.heap.size + 1 + 1 + 1 + 1) 0 ({ replyZ with fh := gt, obj := ⟨true, ⟨a0, a1, a2, a3, a4, a5, a6, a7, a8, a9⟩⟩ } : Reply).vals); have HR := Lib.hid (retReply5 (z := ({ replyZ with fh := gt, obj := ⟨true, ⟨a0, a1, a2, a3, a4, a5, a6, a7, a8, a9⟩⟩ } : Reply)) bRp hBp); clear bRp hBp; go_wp2; exact ret_cells (w.heap.size + 1 + 1 + 1 + 1) 0 ({ replyZ with fh := gt, obj := ⟨true, ⟨a0, a1, a2, a3, a4, a5, a6, a7, a8, a9⟩⟩ } : Reply).vals Tryz.results84 Tryz.underlying48 rfl (by kernel_rfl) rfl HR.out.1.range rfl ⟨by rw [HL5.out, HZ.out], HR.out.2⟩)
    | (change Exit.then _ _ _ _ (wt.setCells (w.heap.size + 1 + 1 + 1 + 1) 0 ({ replyZ with fh := gt, obj := ⟨true, ⟨a0, a1, a2, a3, a4, a5, a6, a7, a8, a9⟩⟩ } : Reply).vals); have HR := Lib.hid (retReply5 (z := ({ replyZ with fh := gt, obj := ⟨true, ⟨a0, a1, a2, a3, a4, a5, a6, a7, a8, a9⟩⟩ } : Reply)) bRt hBt); clear bRt hBt; go_wp2; exact ret_cells (w.heap.size + 1 + 1 + 1 + 1) 0 ({ replyZ with fh := gt, obj := ⟨true, ⟨a0, a1, a2, a3, a4, a5, a6, a7, a8, a9⟩⟩ } : Reply).vals Tryz.results84 Tryz.underlying48 rfl (by kernel_rfl) rfl HR.out.1.range rfl ⟨by rw [HL5.out, HZ.out], HR.out.2⟩))
end Go.Proofs.YtgifmpobokaejaaGreatDoor
