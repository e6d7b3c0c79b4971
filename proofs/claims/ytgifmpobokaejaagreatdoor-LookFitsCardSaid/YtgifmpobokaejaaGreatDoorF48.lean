/-
  Layer 22, walks: the document's list (written by wip/tools/genlookreflist.py). Conditions: rows of the sizes that a tree has; numbers of nodes are natural.
-/
import Derived.Test.YtgifmpobokaejaaGreatDoorF47
import Derived.Test.YtgifmpobokaejaaGreatDoorF34
import Derived.Test.YtgifmpobokaejaaGreatDoorF22
namespace Go.Proofs.YtgifmpobokaejaaGreatDoor
open Go.RowKit
attribute [local go_sem ↓] Go.wp_at_zero Go.wp_at_succ
attribute [local go_sem] rowAt_ptr rowOf_drew rowOf_drewN rowOf_alloc_past rowOf_new
attribute [local go_sem ↓] ldAsk22 ldNode22 ldCred6 ldAttrR ldTree22 ldCall ldEntry stPost22 stText22

attribute [local go_sem] ptrAt blkAt offAt oneV22

theorem ent_store (x : Entry) (i : Nat) (r : Entry) (cs : List Value) (W : World) (g : Nat) (hB : Blk W g 80 x.vals) (h : setAt x.vals i cs = r.vals) : Blk (putsW W g i cs) g 80 r.vals := by
  rw [putsW_eq, ← h]
  exact hB.sets _ _ _ _
theorem puts_below {w W : World} {B g : Nat} (h : Below B w W) (hg : B ≤ g) (i : Nat) (cs : List Value) : Below B w (putsW W g i cs) := by
  rw [putsW_eq]
  exact Below.setCells hg _ _ _ h
/-- the entries of a page, as they are told -/
def fillL (plus : Bool) (ns : List Nd) (l : List Entry) : List Entry := if plus then l.map (fillE ns) else l
theorem fillL_len (plus : Bool) (ns : List Nd) (l : List Entry) : (fillL plus ns l).length = l.length := by
  unfold fillL
  split <;> simp
theorem fillL_next {plus : Bool} {ns : List Nd} {l : List Entry} {k : Nat} (h : k < l.length) : fillL plus ns (l.take (k + 1)) = fillL plus ns (l.take k) ++ [if plus then fillE ns l[k] else l[k]] := by
  unfold fillL
  rw [take_next _ _ h]
  split
  · rw [List.map_append]; rfl
  · rfl
theorem pageF_len (l : List Entry) (ck count more : Int) : (pageF l ck count more).1.length ≤ l.length := by
  unfold pageF
  split
  · exact Nat.zero_le _
  · rw [List.length_take]
    have h : (behind ck l).length ≤ l.length := List.length_filter_le _ _
    omega
set_option maxRecDepth 20000 in
set_option maxHeartbeats 6400000 in
theorem refList_any (t : Tr) (u : Cred) (c : Call) (n : Nd) (es : List Entry) (plus : Bool) (w : World) (hl : t.ns.length ≤ 9223372036854775807) (hA : At w 15 t.na (t.ns.map Nd.vals)) (hgen : ∀ m ∈ t.ns, 1 ≤ m.attr.gen ∧ m.attr.gen ≤ 9223372036854775807)
    (hen : n.en = es.length) (hes : es.length ≤ 70) (hn : ∀ x ∈ es, x.name.length ≤ 300) (hE : At w 15 n.ea (es.map Entry.vals)) (hcc : -9223372036854775808 ≤ c.count ∧ c.count ≤ 9223372036854775807) :
    Calls Tryz.prog 88 #[t.val, .agg u.vals.toArray, .agg c.vals.toArray, .agg n.vals.toArray, .bool plus] w (AskP (listR t.ns u c n es plus) w) := by
  obtain ⟨i0, hi, hz, hsize, hby⟩ := info_parts infoEntryB
  have HI := Lib.hid (And.intro hi (And.intro hz (And.intro hsize hby)))
  clear hi hz hsize hby
  obtain ⟨bT, bU, bC, bN, bR, hB, hs⟩ := chain5_blks w t.vals u.vals c.vals n.vals replyZ.vals 26 28 34 65 48
  obtain ⟨w1, hw1⟩ : ∃ V, V = ((((w.alloc (.cells t.vals.toArray 26)).alloc (.cells u.vals.toArray 28)).alloc (.cells c.vals.toArray 34)).alloc (.cells n.vals.toArray 65)).alloc (.cells replyZ.vals.toArray 48) := ⟨_, rfl⟩
  rw [← hw1] at bT bU bC bN bR hB hs
  have cT : w1.cell? ⟨w.heap.size + 1 + 1 + 1, 0, none⟩ = some (.int .i64 n.attr.type) := bN.cell 0
  have cE : w1.cell? ⟨w.heap.size + 1 + 1 + 1, 14, none⟩ = some (.slice n.ea es.length n.ec) := by rw [bN.cell 14, ← hen]; rfl
  have c5 : w1.cell? ⟨w.heap.size, 5, none⟩ = some (.slice t.na t.ns.length t.nc) := bT.cell 5
  have rT : rowOf w1 w.heap.size 0 6 = some t.vals.toArray := bT.row 0 6 (by rw [Tr.len]; omega)
  have rU : rowOf w1 (w.heap.size + 1) 0 4 = some u.vals.toArray := bU.row 0 4 (by show _ ≤ 4; omega)
  have rA : rowOf w1 (w.heap.size + 1 + 1 + 1) 0 10 = some n.attr.vals.toArray := bN.row 0 10 (by rw [Nd.len]; omega)
  have hlT := bT.lt
  have hlU := bU.lt
  have hlC := bC.lt
  have hlN := bN.lt
  have hlR := bR.lt
  have HW1 := Lib.hid hw1
  have cG : w1.cell? ⟨w.heap.size + 1 + 1 + 1, 7, none⟩ = some (.int .i64 n.attr.gen) := bN.cell 7
  have cC : w1.cell? ⟨w.heap.size + 1 + 1, 6, none⟩ = some (.int .i64 c.count) := bC.cell 6
  have cK : w1.cell? ⟨w.heap.size + 1 + 1, 21, none⟩ = some (.int .i64 c.cookie) := bC.cell 21
  have cV : w1.cell? ⟨w.heap.size + 1 + 1, 22, none⟩ = some (.int .i64 c.verf) := bC.cell 22
  have hsz : w.heap.size + 1 + 1 + 1 + 1 + 1 ≤ w1.heap.size := by omega
  have HLR := Lib.hid (show listR t.ns u c n es plus = if n.attr.type ≠ 2 then statD 20 else if mayB (bitsP n.attr u.uid u.gid) 4 = false then statD 13 else if c.cookie ≠ 0 ∧ c.verf ≠ n.attr.gen then statD 10003 else if (pageF es c.cookie (min c.count 1024) (if plus then 96 else 0)).2.2 ≠ 0 then statD (pageF es c.cookie (min c.count 1024) (if plus then 96 else 0)).2.2 else ⟨{ fldsZ with verf := n.attr.gen, eof := (pageF es c.cookie (min c.count 1024) (if plus then 96 else 0)).2.1 }, fillL plus t.ns (pageF es c.cookie (min c.count 1024) (if plus then 96 else 0)).1, []⟩ from rfl)
  have KM := Lib.hid (fun W => refMayB6_any n.attr u 4 W (.inr (.inr (.inr rfl))))
  have hE1 := hE.below hB
  have hA1 := hA.below hB
  generalize listR t.ns u c n es plus = lr at *
  generalize mayB (bitsP n.attr u.uid u.gid) 4 = m at *
  clear hw1 bT bU bC bN hs hA hE
  unfold Tr.val
  by_cases h2 : n.attr.type = 2
  case neg =>
    have HQ := Lib.hid (HLR.out.trans (if_pos h2))
    have h2' : (n.attr.type != 2) = true := by simpa using h2
    go_enter Tryz.func88, Tryz.ntmps88
    go_upto_region 1 with fail
    change Code.wp _ _ _ _ (((((w.alloc (.cells t.vals.toArray 26)).alloc (.cells u.vals.toArray 28)).alloc (.cells c.vals.toArray 34)).alloc (.cells n.vals.toArray 65)).alloc (.cells replyZ.vals.toArray 48))
    rw [← HW1.out]
    obtain ⟨z, hz⟩ : ∃ z : Reply, z = statR 20 := ⟨_, rfl⟩
    have HZ := Lib.hid hz
    have HP := Lib.hid (fun W hB => hz ▸ statAsk (w := w) (w' := W) (s := 20) hB)
    clear hz
    go_wp2_with fail
    refine (refBad_any 20 _).mono ?_
    rintro e wz ⟨rfl, hbz⟩
    have HR := Lib.hid (retReply5 (z := z) (bR.stays hbz) (below_then hB hbz))
    replace bR := bR.stays hbz
    clear hbz
    go_wp2_with (first | (refine wpList_store_whole (by rfl) 48 _ _ (by rfl) (w.heap.size + 1 + 1 + 1 + 1) z.vals _ bR (by rfl) (by rfl) (by first | rfl | (rw [HZ.out]; done) | (rw [HZ.out]; rfl)) (by kernel_rfl) (Reply.one _) ?_) | fail)
    exact ret_cells (w.heap.size + 1 + 1 + 1 + 1) 0 z.vals Tryz.results88 Tryz.underlying48 rfl (by kernel_rfl) rfl HR.out.1.range rfl (by rw [HQ.out]; exact HP.out _ HR.out.2)
  have HL2 := Lib.hid (HLR.out.trans (if_neg (by simpa using h2)))
  rw [h2] at cT
  go_enter Tryz.func88, Tryz.ntmps88
  go_upto_region 1 with fail
  change Code.wp _ _ _ _ (((((w.alloc (.cells t.vals.toArray 26)).alloc (.cells u.vals.toArray 28)).alloc (.cells c.vals.toArray 34)).alloc (.cells n.vals.toArray 65)).alloc (.cells replyZ.vals.toArray 48))
  rw [← HW1.out]
  go_wp2_with fail
  refine (KM.out _).mono ?_
  rintro e w2 ⟨rfl, hb⟩
  replace cE := (hb.cell (p := ⟨w.heap.size + 1 + 1 + 1, 14, none⟩) hlN).trans cE
  replace cG := (hb.cell (p := ⟨w.heap.size + 1 + 1 + 1, 7, none⟩) hlN).trans cG
  replace cC := (hb.cell (p := ⟨w.heap.size + 1 + 1, 6, none⟩) hlC).trans cC
  replace cK := (hb.cell (p := ⟨w.heap.size + 1 + 1, 21, none⟩) hlC).trans cK
  replace cV := (hb.cell (p := ⟨w.heap.size + 1 + 1, 22, none⟩) hlC).trans cV
  replace c5 := (hb.cell (p := ⟨w.heap.size, 5, none⟩) hlT).trans c5
  replace rT := (rowOf_below hb hlT 0 6).trans rT
  replace bR := bR.stays hb
  replace hE1 := hE1.below hb
  replace hA1 := hA1.below hb
  replace hB := below_then hB hb
  replace hlT := Nat.lt_of_lt_of_le hlT hb.size
  replace hlC := Nat.lt_of_lt_of_le hlC hb.size
  replace hlN := Nat.lt_of_lt_of_le hlN hb.size
  replace hlR := Nat.lt_of_lt_of_le hlR hb.size
  replace hsz := Nat.le_trans hsz hb.size
  clear hb cT rU rA hlU
  cases m
  case false =>
    have HQ := Lib.hid (HL2.out.trans (if_pos rfl))
    obtain ⟨z, hz⟩ : ∃ z : Reply, z = statR 13 := ⟨_, rfl⟩
    have HZ := Lib.hid hz
    have HP := Lib.hid (fun W hB => hz ▸ statAsk (w := w) (w' := W) (s := 13) hB)
    clear hz
    go_wp2_with fail
    refine (refBad_any 13 _).mono ?_
    rintro e wz ⟨rfl, hbz⟩
    have HR := Lib.hid (retReply5 (z := z) (bR.stays hbz) (below_then hB hbz))
    replace bR := bR.stays hbz
    clear hbz
    go_wp2_with (first | (refine wpList_store_whole (by rfl) 48 _ _ (by rfl) (w.heap.size + 1 + 1 + 1 + 1) z.vals _ bR (by rfl) (by rfl) (by first | rfl | (rw [HZ.out]; done) | (rw [HZ.out]; rfl)) (by kernel_rfl) (Reply.one _) ?_) | fail)
    exact ret_cells (w.heap.size + 1 + 1 + 1 + 1) 0 z.vals Tryz.results88 Tryz.underlying48 rfl (by kernel_rfl) rfl HR.out.1.range rfl (by rw [HQ.out]; exact HP.out _ HR.out.2)
  have HL3 := Lib.hid (HL2.out.trans (if_neg (by simp)))
  by_cases hv : c.cookie ≠ 0 ∧ c.verf ≠ n.attr.gen
  case pos =>
    have HQ := Lib.hid (HL3.out.trans (if_pos hv))
    have hv1 : (c.cookie != 0) = true := by simpa using hv.1
    have hv2 : (c.verf != n.attr.gen) = true := by simpa using hv.2
    clear hv
    obtain ⟨z, hz⟩ : ∃ z : Reply, z = statR 10003 := ⟨_, rfl⟩
    have HZ := Lib.hid hz
    have HP := Lib.hid (fun W hB => hz ▸ statAsk (w := w) (w' := W) (s := 10003) hB)
    clear hz
    go_wp2_with fail
    refine (refBad_any 10003 _).mono ?_
    rintro e wz ⟨rfl, hbz⟩
    have HR := Lib.hid (retReply5 (z := z) (bR.stays hbz) (below_then hB hbz))
    replace bR := bR.stays hbz
    clear hbz
    go_wp2_with (first | (refine wpList_store_whole (by rfl) 48 _ _ (by rfl) (w.heap.size + 1 + 1 + 1 + 1) z.vals _ bR (by rfl) (by rfl) (by first | rfl | (rw [HZ.out]; done) | (rw [HZ.out]; rfl)) (by kernel_rfl) (Reply.one _) ?_) | fail)
    exact ret_cells (w.heap.size + 1 + 1 + 1 + 1) 0 z.vals Tryz.results88 Tryz.underlying48 rfl (by kernel_rfl) rfl HR.out.1.range rfl (by rw [HQ.out]; exact HP.out _ HR.out.2)
  have HL4 := Lib.hid (HL3.out.trans (if_neg hv))
  have hvb : (c.cookie != 0) = false ∨ ((c.cookie != 0) = true ∧ (c.verf != n.attr.gen) = false) := by
    by_cases h : c.cookie = 0
    · exact .inl (by simp [h])
    · refine .inr ⟨by simpa using h, ?_⟩
      by_cases h3 : c.verf = n.attr.gen
      · simp [h3]
      · exact absurd ⟨h, h3⟩ hv
  have KP := Lib.hid (fun W hE => refPage20_any n.ea n.ec es c.cookie (min c.count 1024) (if plus = true then 96 else 0) W hes hn (by split <;> omega) (by omega) hE)
  have HB := Lib.hid (fun (ps : List Entry × Bool × Int) (h : pageF es c.cookie (min c.count 1024) (if plus then 96 else 0) = ps) => show lr = if ps.2.2 ≠ 0 then statD ps.2.2 else ⟨{ fldsZ with verf := n.attr.gen, eof := ps.2.1 }, fillL plus t.ns ps.1, []⟩ by rw [HL4.out, h])
  have hpg : ∀ mo, (pageF es c.cookie (min c.count 1024) mo).1.length ≤ 70 := fun mo => Nat.le_trans (pageF_len _ _ _ _) hes
  clear hv HLR HL2 HL3 HL4 KM
  rcases hvb with hv1 | ⟨hv1, hv2⟩
  all_goals
    rcases Bool.eq_false_or_eq_true plus with hpl | hpl
    all_goals
      simp only [hpl, Bool.false_eq_true, if_false, if_true] at KP HB
      rw [hpl]
      go_wp2_with fail
      refine (KP.out _ hE1).mono ?_
      rintro e w3 ⟨A, cp, rfl, hP, hb3, hF, c9, hR3⟩
      generalize hpf : pageF es c.cookie (min c.count 1024) _ = ps at hP hR3
      obtain ⟨l, eof, st⟩ := ps
      have HC := HB.out _ hpf
      simp only at HC hP hF hR3
      have hlP := Lib.hid (show l.length ≤ 70 by first | (have h := hpg 96; rw [hpf] at h; exact h) | (have h := hpg 0; rw [hpf] at h; exact h))
      clear HB KP hpf
      have hl9 : l.length ≤ 9223372036854775807 := by
        have := hR3.le
        rw [List.length_map] at this
        exact this
      replace cG := (hb3.cell (p := ⟨w.heap.size + 1 + 1 + 1, 7, none⟩) hlN).trans cG
      replace c5 := (hb3.cell (p := ⟨w.heap.size, 5, none⟩) hlT).trans c5
      replace rT := (rowOf_below hb3 hlT 0 6).trans rT
      replace bR := bR.stays hb3
      replace hA1 := hA1.below hb3
      replace hB := below_then hB hb3
      replace hlT := Nat.lt_of_lt_of_le hlT hb3.size
      replace hlN := Nat.lt_of_lt_of_le hlN hb3.size
      replace hlR := Nat.lt_of_lt_of_le hlR hb3.size
      replace hsz := Nat.le_trans hsz hb3.size
      clear hb3 cE cC cK cV hE1 hlC hF hR3
      by_cases h0 : st = 0
      case neg =>
        have h0' : (st != 0) = true := by simpa using h0
        have HQ := Lib.hid (HC.trans (if_pos h0))
        clear HC
        obtain ⟨z, hz⟩ : ∃ z : Reply, z = statR st := ⟨_, rfl⟩
        have HZ := Lib.hid hz
        have HP := Lib.hid (fun W hB => hz ▸ statAsk (w := w) (w' := W) (s := st) hB)
        clear hz
        go_wp2_with fail
        refine (refBad_any st _).mono ?_
        rintro e wz ⟨rfl, hbz⟩
        have HR := Lib.hid (retReply5 (z := z) (bR.stays hbz) (below_then hB hbz))
        replace bR := bR.stays hbz
        clear hbz
        go_wp2_with (first | (refine wpList_store_whole (by rfl) 48 _ _ (by rfl) (w.heap.size + 1 + 1 + 1 + 1) z.vals _ bR (by rfl) (by rfl) (by first | rfl | (rw [HZ.out]; done) | (rw [HZ.out]; rfl)) (by kernel_rfl) (Reply.one _) ?_) | fail)
        exact ret_cells (w.heap.size + 1 + 1 + 1 + 1) 0 z.vals Tryz.results88 Tryz.underlying48 rfl (by kernel_rfl) rfl HR.out.1.range rfl (by rw [HQ.out]; exact HP.out _ HR.out.2)
      subst h0
      have HQ := Lib.hid (HC.trans (if_neg (by simp)))
      have K3 := Lib.hid (And.intro cG (And.intro c5 (And.intro rT (And.intro bR (And.intro hA1 (And.intro hlT (And.intro hlN (And.intro hlR (And.intro hB (And.intro hP hsz))))))))))
      clear HC cG c5 rT bR hA1 hlT hlN hlR hB hP hsz hv1
      go_wp2
      go_loopw [15, 16] (fun v i wr => ∃ k : Nat, k ≤ l.length ∧ i = .int .i64 k ∧ RowS wr w3.heap.size 80 15 v ((fillL plus t.ns (l.take k)).map Entry.vals) ∧ Below w3.heap.size w3 wr) (fun _ i _ => l.length - (intOf i).toNat)
      case atStart => exact ⟨0, Nat.zero_le _, rfl, by simpa [fillL] using (RowS.none_ (w := w3) (B := w3.heap.size) (e := 80) (sz := 15)), Below.refl _ _⟩
      case round =>
        obtain ⟨k, hk, rfl, hR, hb⟩ := hrel
        obtain ⟨cG, c5, rT, bR, hA1, hlT, hlN, hlR, hB, hP, hsz⟩ := K3.out
        have hk0 : (0 : Int) ≤ (k : Int) := Int.natCast_nonneg _
        by_cases hlt : k < l.length
        · have hk1 : (k : Int) < (l.length : Int) := by omega
          have hkw : IntKind.i64.wrap ((k : Int) + 1) = ((k + 1 : Nat) : Int) := by rw [IntWalk.i64_in _ (by omega)]; omega
          obtain ⟨bl, ol, rfl, hbl, rl, -⟩ := rowCell8 Entry.len (by decide) (hP.below hb) hlt
          have hnx := fillL_next (plus := plus) (ns := t.ns) hlt
          have HPL := Lib.hid (fun (h : ¬ placeOf t.ns l[k].gen < 0) => placeOf_at (ns := t.ns) (gen := l[k].gen) h)
          have HFE := Lib.hid (fun (h : ¬ placeOf t.ns l[k].gen < 0) => fillE_yes (x := l[k]) h)
          have HFN := Lib.hid (fun (h : placeOf t.ns l[k].gen < 0) => fillE_no (x := l[k]) h)
          have HR := Lib.hid (And.intro hR (And.intro hb (And.intro hnx (And.intro hA1 (And.intro c5 (And.intro hlT hl9))))))
          have htk : (fillL plus t.ns (l.take k)).length ≤ l.length := by rw [fillL_len, List.length_take]; omega
          have hll : l.length ≤ 1000000000 := by have := hlP.out; omega
          have KO := Lib.hid (fun W (h : Below wr.heap.size wr W) => refOf22_any t l[k].gen W hl ((hA1.below hb).below h))
          replace rT := (rowOf_below hb hlT 0 6).trans rT
          have hlw : w.heap.size < wr.heap.size := Nat.lt_of_lt_of_le hlT hb.size
          have hbE := (Below.refl wr.heap.size wr).alloc (Nat.le_refl _) (.cells l[k].vals.toArray 80)
          have bE := Blk.new wr 80 l[k].vals
          generalize l[k] = ek at *
          generalize placeOf t.ns ek.gen = pl at *
          unfold Tr.val at KO
          clear hR hb hnx hA1 c5 cG bR hB hP hlN hlR hsz hlT hl9
          go_upto_region 18 with (first | (refine wpList_new_struct (by rfl) (by rfl) 80 (by rfl) _ _ (by rfl) ek.vals infoEntry2 (by rfl) (by rfl) (Entry.one _) (by rfl) (by rfl) ?_) | fail)
          generalize wr.alloc (.cells ek.vals.toArray 80) = w5 at *
          replace rT := (rowOf_below hbE hlw 0 6).trans rT
          have cE0 : w5.cell? ⟨wr.heap.size, 0, none⟩ = some (.int .i64 ek.gen) := bE.cell 0
          have hlE := bE.lt
          go_wp2_with fail
          refine (KO.out _ hbE).mono ?_
          rintro e w6 ⟨rfl, hb6⟩
          have hbr : Below wr.heap.size wr w6 := below_then hbE hb6
          replace bE := bE.stays hb6
          clear hbE hb6 rT cE0 hlE KO
          obtain ⟨hR, hb, hnx, hA1, c5, hlT, hl9⟩ := HR.out
          by_cases hp : pl < 0
          · have hp' : ¬ (0 : Int) ≤ pl := by omega
            obtain ⟨hi, hz, hsize, hby⟩ := HI.out
            have hap := RowS.append (P := Tryz.prog) 45 45 i0 Tryz.underlying45 hi hz hsize hby rfl (by omega) (by omega) (hR.stays hbr) (Nat.le_trans hb.size hbr.size) (ek).vals (Entry.len _) (Entry.one _) (by rw [List.length_map]; omega)
            rw [show (fillL plus t.ns (l.take k)).map Entry.vals ++ [(ek).vals] = (fillL plus t.ns (l.take (k + 1))).map Entry.vals by rw [hnx, List.map_append]; congr 1; cases plus <;> simp [HFN.out hp]] at hap
            have HAP := Lib.hid hap
            have HS := Lib.hid (And.intro hi (And.intro hz hsize))
            have HB5 := Lib.hid (hb.trans (hbr.mono hb.size))
            have rE : rowOf w6 wr.heap.size 0 15 = some (ek).vals.toArray := bE.row 0 15 (by rw [Entry.len]; omega)
            clear hap hi hz hsize hby hR hb hnx hA1 c5 hlT hbr bE hl9
            go_wp2_with (first
              | (refine wpList_buildSlice_one (by rfl) 45 80 (.tmp 91) (by rfl) (ek).vals (by rfl) Tryz.underlying45 i0 _ HS.out.1 HS.out.2.1 rfl HS.out.2.2 (by rw [Entry.len]; omega) (by rw [Entry.len]; omega) ?_)
              | (refine wpList_append_by (by rfl) (.tmp 90) (.tmp 92) #[45, 45] (by rfl) _ _ (by rfl) (by rfl) HAP.out ?_; rintro v' w' ⟨hR', hb'⟩; have HR2 := Lib.hid hR'; have HB2 := Lib.hid (hb' w3 HB5.out); clear hR' hb')
              | fail)
            go_roundw
            case rel => exact ⟨k + 1, by omega, by go_num, HR2.out, HB2.out⟩
            case measure => simp [intOf]; omega
          by_cases hq : plus = true
          case neg =>
            first | (exact absurd hpl hq) | skip
            all_goals
              clear HPL HFE HFN
              obtain ⟨hi, hz, hsize, hby⟩ := HI.out
              have hap := RowS.append (P := Tryz.prog) 45 45 i0 Tryz.underlying45 hi hz hsize hby rfl (by omega) (by omega) (hR.stays hbr) (Nat.le_trans hb.size hbr.size) (ek).vals (Entry.len _) (Entry.one _) (by rw [List.length_map]; omega)
              rw [show (fillL plus t.ns (l.take k)).map Entry.vals ++ [(ek).vals] = (fillL plus t.ns (l.take (k + 1))).map Entry.vals by rw [hnx, List.map_append]; congr 1; simp only [show plus = false by simpa using hq]; rfl] at hap
              have HAP := Lib.hid hap
              have HS := Lib.hid (And.intro hi (And.intro hz hsize))
              have HB5 := Lib.hid (hb.trans (hbr.mono hb.size))
              have rE : rowOf w6 wr.heap.size 0 15 = some (ek).vals.toArray := bE.row 0 15 (by rw [Entry.len]; omega)
              clear hap hi hz hsize hby hR hb hnx hA1 c5 hlT hbr bE hl9
              go_wp2_with (first
                | (refine wpList_buildSlice_one (by rfl) 45 80 (.tmp 91) (by rfl) (ek).vals (by rfl) Tryz.underlying45 i0 _ HS.out.1 HS.out.2.1 rfl HS.out.2.2 (by rw [Entry.len]; omega) (by rw [Entry.len]; omega) ?_)
                | (refine wpList_append_by (by rfl) (.tmp 90) (.tmp 92) #[45, 45] (by rfl) _ _ (by rfl) (by rfl) HAP.out ?_; rintro v' w' ⟨hR', hb'⟩; have HR2 := Lib.hid hR'; have HB2 := Lib.hid (hb' w3 HB5.out); clear hR' hb')
                | fail)
              go_roundw
              case rel => exact ⟨k + 1, by omega, by go_num, HR2.out, HB2.out⟩
              case measure => simp [intOf]; omega
          case pos =>
            first | (exact absurd (hpl.symm.trans hq) (by decide)) | skip
            all_goals
              obtain ⟨p, hp1, hp2, hp3, hp4⟩ := HPL.out (by omega)
              have hfe := HFE.out (by omega)
              rw [hp3] at hfe
              subst hp1
              obtain ⟨b1, o1, hna, hb1, rnd, -⟩ := rowCell8 Nd.len (by decide) (((hA1.below hb).below hbr)) hp2
              have hgle := hgen _ (List.getElem_mem hp2)
              rw [hp4] at hgle
              generalize t.ns[p] = nd at *
              replace c5 := (hbr.cell (p := ⟨w.heap.size, 5, none⟩) hlw).trans ((hb.cell (p := ⟨w.heap.size, 5, none⟩) hlT).trans c5)
              rw [hna] at c5
              have KPo := Lib.hid (fun W => refPost22_any nd W)
              have KT := Lib.hid (fun W => digits22_any ek.gen W hgle.1 hgle.2)
              have hpi0 : (0 : Int) ≤ (p : Int) := Int.natCast_nonneg _
              have hpi1 : (p : Int) < (t.ns.length : Int) := by omega
              have hrk : rowOk 11 (.agg (postN nd).vals.toArray) := ⟨rfl, Post.one _⟩
              have HX := Lib.hid (And.intro hR (And.intro hb (And.intro hnx (And.intro hfe (And.intro hbr hl9)))))
              clear hR hb hnx hfe hA1 hna hp3 hp4 HPL HFE HFN hl9
              go_wp2_with fail
              refine (KPo.out _).mono ?_
              rintro e w7 ⟨rfl, hb7⟩
              have bE7 := bE.stays hb7
              have ht7 : w7.there wr.heap.size 3 11 := bE7.there 3 11 (by rw [Entry.len]; omega)
              go_upto_region 21 with fail
              have bE8 := ent_store ek 3 { ek with attr := postN nd } (postN nd).vals w7 wr.heap.size bE7 rfl
              have hbr8 := puts_below (below_then hbr hb7) (Nat.le_refl _) 3 (postN nd).vals
              generalize putsW w7 wr.heap.size 3 (postN nd).vals = w8 at *
              have cE8 : w8.cell? ⟨wr.heap.size, 0, none⟩ = some (.int .i64 ek.gen) := bE8.cell 0
              clear hb7 bE7 ht7 rnd c5 bE hbr
              go_wp2_with fail
              refine (KT.out _).mono ?_
              rintro e w9 ⟨rfl, hb9⟩
              have bE9 := bE8.stays hb9
              have ht9 : w9.there wr.heap.size 14 1 := bE9.there 14 1 (by rw [Entry.len]; omega)
              generalize hgt : genText ek.gen = gt at *
              go_upto_region 22 with fail
              have bE := ent_store { ek with attr := postN nd } 14 { ek with attr := postN nd, fh := gt } [.string (bs gt)] w9 wr.heap.size bE9 rfl
              have hbr := puts_below (below_then hbr8 hb9) (Nat.le_refl _) 14 [.string (bs gt)]
              generalize putsW w9 wr.heap.size 14 [.string (bs gt)] = w10 at *
              clear hb9 bE9 ht9 bE8 hbr8 cE8
              obtain ⟨hR, hb, hnx, hfe, -, hl9⟩ := HX.out
              obtain ⟨ef, hef⟩ : ∃ x : Entry, x = { ek with attr := postN nd, fh := gt } := ⟨_, rfl⟩
              rw [← hef] at bE hfe
              clear hef
              have hA1 := 0
              have c5 := 0
              have hlT := 0
              obtain ⟨hi, hz, hsize, hby⟩ := HI.out
              have hap := RowS.append (P := Tryz.prog) 45 45 i0 Tryz.underlying45 hi hz hsize hby rfl (by omega) (by omega) (hR.stays hbr) (Nat.le_trans hb.size hbr.size) (ef).vals (Entry.len _) (Entry.one _) (by rw [List.length_map]; omega)
              rw [show (fillL plus t.ns (l.take k)).map Entry.vals ++ [(ef).vals] = (fillL plus t.ns (l.take (k + 1))).map Entry.vals by rw [hnx, List.map_append]; congr 1; simp only [hq, if_true, hfe]; rfl] at hap
              have HAP := Lib.hid hap
              have HS := Lib.hid (And.intro hi (And.intro hz hsize))
              have HB5 := Lib.hid (hb.trans (hbr.mono hb.size))
              have rE : rowOf w10 wr.heap.size 0 15 = some (ef).vals.toArray := bE.row 0 15 (by rw [Entry.len]; omega)
              clear hap hi hz hsize hby hR hb hnx hA1 c5 hlT hbr bE hl9
              go_wp2_with (first
                | (refine wpList_buildSlice_one (by rfl) 45 80 (.tmp 91) (by rfl) (ef).vals (by rfl) Tryz.underlying45 i0 _ HS.out.1 HS.out.2.1 rfl HS.out.2.2 (by rw [Entry.len]; omega) (by rw [Entry.len]; omega) ?_)
                | (refine wpList_append_by (by rfl) (.tmp 90) (.tmp 92) #[45, 45] (by rfl) _ _ (by rfl) (by rfl) HAP.out ?_; rintro v' w' ⟨hR', hb'⟩; have HR2 := Lib.hid hR'; have HB2 := Lib.hid (hb' w3 HB5.out); clear hR' hb')
                | fail)
              go_roundw
              case rel => exact ⟨k + 1, by omega, by go_num, HR2.out, HB2.out⟩
              case measure => simp [intOf]; omega
        · obtain rfl : k = l.length := by omega
          rw [List.take_length] at hR
          obtain ⟨Ao, co, rfl, hAt⟩ := hR.at_
          rw [List.length_map, fillL_len] at *
          replace cG := (hb.cell (p := ⟨w.heap.size + 1 + 1 + 1, 7, none⟩) hlN).trans cG
          replace bR := bR.stays hb
          obtain ⟨z, hz⟩ : ∃ z : Reply, z = { replyZ with verf := n.attr.gen, eof := eof, ea := Ao, en := l.length, ec := co } := ⟨_, rfl⟩
          have HR := Lib.hid (retReply5 (z := z) bR (below_then hB hb))
          have HZ := Lib.hid hz
          have hF : ∀ p, Ao = some p → w3.heap.size ≤ p.block := fun p h => (hR.lt p.block (by rw [h]; rfl)).1
          have HFR := Lib.hid (show FreshR w z from fun p h => by
            rw [hz] at h
            rcases h with h | h
            · exact Nat.le_trans hB.size (hF p h)
            · cases h)
          have HAt := Lib.hid (hAt.farCells (g := w.heap.size + 1 + 1 + 1 + 1) (fun p h => by have := hF p h; omega) 0 z.vals)
          clear hz hAt hF hR hb hB hA1 hP
          go_wp2_with (first | (refine wpList_store_whole (by rfl) 48 _ _ (by rfl) (w.heap.size + 1 + 1 + 1 + 1) z.vals _ bR (by rfl) (by rfl) (by rw [HZ.out]; rfl) (by kernel_rfl) (Reply.one _) ?_) | fail)
          refine ret_cells (w.heap.size + 1 + 1 + 1 + 1) 0 z.vals Tryz.results88 Tryz.underlying48 rfl (by kernel_rfl) rfl HR.out.1.range rfl ?_
          rw [HQ.out]
          have hAt2 := HAt.out
          rw [hpl] at hAt2
          refine ⟨z, rfl, by rw [HZ.out]; rfl, ⟨by rw [HZ.out]; simp [fillL_len], ?_⟩, ⟨by rw [HZ.out]; rfl, At.nil⟩, HR.out.2, HFR.out⟩
          rw [HZ.out] at hAt2 ⊢
          exact hAt2
end Go.Proofs.YtgifmpobokaejaaGreatDoor
