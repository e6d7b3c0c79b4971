/-
  Layer 22, walks: what the document tells by the procedure's number (written by wip/tools/genlookone.py). Conditions: rows of the sizes that a tree has; numbers of nodes are natural.
-/
import Derived.Test.YtgifmpobokaejaaGreatDoorL42
import Derived.Test.YtgifmpobokaejaaGreatDoorL11
import Derived.Test.YtgifmpobokaejaaGreatDoorL27
namespace Go.Proofs.YtgifmpobokaejaaGreatDoor
open Go.RowKit
open Go.RowKit
attribute [local go_sem ↓] Go.wp_at_zero Go.wp_at_succ
attribute [local go_sem] rowAt_ptr rowOf_drew rowOf_drewN rowOf_alloc_past rowOf_new
attribute [local go_sem ↓] ldAsk22 ldNode22 ldCred6 ldAttrR ldTree22 ldCall

/-- results, and whether the procedure reads; rows of the call's own -/
def OneP (d : RepD) (is : Bool) (w : World) (e : Ending) (w' : World) : Prop :=
  ∃ z : Reply, e = .returned (.tuple #[.agg z.vals.toArray, .bool is]) ∧ z.bare = d.f ∧ (z.en = d.es.length ∧ At w' 15 z.ea (d.es.map Entry.vals)) ∧ (z.un = d.us.length ∧ At w' 1 z.ua (d.us.map int1)) ∧ Below w.heap.size w w' ∧ FreshR w z
theorem OneP.plain {r : Reply} {is : Bool} {w w' : World} (h : r.ea = none ∧ r.en = 0 ∧ r.ua = none ∧ r.un = 0) (hB : Below w.heap.size w w') : OneP ⟨r.bare, [], []⟩ is w (.returned (.tuple #[.agg r.vals.toArray, .bool is])) w' :=
  ⟨r, rfl, rfl, ⟨h.2.1, At.nil⟩, ⟨h.2.2.2, At.nil⟩, hB, fun p hp => by rcases hp with hp | hp <;> simp [h.1, h.2.2.1] at hp⟩
theorem OneP.of {d : RepD} {w w0 W : World} {z : Reply} (hf : z.bare = d.f) (he : z.en = d.es.length ∧ At W 15 z.ea (d.es.map Entry.vals)) (hu : z.un = d.us.length ∧ At W 1 z.ua (d.us.map int1)) (hfr : FreshR w0 z) (hg : w.heap.size + 1 + 1 + 1 + 1 < w0.heap.size) (hB : Below w.heap.size w (W.setCells (w.heap.size + 1 + 1 + 1 + 1) 0 z.vals)) :
    OneP d true w (.returned (.tuple #[.agg z.vals.toArray, .bool true])) (W.setCells (w.heap.size + 1 + 1 + 1 + 1) 0 z.vals) :=
  ⟨z, rfl, hf, ⟨he.1, he.2.farCells (fun p hp => Nat.lt_of_lt_of_le hg (hfr p (.inl hp))) _ _⟩, ⟨hu.1, hu.2.farCells (fun p hp => Nat.lt_of_lt_of_le hg (hfr p (.inr hp))) _ _⟩, hB, fun p hp => Nat.le_trans (by omega) (hfr p hp)⟩
/-- the procedures that read, but Null -/
def reads1 (p : Int) : Bool := decide (p = 1 ∨ p = 3 ∨ p = 4 ∨ p = 5 ∨ p = 6 ∨ p = 16 ∨ p = 17 ∨ p = 18 ∨ p = 19 ∨ p = 20 ∨ p = 21)
/-- what the document's walks ask of a tree, and of a node of it -/
structure RefH (w : World) (t : Tr) (n : Nd) (es : List Entry) : Prop where
  at_ : At w 15 t.na (t.ns.map Nd.vals)
  few : small t.ns
  gens : ∀ m ∈ t.ns, 1 ≤ m.attr.gen ∧ m.attr.gen ≤ 9223372036854775807
  lim : 0 ≤ t.lim.space ∧ t.lim.space ≤ 1073741824 ∧ 0 ≤ t.lim.quota ∧ t.lim.quota ≤ 1073741824 ∧ 0 ≤ t.lim.nodes ∧ t.lim.nodes ≤ 64
  en : n.en = es.length
  room : es.length ≤ 70
  names : ∀ x ∈ es, x.name.length ≤ 300
  ents : At w 15 n.ea (es.map Entry.vals)
  data : (dataL n).length ≤ 1048576
theorem RefH.below {w w' : World} {t : Tr} {n : Nd} {es : List Entry} (h : RefH w t n es) (hb : Below w.heap.size w w') : RefH w' t n es := ⟨h.at_.below hb, h.few, h.gens, h.lim, h.en, h.room, h.names, h.ents.below hb, h.data⟩
set_option maxRecDepth 20000 in
set_option maxHeartbeats 6400000 in
theorem refOne_any (t : Tr) (u : Cred) (c : Call) (n : Nd) (es : List Entry) (w : World) (h : RefH w t n es) (hc : c.good) :
    Calls Tryz.prog 35 #[t.val, .agg u.vals.toArray, .agg c.vals.toArray, .agg n.vals.toArray] w (OneP (if reads1 c.proc then askR t u c n es else ⟨fldsZ, [], []⟩) (reads1 c.proc) w) := by
  have hen := h.en
  obtain ⟨bT, bU, bC, bN, bR, hB, hs⟩ := chain5_blks w t.vals u.vals c.vals n.vals replyZ.vals 26 28 34 65 48
  obtain ⟨w1, hw1⟩ : ∃ V, V = ((((w.alloc (.cells t.vals.toArray 26)).alloc (.cells u.vals.toArray 28)).alloc (.cells c.vals.toArray 34)).alloc (.cells n.vals.toArray 65)).alloc (.cells replyZ.vals.toArray 48) := ⟨_, rfl⟩
  rw [← hw1] at bT bU bC bN bR hB hs
  have cT : w1.cell? ⟨w.heap.size + 1 + 1 + 1, 0, none⟩ = some (.int .i64 n.attr.type) := bN.cell 0
  have cE : w1.cell? ⟨w.heap.size + 1 + 1 + 1, 14, none⟩ = some (.slice n.ea es.length n.ec) := by rw [bN.cell 14, ← hen]; rfl
  have c5 : w1.cell? ⟨w.heap.size, 5, none⟩ = some (.slice t.na t.ns.length t.nc) := bT.cell 5
  have rT : rowOf w1 w.heap.size 0 6 = some t.vals.toArray := bT.row 0 6 (by rw [Tr.len]; omega)
  have rU : rowOf w1 (w.heap.size + 1) 0 4 = some u.vals.toArray := bU.row 0 4 (by show _ ≤ 4; omega)
  have rA : rowOf w1 (w.heap.size + 1 + 1 + 1) 0 10 = some n.attr.vals.toArray := bN.row 0 10 (by rw [Nd.len]; omega)
  have hlT := bT.lt
  have hlU := bU.lt
  have hlC := bC.lt
  have hlN := bN.lt
  have hlR := bR.lt
  have HW1 := Lib.hid hw1
  have cP : w1.cell? ⟨w.heap.size + 1 + 1, 0, none⟩ = some (.int .i64 c.proc) := bC.cell 0
  have cO : w1.cell? ⟨w.heap.size + 1 + 1, 5, none⟩ = some (.int .i64 c.offset) := bC.cell 5
  have cC : w1.cell? ⟨w.heap.size + 1 + 1, 6, none⟩ = some (.int .i64 c.count) := bC.cell 6
  have cH : w1.cell? ⟨w.heap.size + 1 + 1, 7, none⟩ = some (.int .i64 c.how) := bC.cell 7
  have cU : w1.cell? ⟨w.heap.size + 1, 2, none⟩ = some (.int .i64 u.uid) := bU.cell 2
  have cD : w1.cell? ⟨w.heap.size + 1 + 1 + 1, 10, none⟩ = some (.string (bs (dataL n))) := by rw [← dataL_is]; exact bN.cell 10
  have rC : rowOf w1 (w.heap.size + 1 + 1) 0 24 = some c.vals.toArray := bC.row 0 24 (by rw [Call.len]; omega)
  have rN : rowOf w1 (w.heap.size + 1 + 1 + 1) 0 15 = some n.vals.toArray := bN.row 0 15 (by rw [Nd.len]; omega)
  have hsz : w.heap.size + 1 + 1 + 1 + 1 < w1.heap.size := bR.lt
  have HH := Lib.hid (h.below hB)
  have HCg := Lib.hid hc
  obtain ⟨D, hD⟩ : ∃ D : RepD, D = if reads1 c.proc then askR t u c n es else ⟨fldsZ, [], []⟩ := ⟨_, rfl⟩
  rw [← hD]
  clear hw1 bT bU bC bN hs h hc hen
  unfold Tr.val
  by_cases hk : c.proc = 1 ∨ c.proc = 3 ∨ c.proc = 4 ∨ c.proc = 5 ∨ c.proc = 6 ∨ c.proc = 16 ∨ c.proc = 17 ∨ c.proc = 18 ∨ c.proc = 19 ∨ c.proc = 20 ∨ c.proc = 21
  · rw [show reads1 c.proc = true from decide_eq_true hk] at hD ⊢
    rw [if_pos rfl] at hD
    rcases hk with hk | hk | hk | hk | hk | hk | hk | hk | hk | hk | hk
    · have HD := Lib.hid (show D = ⟨replyZ.bare, [], []⟩ by rw [hD]; unfold askR; simp only [hk]; rfl)
      rw [hk] at cP
      clear hD hk
      obtain ⟨z, hz⟩ : ∃ z : Reply, z = replyZ := ⟨_, rfl⟩
      have HZ := Lib.hid hz
      have HP := Lib.hid (fun W (hB : Below w.heap.size w W) => (show OneP D true w (.returned (.tuple #[.agg z.vals.toArray, .bool true])) W by rw [HD.out, hz]; exact OneP.plain ⟨rfl, rfl, rfl, rfl⟩ hB))
      clear hz
      have HR := Lib.hid (retReply5 (z := z) bR hB)
      go_enter Tryz.func35, Tryz.ntmps35
      go_upto_region 1 with fail
      change Code.wp _ _ _ _ (((((w.alloc (.cells t.vals.toArray 26)).alloc (.cells u.vals.toArray 28)).alloc (.cells c.vals.toArray 34)).alloc (.cells n.vals.toArray 65)).alloc (.cells replyZ.vals.toArray 48))
      rw [← HW1.out]
      go_wp2_with (first | (refine wpList_store_whole (by rfl) 48 _ _ (by rfl) (w.heap.size + 1 + 1 + 1 + 1) z.vals _ bR (by rfl) (by rfl) (by first | rfl | (rw [HZ.out]; done) | (rw [HZ.out]; rfl)) (by kernel_rfl) (Reply.one _) ?_) | fail)
      exact ret_cells2 (w.heap.size + 1 + 1 + 1 + 1) 0 z.vals (.bool true) Tryz.results35 Tryz.underlying48 rfl (by kernel_rfl) rfl rfl HR.out.1.range rfl (HP.out _ HR.out.2)
    · have HD := Lib.hid (show D = ⟨(lookupR t.ns u c n es).bare, [], []⟩ by rw [hD]; unfold askR; simp only [hk]; rfl)
      rw [hk] at cP
      clear hD hk
      have K := Lib.hid (fun W (hb : Below w1.heap.size w1 W) => refLookup_any t u c n es W (Nat.le_trans HH.out.few.1 (by omega)) (HH.out.at_.below hb) HH.out.gens HH.out.en (Nat.le_trans HH.out.room (by omega)) (HH.out.ents.below hb) HCg.out.2.2.1)
      unfold Tr.val at K
      have hpl := plain_lookupR t.ns u c n es
      generalize lookupR t.ns u c n es = r at *
      go_enter Tryz.func35, Tryz.ntmps35
      go_upto_region 1 with fail
      change Code.wp _ _ _ _ (((((w.alloc (.cells t.vals.toArray 26)).alloc (.cells u.vals.toArray 28)).alloc (.cells c.vals.toArray 34)).alloc (.cells n.vals.toArray 65)).alloc (.cells replyZ.vals.toArray 48))
      rw [← HW1.out]
      go_wp2_with fail
      refine (K.out _ (Below.refl _ _)).mono ?_
      rintro e w2 ⟨rfl, hb⟩
      replace bR := bR.stays hb
      replace hB := below_then hB hb
      obtain ⟨z, hz⟩ : ∃ z : Reply, z = r := ⟨_, rfl⟩
      have HZ := Lib.hid hz
      have HP := Lib.hid (fun W (hB : Below w.heap.size w W) => (show OneP D true w (.returned (.tuple #[.agg z.vals.toArray, .bool true])) W by rw [HD.out, hz]; exact OneP.plain hpl hB))
      clear hz
      obtain rfl := HZ.out
      have HR := Lib.hid (retReply5 (z := z) bR hB)
      go_wp2_with (first | (refine wpList_store_whole (by rfl) 48 _ _ (by rfl) (w.heap.size + 1 + 1 + 1 + 1) z.vals _ bR (by rfl) (by rfl) (by first | rfl | (rw [HZ.out]; done) | (rw [HZ.out]; rfl)) (by kernel_rfl) (Reply.one _) ?_) | fail)
      exact ret_cells2 (w.heap.size + 1 + 1 + 1 + 1) 0 z.vals (.bool true) Tryz.results35 Tryz.underlying48 rfl (by kernel_rfl) rfl rfl HR.out.1.range rfl (HP.out _ HR.out.2)
    · have HD := Lib.hid (show D = ⟨({ replyZ with access := accP n.attr u.uid u.gid c.how } : Reply).bare, [], []⟩ by rw [hD]; unfold askR; simp only [hk]; rfl)
      rw [hk] at cP
      clear hD hk
      have K := Lib.hid (fun W => refAccess6_any n.attr u c.how W)
      generalize accP n.attr u.uid u.gid c.how = ac at *
      obtain ⟨z, hz⟩ : ∃ z : Reply, z = ({ replyZ with access := ac } : Reply) := ⟨_, rfl⟩
      have HZ := Lib.hid hz
      have HP := Lib.hid (fun W (hB : Below w.heap.size w W) => (show OneP D true w (.returned (.tuple #[.agg z.vals.toArray, .bool true])) W by rw [HD.out, hz]; exact OneP.plain ⟨rfl, rfl, rfl, rfl⟩ hB))
      clear hz
      go_enter Tryz.func35, Tryz.ntmps35
      go_upto_region 1 with fail
      change Code.wp _ _ _ _ (((((w.alloc (.cells t.vals.toArray 26)).alloc (.cells u.vals.toArray 28)).alloc (.cells c.vals.toArray 34)).alloc (.cells n.vals.toArray 65)).alloc (.cells replyZ.vals.toArray 48))
      rw [← HW1.out]
      go_wp2_with fail
      refine (K.out _).mono ?_
      rintro e w2 ⟨rfl, hb⟩
      replace bR := bR.stays hb
      replace hB := below_then hB hb
      have HR := Lib.hid (retReply5 (z := z) bR hB)
      go_wp2_with (first | (refine wpList_store_whole (by rfl) 48 _ _ (by rfl) (w.heap.size + 1 + 1 + 1 + 1) z.vals _ bR (by rfl) (by rfl) (by first | rfl | (rw [HZ.out]; done) | (rw [HZ.out]; rfl)) (by kernel_rfl) (Reply.one _) ?_) | fail)
      exact ret_cells2 (w.heap.size + 1 + 1 + 1 + 1) 0 z.vals (.bool true) Tryz.results35 Tryz.underlying48 rfl (by kernel_rfl) rfl rfl HR.out.1.range rfl (HP.out _ HR.out.2)
    · have HD := Lib.hid (show D = ⟨(linkR n).bare, [], []⟩ by rw [hD]; unfold askR; simp only [hk]; rfl)
      rw [hk] at cP
      clear hD hk
      have HL := Lib.hid (show linkR n = if n.attr.type = 5 then { replyZ with data := dataL n } else statR 22 from rfl)
      generalize linkR n = lr at *
      generalize dataL n = d at *
      by_cases h5 : n.attr.type = 5
      · have h5' : (n.attr.type != 5) = false := by simp [h5]
        replace HD := Lib.hid (HD.out.trans (by rw [HL.out, if_pos h5]) : D = ⟨({ replyZ with data := d } : Reply).bare, [], []⟩)
        obtain ⟨z, hz⟩ : ∃ z : Reply, z = ({ replyZ with data := d } : Reply) := ⟨_, rfl⟩
        have HZ := Lib.hid hz
        have HP := Lib.hid (fun W (hB : Below w.heap.size w W) => (show OneP D true w (.returned (.tuple #[.agg z.vals.toArray, .bool true])) W by rw [HD.out, hz]; exact OneP.plain ⟨rfl, rfl, rfl, rfl⟩ hB))
        clear hz
        have HR := Lib.hid (retReply5 (z := z) bR hB)
        go_enter Tryz.func35, Tryz.ntmps35
        go_upto_region 1 with fail
        change Code.wp _ _ _ _ (((((w.alloc (.cells t.vals.toArray 26)).alloc (.cells u.vals.toArray 28)).alloc (.cells c.vals.toArray 34)).alloc (.cells n.vals.toArray 65)).alloc (.cells replyZ.vals.toArray 48))
        rw [← HW1.out]
        go_wp2_with (first | (refine wpList_store_whole (by rfl) 48 _ _ (by rfl) (w.heap.size + 1 + 1 + 1 + 1) z.vals _ bR (by rfl) (by rfl) (by first | rfl | (rw [HZ.out]; done) | (rw [HZ.out]; rfl)) (by kernel_rfl) (Reply.one _) ?_) | fail)
        exact ret_cells2 (w.heap.size + 1 + 1 + 1 + 1) 0 z.vals (.bool true) Tryz.results35 Tryz.underlying48 rfl (by kernel_rfl) rfl rfl HR.out.1.range rfl (HP.out _ HR.out.2)
      · have h5' : (n.attr.type != 5) = true := by simp [h5]
        replace HD := Lib.hid (HD.out.trans (by rw [HL.out, if_neg h5]) : D = ⟨(statR 22).bare, [], []⟩)
        go_enter Tryz.func35, Tryz.ntmps35
        go_upto_region 1 with fail
        change Code.wp _ _ _ _ (((((w.alloc (.cells t.vals.toArray 26)).alloc (.cells u.vals.toArray 28)).alloc (.cells c.vals.toArray 34)).alloc (.cells n.vals.toArray 65)).alloc (.cells replyZ.vals.toArray 48))
        rw [← HW1.out]
        obtain ⟨z, hz⟩ : ∃ z : Reply, z = statR 22 := ⟨_, rfl⟩
        have HZ := Lib.hid hz
        have HP := Lib.hid (fun W (hB : Below w.heap.size w W) => (show OneP D true w (.returned (.tuple #[.agg z.vals.toArray, .bool true])) W by rw [HD.out, hz]; exact OneP.plain ⟨rfl, rfl, rfl, rfl⟩ hB))
        clear hz
        go_wp2_with fail
        refine (refBad_any 22 _).mono ?_
        rintro e wz ⟨rfl, hbz⟩
        have HR := Lib.hid (retReply5 (z := z) (bR.stays hbz) (below_then hB hbz))
        replace bR := bR.stays hbz
        clear hbz
        go_wp2_with (first | (refine wpList_store_whole (by rfl) 48 _ _ (by rfl) (w.heap.size + 1 + 1 + 1 + 1) z.vals _ bR (by rfl) (by rfl) (by first | rfl | (rw [HZ.out]; done) | (rw [HZ.out]; rfl)) (by kernel_rfl) (Reply.one _) ?_) | fail)
        exact ret_cells2 (w.heap.size + 1 + 1 + 1 + 1) 0 z.vals (.bool true) Tryz.results35 Tryz.underlying48 rfl (by kernel_rfl) rfl rfl HR.out.1.range rfl (HP.out _ HR.out.2)
    · have HD := Lib.hid (show D = ⟨(readR n u c).bare, [], []⟩ by rw [hD]; unfold askR; simp only [hk]; rfl)
      rw [hk] at cP
      clear hD hk
      have K := Lib.hid (fun W => refFile_any u n 4 W (.inr (.inr (.inr rfl))))
      have KR := Lib.hid (fun W => refRead_any (dataL n) c.offset c.count W HH.out.data (Go.bounds_i64 HCg.out.2.2.2.2.2.1) (Go.bounds_i64 HCg.out.2.2.2.2.2.2.1))
      have HL := Lib.hid (show readR n u c = if fileSt n u 4 = 0 then { replyZ with data := (nRead (dataL n) c.offset c.count).1, eof := (nRead (dataL n) c.offset c.count).2 } else statR (fileSt n u 4) from rfl)
      generalize readR n u c = lr at *
      generalize nRead (dataL n) c.offset c.count = rd at *
      generalize dataL n = d at *
      generalize hst : fileSt n u 4 = st at *
      by_cases h0 : st = 0
      · subst h0
        replace HD := Lib.hid (HD.out.trans (by rw [HL.out, if_pos rfl]) : D = ⟨(({ replyZ with data := rd.1, eof := rd.2 } : Reply)).bare, [], []⟩)
        go_enter Tryz.func35, Tryz.ntmps35
        go_upto_region 1 with fail
        change Code.wp _ _ _ _ (((((w.alloc (.cells t.vals.toArray 26)).alloc (.cells u.vals.toArray 28)).alloc (.cells c.vals.toArray 34)).alloc (.cells n.vals.toArray 65)).alloc (.cells replyZ.vals.toArray 48))
        rw [← HW1.out]
        go_wp2_with fail
        refine (K.out _).mono ?_
        rintro e w2 ⟨rfl, hb⟩
        replace cD := (hb.cell (p := ⟨w.heap.size + 1 + 1 + 1, 10, none⟩) hlN).trans cD
        replace cO := (hb.cell (p := ⟨w.heap.size + 1 + 1, 5, none⟩) hlC).trans cO
        replace cC := (hb.cell (p := ⟨w.heap.size + 1 + 1, 6, none⟩) hlC).trans cC
        replace bR := bR.stays hb
        replace hB := below_then hB hb
        clear hb
        go_wp2_with fail
        refine (KR.out _).mono ?_
        rintro e w3 ⟨rfl, hb⟩
        replace bR := bR.stays hb
        replace hB := below_then hB hb
        clear hb
        obtain ⟨z, hz⟩ : ∃ z : Reply, z = ({ replyZ with data := rd.1, eof := rd.2 } : Reply) := ⟨_, rfl⟩
        have HZ := Lib.hid hz
        have HP := Lib.hid (fun W (hB : Below w.heap.size w W) => (show OneP D true w (.returned (.tuple #[.agg z.vals.toArray, .bool true])) W by rw [HD.out, hz]; exact OneP.plain ⟨rfl, rfl, rfl, rfl⟩ hB))
        clear hz
        have HR := Lib.hid (retReply5 (z := z) bR hB)
        go_wp2_with (first | (refine wpList_store_whole (by rfl) 48 _ _ (by rfl) (w.heap.size + 1 + 1 + 1 + 1) z.vals _ bR (by rfl) (by rfl) (by first | rfl | (rw [HZ.out]; done) | (rw [HZ.out]; rfl)) (by kernel_rfl) (Reply.one _) ?_) | fail)
        exact ret_cells2 (w.heap.size + 1 + 1 + 1 + 1) 0 z.vals (.bool true) Tryz.results35 Tryz.underlying48 rfl (by kernel_rfl) rfl rfl HR.out.1.range rfl (HP.out _ HR.out.2)
      · have h0' : (st != 0) = true := by simpa using h0
        replace HD := Lib.hid (HD.out.trans (by rw [HL.out, if_neg h0]) : D = ⟨(statR st).bare, [], []⟩)
        go_enter Tryz.func35, Tryz.ntmps35
        go_upto_region 1 with fail
        change Code.wp _ _ _ _ (((((w.alloc (.cells t.vals.toArray 26)).alloc (.cells u.vals.toArray 28)).alloc (.cells c.vals.toArray 34)).alloc (.cells n.vals.toArray 65)).alloc (.cells replyZ.vals.toArray 48))
        rw [← HW1.out]
        go_wp2_with fail
        refine (K.out _).mono ?_
        rintro e w2 ⟨rfl, hb⟩
        replace bR := bR.stays hb
        replace hB := below_then hB hb
        clear hb
        obtain ⟨z, hz⟩ : ∃ z : Reply, z = statR st := ⟨_, rfl⟩
        have HZ := Lib.hid hz
        have HP := Lib.hid (fun W (hB : Below w.heap.size w W) => (show OneP D true w (.returned (.tuple #[.agg z.vals.toArray, .bool true])) W by rw [HD.out, hz]; exact OneP.plain ⟨rfl, rfl, rfl, rfl⟩ hB))
        clear hz
        go_wp2_with fail
        refine (refBad_any st _).mono ?_
        rintro e wz ⟨rfl, hbz⟩
        have HR := Lib.hid (retReply5 (z := z) (bR.stays hbz) (below_then hB hbz))
        replace bR := bR.stays hbz
        clear hbz
        go_wp2_with (first | (refine wpList_store_whole (by rfl) 48 _ _ (by rfl) (w.heap.size + 1 + 1 + 1 + 1) z.vals _ bR (by rfl) (by rfl) (by first | rfl | (rw [HZ.out]; done) | (rw [HZ.out]; rfl)) (by kernel_rfl) (Reply.one _) ?_) | fail)
        exact ret_cells2 (w.heap.size + 1 + 1 + 1 + 1) 0 z.vals (.bool true) Tryz.results35 Tryz.underlying48 rfl (by kernel_rfl) rfl rfl HR.out.1.range rfl (HP.out _ HR.out.2)
    · have HD := Lib.hid (show D = listR t.ns u c n es false by rw [hD]; unfold askR; simp only [hk]; rfl)
      rw [hk] at cP
      clear hD hk
      have K := Lib.hid (fun W (hb : Below w1.heap.size w1 W) => refList_any t u c n es false W (Nat.le_trans HH.out.few.1 (by omega)) (HH.out.at_.below hb) HH.out.gens HH.out.en HH.out.room HH.out.names (HH.out.ents.below hb) (Go.bounds_i64 HCg.out.2.2.2.2.2.2.1))
      unfold Tr.val at K
      generalize listR t.ns u c n es false = lr at *
      go_enter Tryz.func35, Tryz.ntmps35
      go_upto_region 1 with fail
      change Code.wp _ _ _ _ (((((w.alloc (.cells t.vals.toArray 26)).alloc (.cells u.vals.toArray 28)).alloc (.cells c.vals.toArray 34)).alloc (.cells n.vals.toArray 65)).alloc (.cells replyZ.vals.toArray 48))
      rw [← HW1.out]
      go_wp2_with fail
      refine (K.out _ (Below.refl _ _)).mono ?_
      rintro e w2 ⟨z, rfl, hf, he, hu, hb, hfr⟩
      replace bR := bR.stays hb
      replace hB := below_then hB hb
      clear hb
      have HE := Lib.hid (And.intro hf (And.intro he (And.intro hu hfr)))
      have HR := Lib.hid (retReply5 (z := z) bR hB)
      clear hf he hu hfr
      go_wp2_with (first | (refine wpList_store_whole (by rfl) 48 _ _ (by rfl) (w.heap.size + 1 + 1 + 1 + 1) z.vals _ bR (by rfl) (by rfl) (by first | rfl | (rw [HZ.out]; rfl)) (by kernel_rfl) (Reply.one _) ?_) | fail)
      refine ret_cells2 (w.heap.size + 1 + 1 + 1 + 1) 0 z.vals (.bool true) Tryz.results35 Tryz.underlying48 rfl (by kernel_rfl) rfl rfl HR.out.1.range rfl ?_
      rw [HD.out]
      exact OneP.of HE.out.1 HE.out.2.1 HE.out.2.2.1 HE.out.2.2.2 hsz HR.out.2
    · have HD := Lib.hid (show D = listR t.ns u c n es true by rw [hD]; unfold askR; simp only [hk]; rfl)
      rw [hk] at cP
      clear hD hk
      have K := Lib.hid (fun W (hb : Below w1.heap.size w1 W) => refList_any t u c n es true W (Nat.le_trans HH.out.few.1 (by omega)) (HH.out.at_.below hb) HH.out.gens HH.out.en HH.out.room HH.out.names (HH.out.ents.below hb) (Go.bounds_i64 HCg.out.2.2.2.2.2.2.1))
      unfold Tr.val at K
      generalize listR t.ns u c n es true = lr at *
      go_enter Tryz.func35, Tryz.ntmps35
      go_upto_region 1 with fail
      change Code.wp _ _ _ _ (((((w.alloc (.cells t.vals.toArray 26)).alloc (.cells u.vals.toArray 28)).alloc (.cells c.vals.toArray 34)).alloc (.cells n.vals.toArray 65)).alloc (.cells replyZ.vals.toArray 48))
      rw [← HW1.out]
      go_wp2_with fail
      refine (K.out _ (Below.refl _ _)).mono ?_
      rintro e w2 ⟨z, rfl, hf, he, hu, hb, hfr⟩
      replace bR := bR.stays hb
      replace hB := below_then hB hb
      clear hb
      have HE := Lib.hid (And.intro hf (And.intro he (And.intro hu hfr)))
      have HR := Lib.hid (retReply5 (z := z) bR hB)
      clear hf he hu hfr
      go_wp2_with (first | (refine wpList_store_whole (by rfl) 48 _ _ (by rfl) (w.heap.size + 1 + 1 + 1 + 1) z.vals _ bR (by rfl) (by rfl) (by first | rfl | (rw [HZ.out]; rfl)) (by kernel_rfl) (Reply.one _) ?_) | fail)
      refine ret_cells2 (w.heap.size + 1 + 1 + 1 + 1) 0 z.vals (.bool true) Tryz.results35 Tryz.underlying48 rfl (by kernel_rfl) rfl rfl HR.out.1.range rfl ?_
      rw [HD.out]
      exact OneP.of HE.out.1 HE.out.2.1 HE.out.2.2.1 HE.out.2.2.2 hsz HR.out.2
    · have HD := Lib.hid (show D = ⟨fldsZ, [], nums t u.uid⟩ by rw [hD]; unfold askR; simp only [hk]; rfl)
      rw [hk] at cP
      clear hD hk
      have K := Lib.hid (fun W (hb : Below w1.heap.size w1 W) => refNumsF_any t u.uid W HH.out.few HH.out.lim (HH.out.at_.below hb))
      unfold Tr.val at K
      generalize nums t u.uid = l at *
      go_enter Tryz.func35, Tryz.ntmps35
      go_upto_region 1 with fail
      change Code.wp _ _ _ _ (((((w.alloc (.cells t.vals.toArray 26)).alloc (.cells u.vals.toArray 28)).alloc (.cells c.vals.toArray 34)).alloc (.cells n.vals.toArray 65)).alloc (.cells replyZ.vals.toArray 48))
      rw [← HW1.out]
      go_wp2_with fail
      refine (K.out _ (Below.refl _ _)).mono ?_
      rintro e w2 ⟨A, cp, rfl, hAt, hb, hF⟩
      replace bR := bR.stays hb
      replace hB := below_then hB hb
      obtain ⟨z, hz⟩ : ∃ z : Reply, z = { replyZ with ua := A, un := l.length, uc := cp } := ⟨_, rfl⟩
      have HZ := Lib.hid hz
      have hf : z.bare = fldsZ := by rw [hz]; rfl
      have he : z.en = ([] : List Entry).length ∧ At w2 15 z.ea (([] : List Entry).map Entry.vals) := ⟨by rw [hz]; rfl, At.nil⟩
      have hu : z.un = l.length ∧ At w2 1 z.ua (l.map int1) := ⟨by rw [hz], by rw [hz]; exact hAt⟩
      have hfr : FreshR w1 z := fun p h => by
        rw [hz] at h
        rcases h with h | h
        · cases h
        · exact hF p h
      clear hb hz hAt hF
      have HE := Lib.hid (And.intro hf (And.intro he (And.intro hu hfr)))
      have HR := Lib.hid (retReply5 (z := z) bR hB)
      clear hf he hu hfr
      go_wp2_with (first | (refine wpList_store_whole (by rfl) 48 _ _ (by rfl) (w.heap.size + 1 + 1 + 1 + 1) z.vals _ bR (by rfl) (by rfl) (by first | rfl | (rw [HZ.out]; rfl)) (by kernel_rfl) (Reply.one _) ?_) | fail)
      refine ret_cells2 (w.heap.size + 1 + 1 + 1 + 1) 0 z.vals (.bool true) Tryz.results35 Tryz.underlying48 rfl (by kernel_rfl) rfl rfl HR.out.1.range rfl ?_
      rw [HD.out]
      exact OneP.of HE.out.1 HE.out.2.1 HE.out.2.2.1 HE.out.2.2.2 hsz HR.out.2
    · have HD := Lib.hid (show D = ⟨fldsZ, [], [256, 256, 1024, 1024]⟩ by rw [hD]; unfold askR; simp only [hk]; rfl)
      rw [hk] at cP
      clear hD hk
      have hx := (Below.refl w1.heap.size w1).alloc (Nat.le_refl _) (.cells (#[.int .i64 256, .int .i64 256, .int .i64 1024, .int .i64 1024] : Array Value) 3)
      have hAt : At (w1.alloc (.cells (#[.int .i64 256, .int .i64 256, .int .i64 1024, .int .i64 1024] : Array Value) 3)) 1 (some ⟨w1.heap.size, 0, none⟩) (([256, 256, 1024, 1024] : List Int).map int1) := At.fresh w1 3 1 w1.heap.size (([256, 256, 1024, 1024] : List Int).map int1) (by intro r hr; simp only [List.map_cons, List.map_nil, List.mem_cons, List.not_mem_nil, or_false] at hr; rcases hr with rfl | rfl | rfl | rfl <;> rfl) rfl
      obtain ⟨w2, hw2⟩ : ∃ V, V = w1.alloc (.cells (#[.int .i64 256, .int .i64 256, .int .i64 1024, .int .i64 1024] : Array Value) 3) := ⟨_, rfl⟩
      rw [← hw2] at hx hAt
      replace bR := bR.stays hx
      replace hB := below_then hB hx
      have HW2 := Lib.hid hw2
      obtain ⟨z, hz⟩ : ∃ z : Reply, z = { replyZ with ua := some ⟨w1.heap.size, 0, none⟩, un := 4, uc := 4 } := ⟨_, rfl⟩
      have HZ := Lib.hid hz
      have hf : z.bare = fldsZ := by rw [hz]; rfl
      have he : z.en = ([] : List Entry).length ∧ At w2 15 z.ea (([] : List Entry).map Entry.vals) := ⟨by rw [hz]; rfl, At.nil⟩
      have hu : z.un = ([256, 256, 1024, 1024] : List Int).length ∧ At w2 1 z.ua (([256, 256, 1024, 1024] : List Int).map int1) := ⟨by rw [hz]; rfl, by rw [hz]; exact hAt⟩
      have hfr : FreshR w1 z := fun p h => by
        rw [hz] at h
        rcases h with h | h
        · cases h
        · injection h with h
          subst h
          exact Nat.le_refl _
      have HE := Lib.hid (And.intro hf (And.intro he (And.intro hu hfr)))
      have HR := Lib.hid (retReply5 (z := z) bR hB)
      clear hf he hu hfr hz hAt hx hw2
      go_enter Tryz.func35, Tryz.ntmps35
      go_upto_region 1 with fail
      change Code.wp _ _ _ _ (((((w.alloc (.cells t.vals.toArray 26)).alloc (.cells u.vals.toArray 28)).alloc (.cells c.vals.toArray 34)).alloc (.cells n.vals.toArray 65)).alloc (.cells replyZ.vals.toArray 48))
      rw [← HW1.out]
      rw [HW2.out] at bR
      go_wp2_with (first | (refine wpList_store_whole (by rfl) 48 _ _ (by rfl) (w.heap.size + 1 + 1 + 1 + 1) z.vals _ bR (by rfl) (by rfl) (by rw [HZ.out]; rfl) (by kernel_rfl) (Reply.one _) ?_; rw [← HW2.out]) | fail)
      refine ret_cells2 (w.heap.size + 1 + 1 + 1 + 1) 0 z.vals (.bool true) Tryz.results35 Tryz.underlying48 rfl (by kernel_rfl) rfl rfl HR.out.1.range rfl ?_
      rw [HD.out]
      exact OneP.of HE.out.1 HE.out.2.1 HE.out.2.2.1 HE.out.2.2.2 hsz HR.out.2
    · have HD := Lib.hid (show D = ⟨fldsZ, [], [8, 24, 48]⟩ by rw [hD]; unfold askR; simp only [hk]; rfl)
      rw [hk] at cP
      clear hD hk
      have hx := (Below.refl w1.heap.size w1).alloc (Nat.le_refl _) (.cells (#[.int .i64 8, .int .i64 24, .int .i64 48] : Array Value) 3)
      have hAt : At (w1.alloc (.cells (#[.int .i64 8, .int .i64 24, .int .i64 48] : Array Value) 3)) 1 (some ⟨w1.heap.size, 0, none⟩) (([8, 24, 48] : List Int).map int1) := At.fresh w1 3 1 w1.heap.size (([8, 24, 48] : List Int).map int1) (by intro r hr; simp only [List.map_cons, List.map_nil, List.mem_cons, List.not_mem_nil, or_false] at hr; rcases hr with rfl | rfl | rfl <;> rfl) rfl
      obtain ⟨w2, hw2⟩ : ∃ V, V = w1.alloc (.cells (#[.int .i64 8, .int .i64 24, .int .i64 48] : Array Value) 3) := ⟨_, rfl⟩
      rw [← hw2] at hx hAt
      replace bR := bR.stays hx
      replace hB := below_then hB hx
      have HW2 := Lib.hid hw2
      obtain ⟨z, hz⟩ : ∃ z : Reply, z = { replyZ with ua := some ⟨w1.heap.size, 0, none⟩, un := 3, uc := 3 } := ⟨_, rfl⟩
      have HZ := Lib.hid hz
      have hf : z.bare = fldsZ := by rw [hz]; rfl
      have he : z.en = ([] : List Entry).length ∧ At w2 15 z.ea (([] : List Entry).map Entry.vals) := ⟨by rw [hz]; rfl, At.nil⟩
      have hu : z.un = ([8, 24, 48] : List Int).length ∧ At w2 1 z.ua (([8, 24, 48] : List Int).map int1) := ⟨by rw [hz]; rfl, by rw [hz]; exact hAt⟩
      have hfr : FreshR w1 z := fun p h => by
        rw [hz] at h
        rcases h with h | h
        · cases h
        · injection h with h
          subst h
          exact Nat.le_refl _
      have HE := Lib.hid (And.intro hf (And.intro he (And.intro hu hfr)))
      have HR := Lib.hid (retReply5 (z := z) bR hB)
      clear hf he hu hfr hz hAt hx hw2
      go_enter Tryz.func35, Tryz.ntmps35
      go_upto_region 1 with fail
      change Code.wp _ _ _ _ (((((w.alloc (.cells t.vals.toArray 26)).alloc (.cells u.vals.toArray 28)).alloc (.cells c.vals.toArray 34)).alloc (.cells n.vals.toArray 65)).alloc (.cells replyZ.vals.toArray 48))
      rw [← HW1.out]
      rw [HW2.out] at bR
      go_wp2_with (first | (refine wpList_store_whole (by rfl) 48 _ _ (by rfl) (w.heap.size + 1 + 1 + 1 + 1) z.vals _ bR (by rfl) (by rfl) (by rw [HZ.out]; rfl) (by kernel_rfl) (Reply.one _) ?_; rw [← HW2.out]) | fail)
      refine ret_cells2 (w.heap.size + 1 + 1 + 1 + 1) 0 z.vals (.bool true) Tryz.results35 Tryz.underlying48 rfl (by kernel_rfl) rfl rfl HR.out.1.range rfl ?_
      rw [HD.out]
      exact OneP.of HE.out.1 HE.out.2.1 HE.out.2.2.1 HE.out.2.2.2 hsz HR.out.2
    · have HD := Lib.hid (show D = ⟨(commitR n u).bare, [], []⟩ by rw [hD]; unfold askR; simp only [hk]; rfl)
      rw [hk] at cP
      clear hD hk
      have K := Lib.hid (fun W => refFile_any u n 2 W (.inr (.inl rfl)))
      have HL := Lib.hid (show commitR n u = if fileSt n u 2 = 0 then { replyZ with verf := 1 } else statR (fileSt n u 2) from rfl)
      generalize commitR n u = lr at *
      generalize hst : fileSt n u 2 = st at *
      by_cases h0 : st = 0
      · subst h0
        replace HD := Lib.hid (HD.out.trans (by rw [HL.out, if_pos rfl]) : D = ⟨(({ replyZ with verf := 1 } : Reply)).bare, [], []⟩)
        go_enter Tryz.func35, Tryz.ntmps35
        go_upto_region 1 with fail
        change Code.wp _ _ _ _ (((((w.alloc (.cells t.vals.toArray 26)).alloc (.cells u.vals.toArray 28)).alloc (.cells c.vals.toArray 34)).alloc (.cells n.vals.toArray 65)).alloc (.cells replyZ.vals.toArray 48))
        rw [← HW1.out]
        go_wp2_with fail
        refine (K.out _).mono ?_
        rintro e w2 ⟨rfl, hb⟩
        replace cD := (hb.cell (p := ⟨w.heap.size + 1 + 1 + 1, 10, none⟩) hlN).trans cD
        replace cO := (hb.cell (p := ⟨w.heap.size + 1 + 1, 5, none⟩) hlC).trans cO
        replace cC := (hb.cell (p := ⟨w.heap.size + 1 + 1, 6, none⟩) hlC).trans cC
        replace bR := bR.stays hb
        replace hB := below_then hB hb
        clear hb
        obtain ⟨z, hz⟩ : ∃ z : Reply, z = ({ replyZ with verf := 1 } : Reply) := ⟨_, rfl⟩
        have HZ := Lib.hid hz
        have HP := Lib.hid (fun W (hB : Below w.heap.size w W) => (show OneP D true w (.returned (.tuple #[.agg z.vals.toArray, .bool true])) W by rw [HD.out, hz]; exact OneP.plain ⟨rfl, rfl, rfl, rfl⟩ hB))
        clear hz
        have HR := Lib.hid (retReply5 (z := z) bR hB)
        go_wp2_with (first | (refine wpList_store_whole (by rfl) 48 _ _ (by rfl) (w.heap.size + 1 + 1 + 1 + 1) z.vals _ bR (by rfl) (by rfl) (by first | rfl | (rw [HZ.out]; done) | (rw [HZ.out]; rfl)) (by kernel_rfl) (Reply.one _) ?_) | fail)
        exact ret_cells2 (w.heap.size + 1 + 1 + 1 + 1) 0 z.vals (.bool true) Tryz.results35 Tryz.underlying48 rfl (by kernel_rfl) rfl rfl HR.out.1.range rfl (HP.out _ HR.out.2)
      · have h0' : (st != 0) = true := by simpa using h0
        replace HD := Lib.hid (HD.out.trans (by rw [HL.out, if_neg h0]) : D = ⟨(statR st).bare, [], []⟩)
        go_enter Tryz.func35, Tryz.ntmps35
        go_upto_region 1 with fail
        change Code.wp _ _ _ _ (((((w.alloc (.cells t.vals.toArray 26)).alloc (.cells u.vals.toArray 28)).alloc (.cells c.vals.toArray 34)).alloc (.cells n.vals.toArray 65)).alloc (.cells replyZ.vals.toArray 48))
        rw [← HW1.out]
        go_wp2_with fail
        refine (K.out _).mono ?_
        rintro e w2 ⟨rfl, hb⟩
        replace bR := bR.stays hb
        replace hB := below_then hB hb
        clear hb
        obtain ⟨z, hz⟩ : ∃ z : Reply, z = statR st := ⟨_, rfl⟩
        have HZ := Lib.hid hz
        have HP := Lib.hid (fun W (hB : Below w.heap.size w W) => (show OneP D true w (.returned (.tuple #[.agg z.vals.toArray, .bool true])) W by rw [HD.out, hz]; exact OneP.plain ⟨rfl, rfl, rfl, rfl⟩ hB))
        clear hz
        go_wp2_with fail
        refine (refBad_any st _).mono ?_
        rintro e wz ⟨rfl, hbz⟩
        have HR := Lib.hid (retReply5 (z := z) (bR.stays hbz) (below_then hB hbz))
        replace bR := bR.stays hbz
        clear hbz
        go_wp2_with (first | (refine wpList_store_whole (by rfl) 48 _ _ (by rfl) (w.heap.size + 1 + 1 + 1 + 1) z.vals _ bR (by rfl) (by rfl) (by first | rfl | (rw [HZ.out]; done) | (rw [HZ.out]; rfl)) (by kernel_rfl) (Reply.one _) ?_) | fail)
        exact ret_cells2 (w.heap.size + 1 + 1 + 1 + 1) 0 z.vals (.bool true) Tryz.results35 Tryz.underlying48 rfl (by kernel_rfl) rfl rfl HR.out.1.range rfl (HP.out _ HR.out.2)
  · rw [show reads1 c.proc = false from decide_eq_false hk] at hD ⊢
    have HD := Lib.hid (hD.trans (if_neg (by simp)) : D = ⟨replyZ.bare, [], []⟩)
    obtain ⟨h1, h3, h4, h5, h6, h16, h17, h18, h19, h20, h21⟩ : (c.proc == 1) = false ∧ (c.proc == 3) = false ∧ (c.proc == 4) = false ∧ (c.proc == 5) = false ∧ (c.proc == 6) = false ∧ (c.proc == 16) = false ∧ (c.proc == 17) = false ∧ (c.proc == 18) = false ∧ (c.proc == 19) = false ∧ (c.proc == 20) = false ∧ (c.proc == 21) = false := by
      simp only [beq_eq_false_iff_ne, ne_eq]
      omega
    clear hk hD
    obtain ⟨z, hz⟩ : ∃ z : Reply, z = replyZ := ⟨_, rfl⟩
    have HZ := Lib.hid hz
    have HP := Lib.hid (fun W (hB : Below w.heap.size w W) => (show OneP D false w (.returned (.tuple #[.agg z.vals.toArray, .bool false])) W by rw [HD.out, hz]; exact OneP.plain ⟨rfl, rfl, rfl, rfl⟩ hB))
    clear hz
    have HR := Lib.hid (retReply5 (z := z) bR hB)
    go_enter Tryz.func35, Tryz.ntmps35
    go_upto_region 1 with fail
    change Code.wp _ _ _ _ (((((w.alloc (.cells t.vals.toArray 26)).alloc (.cells u.vals.toArray 28)).alloc (.cells c.vals.toArray 34)).alloc (.cells n.vals.toArray 65)).alloc (.cells replyZ.vals.toArray 48))
    rw [← HW1.out]
    go_wp2_with (first | (refine wpList_store_whole (by rfl) 48 _ _ (by rfl) (w.heap.size + 1 + 1 + 1 + 1) z.vals _ bR (by rfl) (by rfl) (by first | rfl | (rw [HZ.out]; done) | (rw [HZ.out]; rfl)) (by kernel_rfl) (Reply.one _) ?_) | fail)
    exact ret_cells2 (w.heap.size + 1 + 1 + 1 + 1) 0 z.vals (.bool false) Tryz.results35 Tryz.underlying48 rfl (by kernel_rfl) rfl rfl HR.out.1.range rfl (HP.out _ HR.out.2)
end Go.Proofs.YtgifmpobokaejaaGreatDoor
