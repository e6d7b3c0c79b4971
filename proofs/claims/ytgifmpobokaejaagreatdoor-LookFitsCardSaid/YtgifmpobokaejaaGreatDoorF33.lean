/-
  Layer 22, walks: a directory is listed. Conditions: rows of the sizes that a tree has.
-/
import Derived.Test.YtgifmpobokaejaaGreatDoorF32
import Derived.Test.YtgifmpobokaejaaGreatDoorF22
namespace Go.Proofs.YtgifmpobokaejaaGreatDoor
open Go.RowKit
open Go.RowKit
attribute [local go_sem ↓] Go.wp_at_zero Go.wp_at_succ
attribute [local go_sem] rowAt_ptr rowOf_drew rowOf_drewN rowOf_alloc_past rowOf_new
attribute [local go_sem ↓] ldAsk22 ldNode22 ldCred6 ldAttrR ldTree22 ldCall

theorem statAsk {w w' : World} {s : Int} (hB : Below w.heap.size w w') : AskP (statD s) w (.returned (.agg (statR s).vals.toArray)) w' :=
  ⟨statR s, rfl, rfl, ⟨rfl, At.nil⟩, ⟨rfl, At.nil⟩, hB, fun p h => by rcases h with h | h <;> cases h⟩

theorem stPost22 {ρ : Operand → Value} {w : World} {dst : Option Tmp} {ty : TypeId} {pos : String} {after : Array Edge} {g : Option (Nat × Bool)} {x y : Operand} (hx : ptrAt (ρ x) = true) (hy : rowOk 11 (ρ y)) (ht : w.there (blkAt (ρ x)) (offAt (ρ x)) 11) :
    (execOp ρ ⟨dst, .store 42 x y, ty, pos, after, g⟩).run Tryz.prog w = .ok .skip (putsW w (blkAt (ρ x)) (offAt (ρ x)) (ρ y).cells.toList) := exStoreAt (by kernel_rfl) hx hy ht
theorem stText22 {ρ : Operand → Value} {w : World} {dst : Option Tmp} {ty : TypeId} {pos : String} {after : Array Edge} {g : Option (Nat × Bool)} {x y : Operand} (hx : ptrAt (ρ x) = true) (hy : oneV22 (ρ y) = true) (ht : w.there (blkAt (ρ x)) (offAt (ρ x)) 1) :
    (execOp ρ ⟨dst, .store 9 x y, ty, pos, after, g⟩).run Tryz.prog w = .ok .skip (putsW w (blkAt (ρ x)) (offAt (ρ x)) [ρ y]) := by
  have hc : (ρ y).cells = #[ρ y] := by
    generalize ρ y = v at *
    cases v <;> first | rfl | cases hy
  have := exStoreAt (P := Tryz.prog) (T := 9) (n := 1) (by kernel_rfl) (ρ := ρ) (w := w) (dst := dst) (ty := ty) (pos := pos) (after := after) (g := g) (x := x) (y := y) hx ⟨by rw [hc]; rfl, by rw [hc]; intro u hu; simp at hu; subst hu; exact oneV22_one _ hy⟩ ht
  rw [this, hc]
attribute [local go_sem ↓] stPost22 stText22

attribute [local go_sem] ptrAt blkAt offAt oneV22

set_option maxRecDepth 20000 in
set_option maxHeartbeats 3200000 in
theorem askList_any (t : Tr) (u : Cred) (c : Call) (n : Nd) (es : List Entry) (plus : Bool) (w : World) (hl : t.ns.length ≤ 9223372036854775807) (hA : At w 15 t.na (t.ns.map Nd.vals)) (hgen : ∀ m ∈ t.ns, m.attr.gen ≤ 9223372036854775807)
    (hen : n.en = es.length) (hes : es.length ≤ 70) (hn : ∀ x ∈ es, x.name.length ≤ 300) (hE : At w 15 n.ea (es.map Entry.vals)) (hcc : -9223372036854775808 ≤ c.count ∧ c.count ≤ 9223372036854775807) (hL : LookLaid w) :
    Calls Tryz.prog 108 #[.agg (askV t u c n).toArray, .bool plus] w (AskP (listR t.ns u c n es plus) w) := by
  obtain ⟨bA, bR, hB, hs⟩ := chain2_blks w (askV t u c n) replyZ.vals 76 48
  obtain ⟨w1, hw1⟩ : ∃ V, V = (w.alloc (.cells (askV t u c n).toArray 76)).alloc (.cells replyZ.vals.toArray 48) := ⟨_, rfl⟩
  rw [← hw1] at bA bR hB hs
  have c34 : w1.cell? ⟨w.heap.size, 34, none⟩ = some (.int .i64 n.attr.type) := bA.cell 34
  have c41 : w1.cell? ⟨w.heap.size, 41, none⟩ = some (.int .i64 n.attr.gen) := bA.cell 41
  have c16 : w1.cell? ⟨w.heap.size, 16, none⟩ = some (.int .i64 c.count) := bA.cell 16
  have c31 : w1.cell? ⟨w.heap.size, 31, none⟩ = some (.int .i64 c.cookie) := bA.cell 31
  have c32 : w1.cell? ⟨w.heap.size, 32, none⟩ = some (.int .i64 c.verf) := bA.cell 32
  have c48 : w1.cell? ⟨w.heap.size, 48, none⟩ = some (.slice n.ea es.length n.ec) := by rw [bA.cell 48, ← hen]; rfl
  have c5 : w1.cell? ⟨w.heap.size, 5, none⟩ = some (.slice t.na t.ns.length t.nc) := bA.cell 5
  have r0 : rowOf w1 w.heap.size 0 49 = some (askV t u c n).toArray := by
    have := bA.row 0 49 (by rw [askV_len]; omega)
    rwa [show ((askV t u c n).drop 0).take 49 = askV t u c n from rfl] at this
  have r6 : rowOf w1 w.heap.size 0 6 = some t.vals.toArray := bA.row 0 6 (by rw [askV_len]; omega)
  have HLR := Lib.hid (show listR t.ns u c n es plus = if n.attr.type ≠ 2 then statD 20 else if mayB (bitsP n.attr u.uid u.gid) 4 = false then statD 13 else if c.cookie ≠ 0 ∧ c.verf ≠ n.attr.gen then statD 10003 else if (pageF es c.cookie (min c.count 1024) (if plus then 96 else 0)).2.2 ≠ 0 then statD (pageF es c.cookie (min c.count 1024) (if plus then 96 else 0)).2.2 else ⟨{ fldsZ with verf := n.attr.gen, eof := (pageF es c.cookie (min c.count 1024) (if plus then 96 else 0)).2.1 }, if plus then (pageF es c.cookie (min c.count 1024) (if plus then 96 else 0)).1.map (fillE t.ns) else (pageF es c.cookie (min c.count 1024) (if plus then 96 else 0)).1, []⟩ from rfl)
  have KM := Lib.hid (fun W => askMay_any t u c n 4 W)
  have hlA := bA.lt
  have HW1 := Lib.hid hw1
  have hE1 := hE.below hB
  have hA1 := hA.below hB
  generalize listR t.ns u c n es plus = lr at *
  generalize mayB (bitsP n.attr u.uid u.gid) 4 = m at *
  clear hw1 bA hs hA hE
  by_cases h2 : n.attr.type = 2
  case neg =>
    have HQ := Lib.hid (HLR.out.trans (if_pos h2))
    have h2' : (n.attr.type != 2) = true := by simpa using h2
    rw [HQ.out]
    obtain ⟨z, hz⟩ : ∃ z : Reply, z = statR 20 := ⟨_, rfl⟩
    have HZ := Lib.hid hz
    have HP := Lib.hid (fun W hB => hz ▸ statAsk (w := w) (w' := W) (s := 20) hB)
    clear hz
    go_enter Tryz.func108, Tryz.ntmps108
    go_upto_region 1 with fail
    change Code.wp _ _ _ _ ((w.alloc (.cells (askV t u c n).toArray 76)).alloc (.cells replyZ.vals.toArray 48))
    rw [← HW1.out]
    go_wp2_with fail
    refine (lookStatus_any 20 _).mono ?_
    rintro e wz ⟨rfl, hbz⟩
    have HR := Lib.hid (retReply22 (z := z) (bR.stays hbz) (below_then hB hbz))
    replace bR := bR.stays hbz
    clear hbz
    go_wp2_with (first | (refine wpList_store_whole (by rfl) 48 _ _ (by rfl) (w.heap.size + 1) z.vals _ bR (by rfl) (by rfl) (by first | rfl | (rw [HZ.out]; done) | (rw [HZ.out]; rfl)) (by kernel_rfl) (Reply.one _) ?_) | fail)
    exact ret_cells (w.heap.size + 1) 0 z.vals Tryz.results108 Tryz.underlying48 rfl (by kernel_rfl) rfl HR.out.1.range rfl (HP.out _ HR.out.2)
  have HL2 := Lib.hid (HLR.out.trans (if_neg (by simpa using h2)))
  rw [h2] at c34
  go_enter Tryz.func108, Tryz.ntmps108
  go_upto_region 1 with fail
  change Code.wp _ _ _ _ ((w.alloc (.cells (askV t u c n).toArray 76)).alloc (.cells replyZ.vals.toArray 48))
  rw [← HW1.out]
  go_wp2_with fail
  refine (KM.out _).mono ?_
  rintro e w2 ⟨rfl, hb⟩
  replace c16 := (hb.cell (p := ⟨w.heap.size, 16, none⟩) hlA).trans c16
  replace c31 := (hb.cell (p := ⟨w.heap.size, 31, none⟩) hlA).trans c31
  replace c32 := (hb.cell (p := ⟨w.heap.size, 32, none⟩) hlA).trans c32
  replace c41 := (hb.cell (p := ⟨w.heap.size, 41, none⟩) hlA).trans c41
  replace c48 := (hb.cell (p := ⟨w.heap.size, 48, none⟩) hlA).trans c48
  replace c5 := (hb.cell (p := ⟨w.heap.size, 5, none⟩) hlA).trans c5
  replace r6 := (rowOf_below hb hlA 0 6).trans r6
  replace bR := bR.stays hb
  replace hE1 := hE1.below hb
  replace hA1 := hA1.below hb
  replace hB := below_then hB hb
  replace hlA := Nat.lt_of_lt_of_le hlA hb.size
  clear hb c34 r0
  cases m
  case false =>
    have HQ := Lib.hid (HL2.out.trans (if_pos rfl))
    obtain ⟨z, hz⟩ : ∃ z : Reply, z = statR 13 := ⟨_, rfl⟩
    have HZ := Lib.hid hz
    have HP := Lib.hid (fun W hB => hz ▸ statAsk (w := w) (w' := W) (s := 13) hB)
    rw [HQ.out]
    clear hz
    go_wp2_with fail
    refine (lookStatus_any 13 _).mono ?_
    rintro e wz ⟨rfl, hbz⟩
    have HR := Lib.hid (retReply22 (z := z) (bR.stays hbz) (below_then hB hbz))
    replace bR := bR.stays hbz
    clear hbz
    go_wp2_with (first | (refine wpList_store_whole (by rfl) 48 _ _ (by rfl) (w.heap.size + 1) z.vals _ bR (by rfl) (by rfl) (by first | rfl | (rw [HZ.out]; done) | (rw [HZ.out]; rfl)) (by kernel_rfl) (Reply.one _) ?_) | fail)
    exact ret_cells (w.heap.size + 1) 0 z.vals Tryz.results108 Tryz.underlying48 rfl (by kernel_rfl) rfl HR.out.1.range rfl (by rw [HQ.out]; exact HP.out _ HR.out.2)
  have HL3 := Lib.hid (HL2.out.trans (if_neg (by simp)))
  by_cases hv : c.cookie ≠ 0 ∧ c.verf ≠ n.attr.gen
  case pos =>
    have HQ := Lib.hid (HL3.out.trans (if_pos hv))
    have hv1 : (c.cookie != 0) = true := by simpa using hv.1
    have hv2 : (c.verf != n.attr.gen) = true := by simpa using hv.2
    obtain ⟨z, hz⟩ : ∃ z : Reply, z = statR 10003 := ⟨_, rfl⟩
    have HZ := Lib.hid hz
    have HP := Lib.hid (fun W hB => hz ▸ statAsk (w := w) (w' := W) (s := 10003) hB)
    clear hz hv
    go_wp2_with fail
    refine (lookStatus_any 10003 _).mono ?_
    rintro e wz ⟨rfl, hbz⟩
    have HR := Lib.hid (retReply22 (z := z) (bR.stays hbz) (below_then hB hbz))
    replace bR := bR.stays hbz
    clear hbz
    go_wp2_with (first | (refine wpList_store_whole (by rfl) 48 _ _ (by rfl) (w.heap.size + 1) z.vals _ bR (by rfl) (by rfl) (by first | rfl | (rw [HZ.out]; done) | (rw [HZ.out]; rfl)) (by kernel_rfl) (Reply.one _) ?_) | fail)
    exact ret_cells (w.heap.size + 1) 0 z.vals Tryz.results108 Tryz.underlying48 rfl (by kernel_rfl) rfl HR.out.1.range rfl (by rw [HQ.out]; exact HP.out _ HR.out.2)
  have HL4 := Lib.hid (HL3.out.trans (if_neg hv))
  have hvb : (c.cookie != 0) = false ∨ ((c.cookie != 0) = true ∧ (c.verf != n.attr.gen) = false) := by
    by_cases h : c.cookie = 0
    · exact .inl (by simp [h])
    · refine .inr ⟨by simpa using h, ?_⟩
      by_cases h3 : c.verf = n.attr.gen
      · simp [h3]
      · exact absurd ⟨h, h3⟩ hv
  have KP := Lib.hid (fun W hE => nodePage_any n.ea n.ec es c.cookie (min c.count 1024) (if plus = true then 96 else 0) W hes hn (by split <;> omega) (by omega) hE)
  have HB := Lib.hid (fun (ps : List Entry × Bool × Int) (h : pageF es c.cookie (min c.count 1024) (if plus then 96 else 0) = ps) => show lr = if ps.2.2 ≠ 0 then statD ps.2.2 else ⟨{ fldsZ with verf := n.attr.gen, eof := ps.2.1 }, if plus then ps.1.map (fillE t.ns) else ps.1, []⟩ by rw [HL4.out, h])
  clear hv HLR HL2 HL3 HL4 KM
  rcases hvb with hv1 | ⟨hv1, hv2⟩
  all_goals
    rcases Bool.eq_false_or_eq_true plus with hpl | hpl
    all_goals
      simp only [hpl, Bool.false_eq_true, if_false, if_true] at KP HB
      rw [hpl]
      go_wp2_with fail
      refine (KP.out _ hE1).mono ?_
      rintro e w3 ⟨A, cp, rfl, hP, hb3, hF, c9, hR3⟩
      generalize hpf : pageF es c.cookie (min c.count 1024) _ = ps at hP hR3
      obtain ⟨l, eof, st⟩ := ps
      have HC := HB.out _ hpf
      simp only at HC hP hF hR3
      clear HB KP hpf
      have K2 := Lib.hid (And.intro c41 (And.intro c5 (And.intro r6 (And.intro bR (And.intro hA1 (And.intro hlA (And.intro hB hb3)))))))
      have hlR := bR.lt
      replace c41 := (hb3.cell (p := ⟨w.heap.size, 41, none⟩) hlA).trans c41
      replace c5 := (hb3.cell (p := ⟨w.heap.size, 5, none⟩) hlA).trans c5
      replace r6 := (rowOf_below hb3 hlA 0 6).trans r6
      replace bR := bR.stays hb3
      replace hA1 := hA1.below hb3
      replace hB := below_then hB hb3
      clear c16 c31 c32 c48 hE1
      by_cases h0 : st = 0
      case neg =>
        have h0' : (st != 0) = true := by simpa using h0
        have HQ := Lib.hid (HC.trans (if_pos h0))
        obtain ⟨z, hz⟩ : ∃ z : Reply, z = statR st := ⟨_, rfl⟩
        have HZ := Lib.hid hz
        have HP := Lib.hid (fun W hB => hz ▸ statAsk (w := w) (w' := W) (s := st) hB)
        clear hz HC hb3
        go_wp2_with fail
        refine (lookStatus_any st _).mono ?_
        rintro e wz ⟨rfl, hbz⟩
        have HR := Lib.hid (retReply22 (z := z) (bR.stays hbz) (below_then hB hbz))
        replace bR := bR.stays hbz
        clear hbz
        go_wp2_with (first | (refine wpList_store_whole (by rfl) 48 _ _ (by rfl) (w.heap.size + 1) z.vals _ bR (by rfl) (by rfl) (by first | rfl | (rw [HZ.out]; done) | (rw [HZ.out]; rfl)) (by kernel_rfl) (Reply.one _) ?_) | fail)
        exact ret_cells (w.heap.size + 1) 0 z.vals Tryz.results108 Tryz.underlying48 rfl (by kernel_rfl) rfl HR.out.1.range rfl (by rw [HQ.out]; exact HP.out _ HR.out.2)
      subst h0
      have HQ := Lib.hid (HC.trans (if_neg (by simp)))
      have HR3 := Lib.hid hR3
      clear HC hb3 hR3 hP hF hlA hlR c41 c5 r6 bR hA1 hB hv1
      go_wp2
      go_loopw [62] (fun i wr => ∃ k : Nat, k ≤ l.length ∧ i = .int .i64 k ∧ RowS wr w2.heap.size 80 15 (.slice A l.length c9) ((fillP plus t.ns k l).map Entry.vals) ∧ Below w2.heap.size w2 wr) (fun i _ => l.length - (intOf i).toNat)
      case atStart => exact ⟨0, Nat.zero_le _, rfl, by rw [fillP_zero]; exact HR3.out, K2.out.2.2.2.2.2.2.2⟩
      case round =>
        obtain ⟨k, hk, rfl, hR, hb⟩ := hrel
        obtain ⟨c41, c5, r6, bR, hA1, hlA, hB, hb3⟩ := K2.out
        have hlR := bR.lt
        replace c41 := (hb.cell (p := ⟨w.heap.size, 41, none⟩) hlA).trans c41
        replace c5 := (hb.cell (p := ⟨w.heap.size, 5, none⟩) hlA).trans c5
        replace r6 := (rowOf_below hb hlA 0 6).trans r6
        have hk0 : (0 : Int) ≤ (k : Int) := Int.natCast_nonneg _
        have hlw : w.heap.size < wr.heap.size := Nat.lt_of_lt_of_le hlA hb.size
        have hl9 : l.length ≤ 9223372036854775807 := by
          have := hR.le
          rw [List.length_map, fillP_len] at this
          exact this
        by_cases hlt : k < l.length
        · have hk1 : (k : Int) < (l.length : Int) := by omega
          obtain ⟨pre, post, hpre, hparts, hnext⟩ := fillP_parts plus t.ns hlt
          have hno := fillP_no (plus := plus) (ns := t.ns) hlt
          have hR0 := hR
          rw [hparts] at hR0
          obtain ⟨g, rfl, hg, hgw⟩ : ∃ g, A = some ⟨g, 0, none⟩ ∧ w2.heap.size ≤ g ∧ g < wr.heap.size := by
            rcases hR0.2.2 with ⟨h1, h2⟩ | ⟨g, cap, cur, h1, _⟩
            · simp at h2
            · injection h1 with h1 h2 h3
              subst h1
              exact ⟨g, rfl, hR0.lt g rfl⟩
          have hlen : l.length = (pre ++ l[k] :: post).length := by rw [← hparts, fillP_len]
          have hP0 : Pag wr wr w2.heap.size g l.length c9 pre post l[k] := ⟨hR0, hlen, (Below.refl _ _).mono hb.size⟩
          have cg := hP0.gen
          rw [hpre] at cg
          have hin := List.getElem_mem hlt
          have hkw : IntKind.i64.wrap ((k : Int) + 1) = ((k + 1 : Nat) : Int) := by rw [IntWalk.i64_in _ (by omega)]; omega
          have HR := Lib.hid hR
          have HLow := Lib.hid hb
          have KO := Lib.hid (fun W (h : Stb wr W) => lookOf_any t l[k].gen W hl ((hA1.below hb).stb h))
          have HPL := Lib.hid (fun (h : ¬ placeOf t.ns l[k].gen < 0) => placeOf_at (ns := t.ns) (gen := l[k].gen) h)
          have HFE := Lib.hid (fun (h : ¬ placeOf t.ns l[k].gen < 0) => fillE_yes (x := l[k]) h)
          have HPR := Lib.hid (And.intro hpre (And.intro hparts (And.intro hnext (And.intro hno (And.intro hlen hP0)))))
          generalize l[k] = ek at *
          generalize placeOf t.ns ek.gen = pl at *
          unfold Tr.val at KO
          clear hR hR0 hpre hparts hnext hno hlen hP0 hb hb3 hin
          go_wp2_with fail
          go_region_held3 (fun W => Stb wr W) (first | exact Stb.start | assumption | (exact Stb.alloc (by assumption) _) | (exact Stb.call (by assumption) (by assumption))) (first | (go_at_call 83; refine (KO.out _ (by assumption)).mono ?_; rintro e w4 ⟨rfl, hb4⟩))
          all_goals
            have hst : Stb wr w4 := by assumption
            obtain ⟨hpre, hparts, hnext, hno, hlen, hP0⟩ := HPR.out
            have hP4 := hP0.call hst.below
            have hLow4 : Below w2.heap.size w2 w4 := HLow.out.trans (hst.below.mono HLow.out.size)
            by_cases hp : pl < 0
            · have HN := Lib.hid (show RowS w4 w2.heap.size 80 15 (.slice (some ⟨g, 0, none⟩) l.length c9) ((fillP plus t.ns (k + 1) l).map Entry.vals) ∧ Below w2.heap.size w2 w4 from ⟨by rw [hno (.inr hp)]; exact HR.out.stays hst.below, hLow4⟩)
              have hp' : ¬ (0 : Int) ≤ pl := by omega
              clear hpre hparts hnext hno hlen hP0 hP4 hLow4 hst c41 c5 r6 cg bR
              go_wp2
              go_roundw
              case rel => exact ⟨k + 1, by omega, by go_num, HN.out.1, HN.out.2⟩
              case measure => simp [intOf]; omega
            by_cases hq : plus = true
            case neg =>
              have HN := Lib.hid (show RowS w4 w2.heap.size 80 15 (.slice (some ⟨g, 0, none⟩) l.length c9) ((fillP plus t.ns (k + 1) l).map Entry.vals) ∧ Below w2.heap.size w2 w4 from ⟨by rw [hno (.inl (by simpa using hq))]; exact HR.out.stays hst.below, hLow4⟩)
              clear hpre hparts hnext hno hlen hP0 hP4 hLow4 hst c41 c5 r6 cg bR
              first | (exact absurd hpl hq) | skip
              all_goals
                go_wp2
                go_roundw
                case rel => exact ⟨k + 1, by omega, by go_num, HN.out.1, HN.out.2⟩
                case measure => simp [intOf]; omega
            case pos =>
              first | (exact absurd (hpl.symm.trans hq) (by decide)) | skip
              all_goals
                obtain ⟨p, hp1, hp2, hp3, hp4⟩ := HPL.out (by omega)
                have hfe := HFE.out (by omega)
                rw [hp3] at hfe
                subst hp1
                obtain ⟨b1, o1, hna, -, rnd, -⟩ := rowCell8 Nd.len (by decide) (hA1.below HLow.out) hp2
                obtain ⟨b2, o2, hna2, hb2, -⟩ := rowCell8 Nd.len (by decide) hA1 hp2
                have hb12 : b1 < w2.heap.size := by
                  rw [hna] at hna2
                  injection hna2 with h
                  injection h with h1 _ _
                  omega
                rw [hna] at c5
                have hgle := hgen _ (List.getElem_mem hp2)
                rw [hp4] at hgle
                generalize t.ns[p] = nd at *
                have HS := Lib.hid (fun (V : World) (x : Entry) (h : Pag wr V w2.heap.size g l.length c9 pre post x) (hx : x.gen = ek.gen) => (show V.cell? ⟨w.heap.size, 5, none⟩ = some (.slice (some ⟨b1, o1, none⟩) t.ns.length t.nc) ∧ V.cell? ⟨g, k * 15, none⟩ = some (.int .i64 ek.gen) ∧ rowOf V b1 (o1 + p * 15) 15 = some nd.vals.toArray ∧ V.there g (k * 15 + 3) 11 ∧ V.there g (k * 15 + 14) 1 from
                  ⟨(h.low.cell (p := ⟨w.heap.size, 5, none⟩) hlA).trans c5, by rw [← hx, ← hpre]; exact h.gen, (rowOf_below h.low hb12 _ _).trans rnd, h.there (by omega), h.there (by omega)⟩))
                have HLd := Lib.hid (fun (V : World) (x : Entry) (h : Pag wr V w2.heap.size g l.length c9 pre post x) => hL.below ((below_then hB HLow.out).trans (h.low.mono (Nat.le_of_lt (Nat.lt_of_succ_lt (by omega))))))
                have HN := Lib.hid (fun (V : World) (x : Entry) (h : Pag wr V w2.heap.size g l.length c9 pre post x) (hx : x = fillE t.ns ek) => (show RowS V w2.heap.size 80 15 (.slice (some ⟨g, 0, none⟩) l.length c9) ((fillP plus t.ns (k + 1) l).map Entry.vals) ∧ Below w2.heap.size w2 V from ⟨by rw [hnext hq, ← hx]; exact h.row, HLow.out.trans h.low⟩))
                have KPo := Lib.hid (fun W => lookPost_any nd W)
                have KT := Lib.hid (fun W (h : LookLaid W) => lookText_any ek.gen W hgle h)
                have hS4 := HS.out w4.drew ek hP4.drew rfl
                have hP4d := hP4.drew
                have hpi0 : (0 : Int) ≤ (p : Int) := Int.natCast_nonneg _
                have hpi1 : (p : Int) < (t.ns.length : Int) := by omega
                have hrk : rowOk 11 (.agg (postN nd).vals.toArray) := ⟨rfl, Post.one _⟩
                have HA := Lib.hid (fun (V : World) (x : Entry) (h : Pag wr V w2.heap.size g l.length c9 pre post x) => (show Pag wr (putsW V g (k * 15 + 3) (postN nd).vals) w2.heap.size g l.length c9 pre post { x with attr := postN nd } from h.attrP (postN nd) (by rw [hpre])))
                have HT := Lib.hid (fun (V : World) (x : Entry) (h : Pag wr V w2.heap.size g l.length c9 pre post x) => (show Pag wr (putsW V g (k * 15 + 14) [.string (bs (genText ek.gen))]) w2.heap.size g l.length c9 pre post { x with fh := genText ek.gen } from h.fhP (genText ek.gen) (by rw [hpre])))
                clear hparts hnext hno hlen hP0 hP4 hLow4 c41 c5 r6 cg bR hna hna2 hp3 hp4 hst
                go_wp2_with fail
                go_region_held3 (fun V => V.cell? ⟨w.heap.size, 5, none⟩ = some (.slice (some ⟨b1, o1, none⟩) t.ns.length t.nc) ∧ V.cell? ⟨g, k * 15, none⟩ = some (.int .i64 ek.gen) ∧ rowOf V b1 (o1 + p * 15) 15 = some nd.vals.toArray ∧ V.there g (k * 15 + 3) 11 ∧ V.there g (k * 15 + 14) 1) (first | with_reducible assumption | (apply HS.out; (repeat (first | with_reducible assumption | with_reducible apply HA.out | with_reducible apply HT.out)); rfl)) (first
                  | (go_at_call 34; refine (KPo.out _).mono ?_; rintro e w5 ⟨rfl, hb5⟩; have hP5 := Pag.call (by repeat (first | with_reducible assumption | with_reducible apply HA.out | with_reducible apply HT.out)) hb5; have hS5 := HS.out _ _ hP5 rfl)
                  | (go_at_call 82; refine (KT.out _ (HLd.out _ _ (by repeat (first | with_reducible assumption | with_reducible apply HA.out | with_reducible apply HT.out)))).mono ?_; rintro e w6 ⟨rfl, hb6⟩; have hP6 := Pag.call (by repeat (first | with_reducible assumption | with_reducible apply HA.out | with_reducible apply HT.out)) hb6; have hS6 := HS.out _ _ hP6 rfl))
                all_goals
                  go_wp2
                  go_roundw
                  case rel =>
                    refine ⟨k + 1, by omega, by go_num, ?_⟩
                    apply HN.out
                    · repeat (first | with_reducible assumption | with_reducible apply HA.out | with_reducible apply HT.out)
                    · exact hfe.symm
                  case measure => simp [intOf]; omega
        · obtain rfl : k = l.length := by omega
          have hAt := hR.rows
          rw [fillP_all] at hAt
          replace bR := bR.stays hb
          obtain ⟨z, hz⟩ : ∃ z : Reply, z = { replyZ with verf := n.attr.gen, eof := eof, ea := A, en := l.length, ec := cp } := ⟨_, rfl⟩
          have HR := Lib.hid (retReply22 (z := z) bR (below_then hB hb))
          have HZ := Lib.hid hz
          have HFR := Lib.hid (show FreshR w z from fun p h => by
            rw [hz] at h
            rcases h with h | h
            · exact Nat.le_trans hB.size (hR.lt p.block (by rw [show A = some p from h]; rfl)).1
            · cases h)
          have hF : ∀ b off, A = some ⟨b, off, none⟩ → w2.heap.size ≤ b := fun b off h => (hR.lt b (by rw [h]; rfl)).1
          have HAt := Lib.hid (hAt.touch (F := fun k => k = w.heap.size + 1) (Touch.setCells (F := fun k => k = w.heap.size + 1) (g := w.heap.size + 1) (.inl rfl) z.vals 0 wr (Touch.refl _ _)) (fun b off h hf => by have := hF _ _ h; omega))
          clear hz hAt hF hR hb hB hb3 hA1
          go_wp2_with (first | (refine wpList_store_whole (by rfl) 48 _ _ (by rfl) (w.heap.size + 1) z.vals _ bR (by rfl) (by rfl) (by rw [HZ.out]; rfl) (by kernel_rfl) (Reply.one _) ?_) | fail)
          refine ret_cells (w.heap.size + 1) 0 z.vals Tryz.results108 Tryz.underlying48 rfl (by kernel_rfl) rfl HR.out.1.range rfl ?_
          rw [HQ.out]
          have hAt2 := HAt.out
          try simp only [hpl, if_true, if_false, Bool.false_eq_true] at hAt2
          refine ⟨z, rfl, by rw [HZ.out]; rfl, ⟨by rw [HZ.out]; try simp, ?_⟩, ⟨by rw [HZ.out]; rfl, At.nil⟩, HR.out.2, HFR.out⟩
          rw [HZ.out] at hAt2 ⊢
          exact hAt2
end Go.Proofs.YtgifmpobokaejaaGreatDoor
