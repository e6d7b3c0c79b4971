/-
  Layer 8, walks: results with their lists: the document's Same. Conditions: machine lists.
-/
import Derived.Test.YtgifmpobokaejaaGreatDoorF19
import Derived.BigGuardPart
namespace Go.Proofs.YtgifmpobokaejaaGreatDoor
open Go.RowKit
attribute [local go_sem ↓] Go.wp_at_zero Go.wp_at_succ
attribute [local go_sem] rowAt_ptr rowOf_drew rowOf_drewN rowOf_alloc_past rowOf_new
attribute [local go_sem ↓] ldReply ldEntry ldPost ldWcc neqEntry

attribute [local go_sem] Reply.at0 Reply.lat0 Reply.at1 Reply.lat1 Reply.at2 Reply.lat2 Reply.at3 Reply.lat3 Reply.at4 Reply.lat4 Reply.at5 Reply.lat5 Reply.at6 Reply.lat6 Reply.at7 Reply.lat7 Reply.at8 Reply.lat8 Reply.at9 Reply.lat9 Reply.at10 Reply.lat10 Reply.at11 Reply.lat11 Reply.at12 Reply.lat12 Reply.at13 Reply.lat13 Reply.at14 Reply.lat14 Reply.at15 Reply.lat15 Reply.at16 Reply.lat16 Reply.at17 Reply.lat17 Reply.at18 Reply.lat18 Reply.at19 Reply.lat19 Reply.at20 Reply.lat20 Reply.at21 Reply.lat21 Reply.at22 Reply.lat22 Reply.at23 Reply.lat23 Reply.at24 Reply.lat24 Reply.at25 Reply.lat25 Reply.at26 Reply.lat26 Reply.at27 Reply.lat27 Reply.at28 Reply.lat28 Reply.at29 Reply.lat29 Reply.at30 Reply.lat30 Reply.at31 Reply.lat31 Reply.at32 Reply.lat32 Reply.at33 Reply.lat33 Reply.at34 Reply.lat34 Reply.at35 Reply.lat35 Reply.at36 Reply.lat36 Reply.at37 Reply.lat37 Reply.at38 Reply.lat38 Reply.at39 Reply.lat39 Reply.at40 Reply.lat40 Reply.at41 Reply.lat41 Reply.at42 Reply.lat42 Reply.at43 Reply.lat43 Reply.at44 Reply.lat44 Reply.at45 Reply.lat45 Reply.at46 Reply.lat46 Reply.at47 Reply.lat47 Reply.at48 Reply.lat48 Reply.at49 Reply.lat49 Reply.at50 Reply.lat50 Reply.at51 Reply.lat51 Reply.at52 Reply.lat52 Reply.at53 Reply.lat53 Reply.at54 Reply.lat54 Reply.at55 Reply.lat55 Reply.at56 Reply.lat56 Reply.at57 Reply.lat57 Reply.sub0_58 Reply.lsub0_58 Reply.sub2_11 Reply.lsub2_11 Reply.sub3_10 Reply.lsub3_10 Reply.sub13_11 Reply.lsub13_11 Reply.sub14_10 Reply.lsub14_10 Reply.sub24_13 Reply.lsub24_13 Reply.sub24_2 Reply.lsub24_2 Reply.sub26_11 Reply.lsub26_11 Reply.sub27_10 Reply.lsub27_10 Reply.sub37_13 Reply.lsub37_13 Reply.sub37_2 Reply.lsub37_2 Reply.sub39_11 Reply.lsub39_11 Reply.sub40_10 Reply.lsub40_10 Reply.len guardEntry

theorem leafsPost8 : leafs Tryz.prog 8 42 = some lfPost8 := by kernel_rfl
theorem leafsWcc8 : leafs Tryz.prog 8 44 = some lfWcc8 := by kernel_rfl
theorem guardPost8 : Tryz.prog.eqGuardType Tryz.prog.depth 42 = false := by kernel_rfl
theorem guardWcc8 : Tryz.prog.eqGuardType Tryz.prog.depth 44 = false := by kernel_rfl
theorem Post.inj8 {x y : Post} (h : x.vals = y.vals) : x = y := by
  obtain ⟨_, ⟨_, _, _, _, _, _, _, _, _, _⟩⟩ := x
  obtain ⟨_, ⟨_, _, _, _, _, _, _, _, _, _⟩⟩ := y
  simp only [Post.vals, Attr.vals, List.cons_append, List.nil_append, List.cons.injEq, Value.int.injEq, Value.bool.injEq, true_and, and_true] at h
  obtain ⟨h0, h1, h2, h3, h4, h5, h6, h7, h8, h9, h10⟩ := h
  subst_vars
  rfl
theorem Wcc.inj8 {x y : Wcc} (h : x.vals = y.vals) : x = y := by
  obtain ⟨⟨_, _⟩, ⟨_, ⟨_, _, _, _, _, _, _, _, _, _⟩⟩⟩ := x
  obtain ⟨⟨_, _⟩, ⟨_, ⟨_, _, _, _, _, _, _, _, _, _⟩⟩⟩ := y
  simp only [Wcc.vals, Opt.vals, Post.vals, Attr.vals, List.cons_append, List.nil_append, List.cons.injEq, Value.int.injEq, Value.bool.injEq, true_and, and_true] at h
  obtain ⟨h0, h1, h2, h3, h4, h5, h6, h7, h8, h9, h10, h11, h12⟩ := h
  subst_vars
  rfl
theorem eqlPost8 (x y : Post) (w : World) : (binOp .eql 42 (.agg x.vals.toArray) (.agg y.vals.toArray)).run Tryz.prog w = .ok (.bool (decide (x = y))) w := by
  by_cases h : x = y
  · rw [eql_same leafsPost8 (by kernel_rfl) w _ _ (by rfl) (by rw [h]), decide_eq_true h]
  · rw [eql_other leafsPost8 (by kernel_rfl) w _ _ (by rfl) (by rfl) (fun e => h (Post.inj8 e)), decide_eq_false h]
theorem eqlWcc8 (x y : Wcc) (w : World) : (binOp .eql 44 (.agg x.vals.toArray) (.agg y.vals.toArray)).run Tryz.prog w = .ok (.bool (decide (x = y))) w := by
  by_cases h : x = y
  · rw [eql_same leafsWcc8 (by kernel_rfl) w _ _ (by rfl) (by rw [h]), decide_eq_true h]
  · rw [eql_other leafsWcc8 (by kernel_rfl) w _ _ (by rfl) (by rfl) (fun e => h (Wcc.inj8 e)), decide_eq_false h]
attribute [local go_sem ↓] eqlPost8 eqlWcc8

attribute [local go_sem] guardPost8 guardWcc8

theorem bare_eq (x y : Reply) : x.bare = y.bare ↔ x.status = y.status ∧ x.fh = y.fh ∧ x.obj = y.obj ∧ x.dir = y.dir ∧ x.wcc = y.wcc ∧ x.wcc2 = y.wcc2 ∧ x.access = y.access ∧ x.count = y.count ∧ x.eof = y.eof ∧ x.data = y.data ∧ x.stable = y.stable ∧ x.verf = y.verf := by
  unfold Reply.bare
  rw [Flds.mk.injEq]
  constructor
  · rintro ⟨a, b, c, d, e, f, g, h, i, j, k, l⟩
    exact ⟨a, b, d, e, f, g, h, i, l, c, j, k⟩
  · rintro ⟨a, b, c, d, e, f, g, h, i, j, k, l⟩
    exact ⟨a, b, j, c, d, e, f, g, h, k, l, i⟩

set_option maxRecDepth 20000 in
set_option maxHeartbeats 12800000 in
theorem refSame8_any (x y : RepL) (w : World) (hx : x.There w) (hy : y.There w) : Calls Tryz.prog 13 #[.agg x.r.vals.toArray, .agg y.r.vals.toArray] w fun e w' => e = .returned (.bool (x.same y)) ∧ Below w.heap.size w w' := by
  obtain ⟨x, l, p⟩ := x
  obtain ⟨y, m, q⟩ := y
  obtain ⟨ne, nu, le, lu, hAe, hAu⟩ := hx
  obtain ⟨me, mu, _, _, hBe, hBu⟩ := hy
  simp only at ne nu le lu hAe hAu me mu hBe hBu ⊢
  obtain ⟨hA, hC, hB, -⟩ := chain2_blks w x.vals y.vals 48 48
  have hS : RepL.same ⟨x, l, p⟩ ⟨y, m, q⟩ = (decide (l = m) && (decide (p = q) && decide (x.bare = y.bare))) := rfl
  rw [hS]
  clear hS
  have hAe := hAe.below hB
  have hAu := hAu.below hB
  have hBe := hBe.below hB
  have hBu := hBu.below hB
  obtain ⟨w1, hw1⟩ : ∃ u, u = (w.alloc (.cells x.vals.toArray 48)).alloc (.cells y.vals.toArray 48) := ⟨_, rfl⟩
  rw [← hw1] at hA hC hB hAe hAu hBe hBu
  have HW1 := Lib.hid hw1
  clear hw1
  have hltA := hA.lt
  have hltC := hC.lt
  have a56 : w1.cell? ⟨w.heap.size, 56, none⟩ = some (.slice x.ea l.length x.ec) := by rw [hA.cell 56, ← ne]; rfl
  have a57 : w1.cell? ⟨w.heap.size, 57, none⟩ = some (.slice x.ua p.length x.uc) := by rw [hA.cell 57, ← nu]; rfl
  have c56 : w1.cell? ⟨w.heap.size + 1, 56, none⟩ = some (.slice y.ea m.length y.ec) := by rw [hC.cell 56, ← me]; rfl
  have c57 : w1.cell? ⟨w.heap.size + 1, 57, none⟩ = some (.slice y.ua q.length y.uc) := by rw [hC.cell 57, ← mu]; rfl
  clear ne nu me mu
  generalize x.ea = xa at *
  generalize x.ua = xu at *
  generalize y.ea = ya at *
  generalize y.ua = yu at *
  generalize x.ec = xc at *
  generalize x.uc = xd at *
  generalize y.ec = yc at *
  generalize y.uc = yd at *
  go_enter Tryz.func13, Tryz.ntmps13
  go_upto_region 1 with fail
  change Code.wp _ _ _ _ ((w.alloc (.cells x.vals.toArray 48)).alloc (.cells y.vals.toArray 48))
  rw [← HW1.out]
  clear HW1
  by_cases h1 : l.length = m.length
  case neg =>
    have hne : ((l.length : Int) != (m.length : Int)) = true := by simp; omega
    have HV := Lib.hid (show (decide (l = m) && (decide (p = q) && decide (x.bare = y.bare))) = false by rw [decide_eq_false (fun e => h1 (by rw [e]))]; rfl)
    clear h1 a57 c57
    go_wp2
    go_ret
    rw [HV.out]
    exact ⟨rfl, hB⟩
  by_cases h2 : p.length = q.length
  case neg =>
    have hne : ((l.length : Int) != (m.length : Int)) = false := by simp [h1]
    have hne2 : ((p.length : Int) != (q.length : Int)) = true := by simp; omega
    have HV := Lib.hid (show (decide (l = m) && (decide (p = q) && decide (x.bare = y.bare))) = false by rw [decide_eq_false (p := p = q) (fun e => h2 (by rw [e]))]; simp)
    clear h1 h2
    go_wp2
    go_ret
    rw [HV.out]
    exact ⟨rfl, hB⟩
  have hne : ((l.length : Int) != (m.length : Int)) = false := by simp [h1]
  have hne2 : ((p.length : Int) != (q.length : Int)) = false := by simp [h2]
  have H1 := Lib.hid h1
  have H2 := Lib.hid h2
  have HBz := Lib.hid hB
  clear h1 h2
  go_wp2
  clear hne hne2
  go_loopw [5] (fun i wr => ∃ k : Nat, k ≤ l.length ∧ i = .int .i64 k ∧ l.take k = m.take k ∧ Stb w1 wr) (fun i _ => l.length - (intOf i).toNat)
  case atStart => exact ⟨0, Nat.zero_le _, rfl, rfl, Stb.of (Below.refl _ _)⟩
  case round =>
    obtain ⟨k, hk, rfl, ht, hst⟩ := hrel
    have b56 := (hst.1 _ 56 hltA).trans a56
    have d56 := (hst.1 _ 56 hltC).trans c56
    have hszw := hst.2.2.size
    have gA : w.heap.size < wr.heap.size := Nat.lt_of_lt_of_le hltA hszw
    have gC : w.heap.size + 1 < wr.heap.size := Nat.lt_of_lt_of_le hltC hszw
    by_cases hlt : k < l.length
    · have hltm : k < m.length := by have := H1.out; omega
      obtain ⟨b1, o1, he1, hb1, r1, -⟩ := rowCell8 Entry.len (by omega) (hAe.below hst.below) hlt
      obtain ⟨b2, o2, he2, hb2, r2, -⟩ := rowCell8 Entry.len (by omega) (hBe.below hst.below) hltm
      rw [he1] at b56
      rw [he2] at d56
      have hk0 : (0 : Int) ≤ (k : Int) := Int.natCast_nonneg _
      have hk1 : (k : Int) < (l.length : Int) := by omega
      have hk2 : (k : Int) < (m.length : Int) := by omega
      have HT := Lib.hid (fun h => takeSame8 ht hlt hltm h)
      have HN := Lib.hid (show l[k] ≠ m[k] → l ≠ m from fun h e => h (by subst e; rfl))
      have HST := Lib.hid hst
      have HK := Lib.hid (And.intro a56 (And.intro a57 (And.intro c56 c57)))
      clear ht a56 a57 c56 c57 hst hszw he1 he2
      by_cases he : l[k] = m[k]
      · have hd : decide (l[k] ≠ m[k]) = false := decide_eq_false (by simpa using he)
        have HS := Lib.hid (HT.out he)
        clear he HT HN
        go_wp2_with fail
        go_region_held3 (fun W => Stb wr W) (first | exact Stb.start | assumption) (first | fail)
        have HSW := Lib.hid (Stb.of (bdN HST.out.below 1))
        go_wp2
        go_roundw
        case rel => exact ⟨k + 1, by omega, by go_num, HS.out, by first | exact Stb.of (HST.out.below).drew | exact Stb.of (bdN HST.out.below _)⟩
        case measure => simp [intOf]; omega
      · have hd : decide (l[k] ≠ m[k]) = true := decide_eq_true he
        have HV := Lib.hid (show (decide (l = m) && (decide (p = q) && decide (x.bare = y.bare))) = false by rw [decide_eq_false (HN.out he)]; rfl)
        have HBW := Lib.hid (below_then HBz.out HST.out.below)
        clear he HT HN
        go_wp2_with fail
        go_region_held3 (fun W => Stb wr W) (first | exact Stb.start | assumption) (first | fail)
        go_wp2
        go_ret
        rw [HV.out]
        exact ⟨rfl, bdN HBW.out _⟩
    · have hlm : l = m := by
        have h3 : k = l.length := by omega
        rw [h3, List.take_length, H1.out, List.take_length] at ht
        exact ht
      have HLM := Lib.hid hlm
      have HST1 := Lib.hid hst
      clear ht hlm hst hszw gA gC
      go_wp2
      clear b56 d56
      go_loopw [6] (fun i wz => ∃ k : Nat, k ≤ p.length ∧ i = .int .i64 k ∧ p.take k = q.take k ∧ Stb w1 wz) (fun i _ => p.length - (intOf i).toNat)
      case atStart => exact ⟨0, Nat.zero_le _, rfl, rfl, HST1.out⟩
      case round =>
        clear HST1
        obtain ⟨k, hk, rfl, ht, hst⟩ := hrel
        have b57 := (hst.1 _ 57 hltA).trans a57
        have d57 := (hst.1 _ 57 hltC).trans c57
        have hszw := hst.2.2.size
        have gA : w.heap.size < wr.heap.size := Nat.lt_of_lt_of_le hltA hszw
        have gC : w.heap.size + 1 < wr.heap.size := Nat.lt_of_lt_of_le hltC hszw
        by_cases hlt : k < p.length
        · have hltm : k < q.length := by have := H2.out; omega
          obtain ⟨b1, o1, he1, hb1, -, e1⟩ := rowCell8 (vals := int1) (sz := 1) (fun _ => rfl) (by omega) (hAu.below hst.below) hlt
          obtain ⟨b2, o2, he2, hb2, -, e2⟩ := rowCell8 (vals := int1) (sz := 1) (fun _ => rfl) (by omega) (hBu.below hst.below) hltm
          have e1 := e1 0 (.int .i64 p[k]) rfl
          have e2 := e2 0 (.int .i64 q[k]) rfl
          rw [Nat.add_zero, Nat.mul_one] at e1 e2
          rw [he1] at b57
          rw [he2] at d57
          have hk0 : (0 : Int) ≤ (k : Int) := Int.natCast_nonneg _
          have hk1 : (k : Int) < (p.length : Int) := by omega
          have hk2 : (k : Int) < (q.length : Int) := by omega
          have HT := Lib.hid (fun h => takeSame8 ht hlt hltm h)
          have HN := Lib.hid (show p[k] ≠ q[k] → p ≠ q from fun h e => h (by subst e; rfl))
          have HST := Lib.hid hst
          have HK := Lib.hid (And.intro a57 c57)
          clear ht a57 c57 a56 c56 hst hszw he1 he2
          by_cases he : p[k] = q[k]
          · have hd : (p[k] != q[k]) = false := by simpa using he
            have HS := Lib.hid (HT.out he)
            clear he HT HN
            generalize p[k] = u1 at *
            generalize q[k] = u2 at *
            go_wp2_with fail
            go_region_held3 (fun W => Stb wr W) (first | exact Stb.start | assumption) (first | fail)
            go_wp2
            go_roundw
            case rel => exact ⟨k + 1, by omega, by go_num, HS.out, by first | exact Stb.of (HST.out.below).drew | exact Stb.of (bdN HST.out.below _)⟩
            case measure => simp [intOf]; omega
          · have hd : (p[k] != q[k]) = true := by simpa using he
            have HV := Lib.hid (show (decide (l = m) && (decide (p = q) && decide (x.bare = y.bare))) = false by rw [decide_eq_false (HN.out he)]; simp)
            have HBW := Lib.hid (below_then HBz.out HST.out.below)
            clear he HT HN
            generalize p[k] = u1 at *
            generalize q[k] = u2 at *
            go_wp2_with fail
            go_region_held3 (fun W => Stb wr W) (first | exact Stb.start | assumption) (first | fail)
            go_wp2
            go_ret
            rw [HV.out]
            exact ⟨rfl, bdN HBW.out _⟩
        · have hpq : p = q := by
            have h3 : k = p.length := by omega
            rw [h3, List.take_length, H2.out, List.take_length] at ht
            exact ht
          have HBW := Lib.hid (below_then HBz.out hst.below)
          have HV := Lib.hid (show (decide (l = m) && (decide (p = q) && decide (x.bare = y.bare))) = decide (x.bare = y.bare) by rw [decide_eq_true HLM.out, decide_eq_true hpq]; rfl)
          have HE := Lib.hid (bare_eq x y)
          have HSF := Lib.hid hst
          clear ht hpq hst hszw a56 a57 c56 c57
          go_upto_region 13 with fail
          have hst := HSF.out
          clear b57 d57
          have fA : ∀ i, wr.cell? ⟨w.heap.size, i, none⟩ = x.vals[i]? := fun i => (hst.1 _ _ hltA).trans (hA.cell i)
          have fC : ∀ i, wr.cell? ⟨w.heap.size + 1, i, none⟩ = y.vals[i]? := fun i => (hst.1 _ _ hltC).trans (hC.cell i)
          have ra2 : rowOf wr w.heap.size 2 11 = some x.obj.vals.toArray := (hst.2.1 _ _ _ hltA).trans (hA.row 2 11 (by simp [Reply.len]))
          have rc2 : rowOf wr (w.heap.size + 1) 2 11 = some y.obj.vals.toArray := (hst.2.1 _ _ _ hltC).trans (hC.row 2 11 (by simp [Reply.len]))
          have ra13 : rowOf wr w.heap.size 13 11 = some x.dir.vals.toArray := (hst.2.1 _ _ _ hltA).trans (hA.row 13 11 (by simp [Reply.len]))
          have rc13 : rowOf wr (w.heap.size + 1) 13 11 = some y.dir.vals.toArray := (hst.2.1 _ _ _ hltC).trans (hC.row 13 11 (by simp [Reply.len]))
          have ra24 : rowOf wr w.heap.size 24 13 = some x.wcc.vals.toArray := (hst.2.1 _ _ _ hltA).trans (hA.row 24 13 (by simp [Reply.len]))
          have rc24 : rowOf wr (w.heap.size + 1) 24 13 = some y.wcc.vals.toArray := (hst.2.1 _ _ _ hltC).trans (hC.row 24 13 (by simp [Reply.len]))
          have ra37 : rowOf wr w.heap.size 37 13 = some x.wcc2.vals.toArray := (hst.2.1 _ _ _ hltA).trans (hA.row 37 13 (by simp [Reply.len]))
          have rc37 : rowOf wr (w.heap.size + 1) 37 13 = some y.wcc2.vals.toArray := (hst.2.1 _ _ _ hltC).trans (hC.row 37 13 (by simp [Reply.len]))
          clear hst HSF hAe hAu hBe hBu hA hC
          go_wp2
          all_goals go_ret
          all_goals refine ⟨ret_bool ?_, HBW.out⟩
          all_goals rw [HV.out]
          all_goals first
            | (symm; refine decide_eq_false fun e => ?_; obtain ⟨e0, e1, e2, e3, e4, e5, e6, e7, e8, e9, e10, e11⟩ := HE.out.1 e; contradiction)
            | (by_cases hv : x.verf = y.verf
               · rw [decide_eq_true (HE.out.2 ⟨by assumption, by assumption, by assumption, by assumption, by assumption, by assumption, by assumption, by assumption, by assumption, by assumption, by assumption, hv⟩)]
                 exact beq_iff_eq.2 hv
               · rw [decide_eq_false (fun e => hv (HE.out.1 e).2.2.2.2.2.2.2.2.2.2.2)]
                 exact beq_false_of_ne hv)
end Go.Proofs.YtgifmpobokaejaaGreatDoor
