/-
  Layer 8, walks: are results the same, with what is told of their lists (written by wip/tools/gensame8.py). Conditions: what slices.Equal tells of both lists.
-/
import Derived.Test.YtmkhpgpnahligaaReplyWalkE
import Derived.Deep.WholeRow
namespace Go.Proofs.Ytmkhpgpnahligaa
open Go.RowKit
attribute [local go_sem ↓] Go.wp_at_zero Go.wp_at_succ
attribute [local go_sem] rowAt_ptr rowOf_drew rowOf_drewN rowOf_alloc_past rowOf_new
attribute [local go_sem ↓] ldReply

attribute [local go_sem] Reply.at0 Reply.lat0 Reply.at1 Reply.lat1 Reply.at2 Reply.lat2 Reply.at3 Reply.lat3 Reply.at4 Reply.lat4 Reply.at5 Reply.lat5 Reply.at6 Reply.lat6 Reply.at7 Reply.lat7 Reply.at8 Reply.lat8 Reply.at9 Reply.lat9 Reply.at10 Reply.lat10 Reply.at11 Reply.lat11 Reply.at12 Reply.lat12 Reply.at13 Reply.lat13 Reply.at14 Reply.lat14 Reply.at15 Reply.lat15 Reply.at16 Reply.lat16 Reply.at17 Reply.lat17 Reply.at18 Reply.lat18 Reply.at19 Reply.lat19 Reply.at20 Reply.lat20 Reply.at21 Reply.lat21 Reply.at22 Reply.lat22 Reply.at23 Reply.lat23 Reply.at24 Reply.lat24 Reply.at25 Reply.lat25 Reply.at26 Reply.lat26 Reply.at27 Reply.lat27 Reply.at28 Reply.lat28 Reply.at29 Reply.lat29 Reply.at30 Reply.lat30 Reply.at31 Reply.lat31 Reply.at32 Reply.lat32 Reply.at33 Reply.lat33 Reply.at34 Reply.lat34 Reply.at35 Reply.lat35 Reply.at36 Reply.lat36 Reply.at37 Reply.lat37 Reply.at38 Reply.lat38 Reply.at39 Reply.lat39 Reply.at40 Reply.lat40 Reply.at41 Reply.lat41 Reply.at42 Reply.lat42 Reply.at43 Reply.lat43 Reply.at44 Reply.lat44 Reply.at45 Reply.lat45 Reply.at46 Reply.lat46 Reply.at47 Reply.lat47 Reply.at48 Reply.lat48 Reply.at49 Reply.lat49 Reply.at50 Reply.lat50 Reply.at51 Reply.lat51 Reply.at52 Reply.lat52 Reply.at53 Reply.lat53 Reply.at54 Reply.lat54 Reply.at55 Reply.lat55 Reply.at56 Reply.lat56 Reply.at57 Reply.lat57 Reply.sub0_58 Reply.lsub0_58 Reply.sub2_11 Reply.lsub2_11 Reply.sub3_10 Reply.lsub3_10 Reply.sub13_11 Reply.lsub13_11 Reply.sub14_10 Reply.lsub14_10 Reply.sub24_13 Reply.lsub24_13 Reply.sub24_2 Reply.lsub24_2 Reply.sub26_11 Reply.lsub26_11 Reply.sub27_10 Reply.lsub27_10 Reply.sub37_13 Reply.lsub37_13 Reply.sub37_2 Reply.lsub37_2 Reply.sub39_11 Reply.lsub39_11 Reply.sub40_10 Reply.lsub40_10 Reply.len

theorem Flds.inj {x y : Flds} (h : x.vals = y.vals) : x = y := by
  obtain ⟨_, _, _, ⟨_, ⟨_, _, _, _, _, _, _, _, _, _⟩⟩, ⟨_, ⟨_, _, _, _, _, _, _, _, _, _⟩⟩, ⟨⟨_, _⟩, ⟨_, ⟨_, _, _, _, _, _, _, _, _, _⟩⟩⟩, ⟨⟨_, _⟩, ⟨_, ⟨_, _, _, _, _, _, _, _, _, _⟩⟩⟩, _, _, _, _, _⟩ := x
  obtain ⟨_, _, _, ⟨_, ⟨_, _, _, _, _, _, _, _, _, _⟩⟩, ⟨_, ⟨_, _, _, _, _, _, _, _, _, _⟩⟩, ⟨⟨_, _⟩, ⟨_, ⟨_, _, _, _, _, _, _, _, _, _⟩⟩⟩, ⟨⟨_, _⟩, ⟨_, ⟨_, _, _, _, _, _, _, _, _, _⟩⟩⟩, _, _, _, _, _⟩ := y
  simp only [Flds.vals, Post.vals, Wcc.vals, Opt.vals, Attr.vals, List.cons_append, List.nil_append, List.cons.injEq, Value.int.injEq, Value.bool.injEq, Value.string.injEq, true_and, and_true] at h
  obtain ⟨h0, h1, h2, h3, h4, h5, h6, h7, h8, h9, h10, h11, h12, h13, h14, h15, h16, h17, h18, h19, h20, h21, h22, h23, h24, h25, h26, h27, h28, h29, h30, h31, h32, h33, h34, h35, h36, h37, h38, h39, h40, h41, h42, h43, h44, h45, h46, h47, h48, h49, h50, h51, h52, h53, h54, h55⟩ := h
  have h1 := bs_inj h1
  have h2 := bs_inj h2
  subst_vars
  rfl
theorem eqlFlds (x y : Flds) (w : World) : (binOp .eql 67 (.agg x.vals.toArray) (.agg y.vals.toArray)).run Try.prog w = .ok (.bool (decide (x = y))) w := by
  by_cases h : x = y
  · rw [eql_same leafsFlds (by kernel_rfl) w _ _ (by rfl) (by rw [h]), decide_eq_true h]
  · rw [eql_other leafsFlds (by kernel_rfl) w _ _ (by rfl) (by rfl) (fun e => h (Flds.inj e)), decide_eq_false h]
attribute [local go_sem ↓] eqlFlds

attribute [local go_sem] guardFlds

theorem setCells_past8 (u : World) (o : Obj) (n : Nat) (_hn : n < u.heap.size) : ∀ (vs : List Value) (i : Nat) (u : World), n < u.heap.size → (u.alloc o).setCells n i vs = (u.setCells n i vs).alloc o
  | [], _, _, _ => rfl
  | v :: vs, i, u, h => by
    rw [World.setCells, World.setCells, World.setCell_alloc_past _ _ _ _ h]
    exact setCells_past8 u o n h vs (i + 1) _ (by simpa using h)
theorem setCells_drew8 (n : Nat) : ∀ (vs : List Value) (i : Nat) (u : World), u.drew.setCells n i vs = (u.setCells n i vs).drew
  | [], _, _ => rfl
  | v :: vs, i, u => by
    rw [World.setCells, World.setCells]
    exact setCells_drew8 n vs (i + 1) (u.setCell ⟨n, i, none⟩ v)
theorem storeGen8 (r : Reply) (X : World) (n : Nat) (hB : Blk X n 46 replyZ.vals) : (storeCells ⟨n, 0, none⟩ r.vals 0).run Try.prog X = .ok () (X.setCells n 0 r.vals) := by
  have ht := hB.there 0 58 (by rw [Reply.len]; omega)
  exact run_storeCells_cells (P := Try.prog) n 0 r.vals 0 X (fun j hj => by simpa only [Nat.zero_add, Nat.add_zero] using (ht j (by rw [Reply.len] at hj; exact hj)).1) (fun j hj => by simpa only [Nat.zero_add, Nat.add_zero] using (ht j (by rw [Reply.len] at hj; exact hj)).2) (Reply.one _)
theorem set1_8 (r : Reply) (u : World) (o : Obj) : ((u.alloc (.cells replyZ.vals.toArray 46)).alloc o).setCells u.heap.size 0 r.vals = (u.alloc (.cells r.vals.toArray 46)).alloc o := by
  have h1 := setCells_new u 46 r.vals [] replyZ.vals rfl
  have h2 := setCells_past8 (u.alloc (.cells replyZ.vals.toArray 46)) o u.heap.size (by simp) r.vals 0 (u.alloc (.cells replyZ.vals.toArray 46)) (by simp)
  rw [h2]
  exact congrArg (fun x => x.alloc o) h1
theorem set2_8 (r : Reply) (u : World) (o : Obj) : ((u.alloc o).alloc (.cells replyZ.vals.toArray 46)).setCells (u.heap.size + 1) 0 r.vals = (u.alloc o).alloc (.cells r.vals.toArray 46) := by
  have h1 := setCells_new (u.alloc o) 46 r.vals [] replyZ.vals rfl
  have hs : (u.alloc o).heap.size = u.heap.size + 1 := by simp
  rw [hs] at h1
  exact h1
theorem store1_8 (r : Reply) (u : World) (o : Obj) : (storeCells ⟨u.heap.size, 0, none⟩ r.vals 0).run Try.prog ((u.alloc (.cells #[.int .i64 0, .string ⟨#[]⟩, .bool false, .int .i64 0, .int .i64 0, .int .i64 0, .int .i64 0, .int .i64 0, .int .i64 0, .int .i64 0, .int .i64 0, .int .i64 0, .int .i64 0, .bool false, .int .i64 0, .int .i64 0, .int .i64 0, .int .i64 0, .int .i64 0, .int .i64 0, .int .i64 0, .int .i64 0, .int .i64 0, .int .i64 0, .bool false, .int .i64 0, .bool false, .int .i64 0, .int .i64 0, .int .i64 0, .int .i64 0, .int .i64 0, .int .i64 0, .int .i64 0, .int .i64 0, .int .i64 0, .int .i64 0, .bool false, .int .i64 0, .bool false, .int .i64 0, .int .i64 0, .int .i64 0, .int .i64 0, .int .i64 0, .int .i64 0, .int .i64 0, .int .i64 0, .int .i64 0, .int .i64 0, .int .i64 0, .int .i64 0, .bool false, .string ⟨#[]⟩, .int .i64 0, .int .i64 0, .slice none 0 0, .slice none 0 0] 46)).alloc o).drew = .ok () ((u.alloc (.cells r.vals.toArray 46)).alloc o).drew := by
  rw [← set1_8 r u o, ← setCells_drew8]
  exact storeGen8 r _ _ (Blk.drew ((Blk.new u _ replyZ.vals).alloc o))
theorem store2_8 (r : Reply) (u : World) (o : Obj) : (storeCells ⟨u.heap.size + 1, 0, none⟩ r.vals 0).run Try.prog ((u.alloc o).alloc (.cells #[.int .i64 0, .string ⟨#[]⟩, .bool false, .int .i64 0, .int .i64 0, .int .i64 0, .int .i64 0, .int .i64 0, .int .i64 0, .int .i64 0, .int .i64 0, .int .i64 0, .int .i64 0, .bool false, .int .i64 0, .int .i64 0, .int .i64 0, .int .i64 0, .int .i64 0, .int .i64 0, .int .i64 0, .int .i64 0, .int .i64 0, .int .i64 0, .bool false, .int .i64 0, .bool false, .int .i64 0, .int .i64 0, .int .i64 0, .int .i64 0, .int .i64 0, .int .i64 0, .int .i64 0, .int .i64 0, .int .i64 0, .int .i64 0, .bool false, .int .i64 0, .bool false, .int .i64 0, .int .i64 0, .int .i64 0, .int .i64 0, .int .i64 0, .int .i64 0, .int .i64 0, .int .i64 0, .int .i64 0, .int .i64 0, .int .i64 0, .int .i64 0, .bool false, .string ⟨#[]⟩, .int .i64 0, .int .i64 0, .slice none 0 0, .slice none 0 0] 46)).drew = .ok () ((u.alloc o).alloc (.cells r.vals.toArray 46)).drew := by
  rw [← set2_8 r u o, ← setCells_drew8]
  have hs : (u.alloc o).heap.size = u.heap.size + 1 := by simp
  exact storeGen8 r _ _ (Blk.drew (hs ▸ Blk.new (u.alloc o) _ replyZ.vals))
attribute [local go_sem ↓] store1_8 store2_8

set_option maxRecDepth 20000 in
set_option maxHeartbeats 1600000 in
theorem same8_any (a b : Reply) (xe xu : Bool) (w : World) (hE : ∀ W, Below w.heap.size w W → Calls Try.prog 32 #[.slice a.ea a.en a.ec, .slice b.ea b.en b.ec] W fun e w' => e = .returned (.bool xe) ∧ Below W.heap.size W w')
    (hU : ∀ W, Below w.heap.size w W → Calls Try.prog 33 #[.slice a.ua a.un a.uc, .slice b.ua b.un b.uc] W fun e w' => e = .returned (.bool xu) ∧ Below W.heap.size W w') :
    Calls Try.prog 20 #[.agg a.vals.toArray, .agg b.vals.toArray] w fun e w' => e = .returned (.bool (xe && (xu && decide (a.bare = b.bare)))) ∧ Below w.heap.size w w' := by
  obtain ⟨hA, hC, hB, -⟩ := chain2_blks w a.vals b.vals 46 46
  obtain ⟨w1, hw1⟩ : ∃ u, u = (w.alloc (.cells a.vals.toArray 46)).alloc (.cells b.vals.toArray 46) := ⟨_, rfl⟩
  rw [← hw1] at hA hC hB
  have HW1 := Lib.hid hw1
  have rA : rowOf w1 w.heap.size 0 58 = some a.vals.toArray := hA.row 0 58 (by simp [Reply.len])
  have rC : rowOf w1 (w.heap.size + 1) 0 58 = some b.vals.toArray := hC.row 0 58 (by simp [Reply.len])
  have hltA := hA.lt
  have hltC := hC.lt
  clear hw1
  go_enter Try.func20, Try.ntmps20
  go_upto_region 1 with fail
  change Code.wp _ _ _ _ ((w.alloc (.cells a.vals.toArray 46)).alloc (.cells b.vals.toArray 46))
  rw [← HW1.out]
  clear HW1
  go_cut [5, 6] from 7 (fun v5 v6 wx => ∃ b5 b6 : Nat, v5 = .pointer (some ⟨b5, 0, none⟩) ∧ v6 = .pointer (some ⟨b6, 0, none⟩) ∧ Blk wx b5 46 a.vals ∧ Blk wx b6 46 b.vals ∧ Stb w1 wx)
  case first =>
    go_region_held3 (fun W => Stb w1 W) (first | exact Stb.start | assumption | (exact Stb.alloc (Stb.alloc Stb.start _) _) | (exact Stb.alloc Stb.start _)) (first | fail)
    all_goals
      go_wp2
      go_meet
      case rel =>
        first
        | (obtain ⟨k1, k2, k3, -⟩ := chain2_blks w1 a.vals b.vals 46 46; exact ⟨_, _, rfl, rfl, k1.drew, k2.drew, Stb.of k3.drew⟩)
        | (obtain ⟨k1, k2, k3, -⟩ := chain2_blks w1 b.vals a.vals 46 46; exact ⟨_, _, rfl, rfl, k2.drew, k1.drew, Stb.of k3.drew⟩)
  obtain ⟨b5, b6, rfl, rfl, h5, h6, hst⟩ := hcut
  have hcA : ∀ i, wc.cell? ⟨w.heap.size, i, none⟩ = a.vals[i]? := fun i => (hst.1 _ _ hltA).trans (hA.cell i)
  have hcC : ∀ i, wc.cell? ⟨w.heap.size + 1, i, none⟩ = b.vals[i]? := fun i => (hst.1 _ _ hltC).trans (hC.cell i)
  have hBc := below_then hB hst.below
  clear rA rC
  have HST := Lib.hid hst
  clear hst
  have HA := Lib.hid (hE wc hBc)
  clear hE
  go_wp2_with fail
  refine HA.out.mono ?_
  rintro e w2 ⟨rfl, hx⟩
  have hst2 := HST.out.call hx
  have hB2 := below_then hBc hx
  have h5 := h5.stays hx
  have h6 := h6.stays hx
  clear hcA hcC hBc hx HA HST
  cases xe with
  | false =>
    clear hU hst2
    go_wp2
    go_ret
    exact ⟨rfl, hB2⟩
  | true =>
    have hcA : ∀ i, w2.cell? ⟨w.heap.size, i, none⟩ = a.vals[i]? := fun i => (hst2.1 _ _ hltA).trans (hA.cell i)
    have hcC : ∀ i, w2.cell? ⟨w.heap.size + 1, i, none⟩ = b.vals[i]? := fun i => (hst2.1 _ _ hltC).trans (hC.cell i)
    have HU := Lib.hid (hU w2 hB2)
    clear hU hst2
    go_wp2_with fail
    refine HU.out.mono ?_
    rintro e w3 ⟨rfl, hx⟩
    have hB3 := below_then hB2 hx
    have h5 := h5.stays hx
    have h6 := h6.stays hx
    clear hcA hcC hB2 hx HU
    cases xu with
    | false =>
      go_wp2
      go_ret
      exact ⟨rfl, hB3⟩
    | true =>
      go_wp2_with fail
      refine (bare8_any b5 a _ h5).mono ?_
      rintro e w4 ⟨rfl, hx⟩
      have hB4 := below_then hB3 hx
      have h6 := h6.stays hx
      clear hB3 hx h5
      go_wp2_with fail
      refine (bare8_any b6 b _ h6).mono ?_
      rintro e w5 ⟨rfl, hx⟩
      have hB5 := below_then hB4 hx
      clear hB4 hx h6
      go_wp2
      go_ret
      exact ⟨rfl, hB5⟩
end Go.Proofs.Ytmkhpgpnahligaa
