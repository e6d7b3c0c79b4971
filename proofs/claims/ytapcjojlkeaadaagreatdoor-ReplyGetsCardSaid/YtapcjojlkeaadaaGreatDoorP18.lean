/-
  Layer 8, walks: are results the same, with what is told of their lists (written by wip/tools/gensame8.py). Conditions: what slices.Equal tells of both lists.
-/
import Derived.Test.YtapcjojlkeaadaaGreatDoorP10
import Derived.Deep.WholeRow
import Derived.Test.YtapcjojlkeaadaaGreatDoorP07
import Derived.Test.YtapcjojlkeaadaaGreatDoorP03
import Derived.Test.YtapcjojlkeaadaaGreatDoorP16
import Derived.Deep.RegionLaw
namespace Go.Proofs.YtapcjojlkeaadaaGreatDoor
open Go.RowKit
attribute [local go_sem ↓] Go.wp_at_zero Go.wp_at_succ
attribute [local go_sem] rowAt_ptr rowOf_drew rowOf_drewN rowOf_alloc_past rowOf_new
attribute [local go_sem ↓] ldReply

attribute [local go_sem] Reply.at0 Reply.lat0 Reply.at1 Reply.lat1 Reply.at2 Reply.lat2 Reply.at3 Reply.lat3 Reply.at4 Reply.lat4 Reply.at5 Reply.lat5 Reply.at6 Reply.lat6 Reply.at7 Reply.lat7 Reply.at8 Reply.lat8 Reply.at9 Reply.lat9 Reply.at10 Reply.lat10 Reply.at11 Reply.lat11 Reply.at12 Reply.lat12 Reply.at13 Reply.lat13 Reply.at14 Reply.lat14 Reply.at15 Reply.lat15 Reply.at16 Reply.lat16 Reply.at17 Reply.lat17 Reply.at18 Reply.lat18 Reply.at19 Reply.lat19 Reply.at20 Reply.lat20 Reply.at21 Reply.lat21 Reply.at22 Reply.lat22 Reply.at23 Reply.lat23 Reply.at24 Reply.lat24 Reply.at25 Reply.lat25 Reply.at26 Reply.lat26 Reply.at27 Reply.lat27 Reply.at28 Reply.lat28 Reply.at29 Reply.lat29 Reply.at30 Reply.lat30 Reply.at31 Reply.lat31 Reply.at32 Reply.lat32 Reply.at33 Reply.lat33 Reply.at34 Reply.lat34 Reply.at35 Reply.lat35 Reply.at36 Reply.lat36 Reply.at37 Reply.lat37 Reply.at38 Reply.lat38 Reply.at39 Reply.lat39 Reply.at40 Reply.lat40 Reply.at41 Reply.lat41 Reply.at42 Reply.lat42 Reply.at43 Reply.lat43 Reply.at44 Reply.lat44 Reply.at45 Reply.lat45 Reply.at46 Reply.lat46 Reply.at47 Reply.lat47 Reply.at48 Reply.lat48 Reply.at49 Reply.lat49 Reply.at50 Reply.lat50 Reply.at51 Reply.lat51 Reply.at52 Reply.lat52 Reply.at53 Reply.lat53 Reply.at54 Reply.lat54 Reply.at55 Reply.lat55 Reply.at56 Reply.lat56 Reply.at57 Reply.lat57 Reply.sub0_58 Reply.lsub0_58 Reply.sub2_11 Reply.lsub2_11 Reply.sub3_10 Reply.lsub3_10 Reply.sub13_11 Reply.lsub13_11 Reply.sub14_10 Reply.lsub14_10 Reply.sub24_13 Reply.lsub24_13 Reply.sub24_2 Reply.lsub24_2 Reply.sub26_11 Reply.lsub26_11 Reply.sub27_10 Reply.lsub27_10 Reply.sub37_13 Reply.lsub37_13 Reply.sub37_2 Reply.lsub37_2 Reply.sub39_11 Reply.lsub39_11 Reply.sub40_10 Reply.lsub40_10 Reply.len

theorem Flds.inj {x y : Flds} (h : x.vals = y.vals) : x = y := by
  obtain ⟨_, _, _, ⟨_, ⟨_, _, _, _, _, _, _, _, _, _⟩⟩, ⟨_, ⟨_, _, _, _, _, _, _, _, _, _⟩⟩, ⟨⟨_, _⟩, ⟨_, ⟨_, _, _, _, _, _, _, _, _, _⟩⟩⟩, ⟨⟨_, _⟩, ⟨_, ⟨_, _, _, _, _, _, _, _, _, _⟩⟩⟩, _, _, _, _, _⟩ := x
  obtain ⟨_, _, _, ⟨_, ⟨_, _, _, _, _, _, _, _, _, _⟩⟩, ⟨_, ⟨_, _, _, _, _, _, _, _, _, _⟩⟩, ⟨⟨_, _⟩, ⟨_, ⟨_, _, _, _, _, _, _, _, _, _⟩⟩⟩, ⟨⟨_, _⟩, ⟨_, ⟨_, _, _, _, _, _, _, _, _, _⟩⟩⟩, _, _, _, _, _⟩ := y
  simp only [Flds.vals, Post.vals, Wcc.vals, Opt.vals, Attr.vals, List.cons_append, List.nil_append, List.cons.injEq, Value.int.injEq, Value.bool.injEq, Value.string.injEq, true_and, and_true] at h
  obtain ⟨h0, h1, h2, h3, h4, h5, h6, h7, h8, h9, h10, h11, h12, h13, h14, h15, h16, h17, h18, h19, h20, h21, h22, h23, h24, h25, h26, h27, h28, h29, h30, h31, h32, h33, h34, h35, h36, h37, h38, h39, h40, h41, h42, h43, h44, h45, h46, h47, h48, h49, h50, h51, h52, h53, h54, h55⟩ := h
  have h1 := bs_inj h1
  have h2 := bs_inj h2
  subst_vars
  rfl
theorem eqlFlds (x y : Flds) (w : World) : (binOp .eql 128 (.agg x.vals.toArray) (.agg y.vals.toArray)).run Tryz.prog w = .ok (.bool (decide (x = y))) w := by
  by_cases h : x = y
  · rw [eql_same leafsFlds (by kernel_rfl) w _ _ (by rfl) (by rw [h]), decide_eq_true h]
  · rw [eql_other leafsFlds (by kernel_rfl) w _ _ (by rfl) (by rfl) (fun e => h (Flds.inj e)), decide_eq_false h]
attribute [local go_sem ↓] eqlFlds

attribute [local go_sem] guardFlds

theorem setCells_past8 (u : World) (o : Obj) (n : Nat) (_hn : n < u.heap.size) : ∀ (vs : List Value) (i : Nat) (u : World), n < u.heap.size → (u.alloc o).setCells n i vs = (u.setCells n i vs).alloc o
  | [], _, _, _ => rfl
  | v :: vs, i, u, h => by
    rw [World.setCells, World.setCells, World.setCell_alloc_past _ _ _ _ h]
    exact setCells_past8 u o n h vs (i + 1) _ (by simpa using h)
theorem setCells_drew8 (n : Nat) : ∀ (vs : List Value) (i : Nat) (u : World), u.drew.setCells n i vs = (u.setCells n i vs).drew
  | [], _, _ => rfl
  | v :: vs, i, u => by
    rw [World.setCells, World.setCells]
    exact setCells_drew8 n vs (i + 1) (u.setCell ⟨n, i, none⟩ v)
theorem storeGen8 (r : Reply) (X : World) (n : Nat) (hB : Blk X n 35 replyZ.vals) : (storeCells ⟨n, 0, none⟩ r.vals 0).run Tryz.prog X = .ok () (X.setCells n 0 r.vals) := by
  have ht := hB.there 0 58 (by rw [Reply.len]; omega)
  exact run_storeCells_cells (P := Tryz.prog) n 0 r.vals 0 X (fun j hj => by simpa only [Nat.zero_add, Nat.add_zero] using (ht j (by rw [Reply.len] at hj; exact hj)).1) (fun j hj => by simpa only [Nat.zero_add, Nat.add_zero] using (ht j (by rw [Reply.len] at hj; exact hj)).2) (Reply.one _)
theorem set1_8 (r : Reply) (u : World) (o : Obj) : ((u.alloc (.cells replyZ.vals.toArray 35)).alloc o).setCells u.heap.size 0 r.vals = (u.alloc (.cells r.vals.toArray 35)).alloc o := by
  have h1 := setCells_new u 35 r.vals [] replyZ.vals rfl
  have h2 := setCells_past8 (u.alloc (.cells replyZ.vals.toArray 35)) o u.heap.size (by simp) r.vals 0 (u.alloc (.cells replyZ.vals.toArray 35)) (by simp)
  rw [h2]
  exact congrArg (fun x => x.alloc o) h1
theorem set2_8 (r : Reply) (u : World) (o : Obj) : ((u.alloc o).alloc (.cells replyZ.vals.toArray 35)).setCells (u.heap.size + 1) 0 r.vals = (u.alloc o).alloc (.cells r.vals.toArray 35) := by
  have h1 := setCells_new (u.alloc o) 35 r.vals [] replyZ.vals rfl
  have hs : (u.alloc o).heap.size = u.heap.size + 1 := by simp
  rw [hs] at h1
  exact h1
theorem store1_8 (r : Reply) (u : World) (o : Obj) : (storeCells ⟨u.heap.size, 0, none⟩ r.vals 0).run Tryz.prog ((u.alloc (.cells #[.int .i64 0, .string ⟨#[]⟩, .bool false, .int .i64 0, .int .i64 0, .int .i64 0, .int .i64 0, .int .i64 0, .int .i64 0, .int .i64 0, .int .i64 0, .int .i64 0, .int .i64 0, .bool false, .int .i64 0, .int .i64 0, .int .i64 0, .int .i64 0, .int .i64 0, .int .i64 0, .int .i64 0, .int .i64 0, .int .i64 0, .int .i64 0, .bool false, .int .i64 0, .bool false, .int .i64 0, .int .i64 0, .int .i64 0, .int .i64 0, .int .i64 0, .int .i64 0, .int .i64 0, .int .i64 0, .int .i64 0, .int .i64 0, .bool false, .int .i64 0, .bool false, .int .i64 0, .int .i64 0, .int .i64 0, .int .i64 0, .int .i64 0, .int .i64 0, .int .i64 0, .int .i64 0, .int .i64 0, .int .i64 0, .int .i64 0, .int .i64 0, .bool false, .string ⟨#[]⟩, .int .i64 0, .int .i64 0, .slice none 0 0, .slice none 0 0] 35)).alloc o).drew = .ok () ((u.alloc (.cells r.vals.toArray 35)).alloc o).drew := by
  rw [← set1_8 r u o, ← setCells_drew8]
  exact storeGen8 r _ _ (Blk.drew ((Blk.new u _ replyZ.vals).alloc o))
theorem store2_8 (r : Reply) (u : World) (o : Obj) : (storeCells ⟨u.heap.size + 1, 0, none⟩ r.vals 0).run Tryz.prog ((u.alloc o).alloc (.cells #[.int .i64 0, .string ⟨#[]⟩, .bool false, .int .i64 0, .int .i64 0, .int .i64 0, .int .i64 0, .int .i64 0, .int .i64 0, .int .i64 0, .int .i64 0, .int .i64 0, .int .i64 0, .bool false, .int .i64 0, .int .i64 0, .int .i64 0, .int .i64 0, .int .i64 0, .int .i64 0, .int .i64 0, .int .i64 0, .int .i64 0, .int .i64 0, .bool false, .int .i64 0, .bool false, .int .i64 0, .int .i64 0, .int .i64 0, .int .i64 0, .int .i64 0, .int .i64 0, .int .i64 0, .int .i64 0, .int .i64 0, .int .i64 0, .bool false, .int .i64 0, .bool false, .int .i64 0, .int .i64 0, .int .i64 0, .int .i64 0, .int .i64 0, .int .i64 0, .int .i64 0, .int .i64 0, .int .i64 0, .int .i64 0, .int .i64 0, .int .i64 0, .bool false, .string ⟨#[]⟩, .int .i64 0, .int .i64 0, .slice none 0 0, .slice none 0 0] 35)).drew = .ok () ((u.alloc o).alloc (.cells r.vals.toArray 35)).drew := by
  rw [← set2_8 r u o, ← setCells_drew8]
  have hs : (u.alloc o).heap.size = u.heap.size + 1 := by simp
  exact storeGen8 r _ _ (Blk.drew (hs ▸ Blk.new (u.alloc o) _ replyZ.vals))
attribute [local go_sem ↓] store1_8 store2_8

set_option maxRecDepth 20000 in
set_option maxHeartbeats 1600000 in
theorem same8_any (a b : Reply) (xe xu : Bool) (w : World) (hE : ∀ W, Below w.heap.size w W → Calls Tryz.prog 84 #[.slice a.ea a.en a.ec, .slice b.ea b.en b.ec] W fun e w' => e = .returned (.bool xe) ∧ Below W.heap.size W w')
    (hU : ∀ W, Below w.heap.size w W → Calls Tryz.prog 85 #[.slice a.ua a.un a.uc, .slice b.ua b.un b.uc] W fun e w' => e = .returned (.bool xu) ∧ Below W.heap.size W w') :
    Calls Tryz.prog 54 #[.agg a.vals.toArray, .agg b.vals.toArray] w fun e w' => e = .returned (.bool (xe && (xu && decide (a.bare = b.bare)))) ∧ Below w.heap.size w w' := by
  obtain ⟨hA, hC, hB, -⟩ := chain2_blks w a.vals b.vals 35 35
  obtain ⟨w1, hw1⟩ : ∃ u, u = (w.alloc (.cells a.vals.toArray 35)).alloc (.cells b.vals.toArray 35) := ⟨_, rfl⟩
  rw [← hw1] at hA hC hB
  have HW1 := Lib.hid hw1
  have rA : rowOf w1 w.heap.size 0 58 = some a.vals.toArray := hA.row 0 58 (by simp [Reply.len])
  have rC : rowOf w1 (w.heap.size + 1) 0 58 = some b.vals.toArray := hC.row 0 58 (by simp [Reply.len])
  have hltA := hA.lt
  have hltC := hC.lt
  clear hw1
  go_enter Tryz.func54, Tryz.ntmps54
  go_upto_region 1 with fail
  change Code.wp _ _ _ _ ((w.alloc (.cells a.vals.toArray 35)).alloc (.cells b.vals.toArray 35))
  rw [← HW1.out]
  clear HW1
  go_cut [5, 6] from 7 (fun v5 v6 wx => ∃ b5 b6 : Nat, v5 = .pointer (some ⟨b5, 0, none⟩) ∧ v6 = .pointer (some ⟨b6, 0, none⟩) ∧ Blk wx b5 35 a.vals ∧ Blk wx b6 35 b.vals ∧ Stb w1 wx)
  case first =>
    go_region_held3 (fun W => Stb w1 W) (first | exact Stb.start | assumption | (exact Stb.alloc (Stb.alloc Stb.start _) _) | (exact Stb.alloc Stb.start _)) (first | fail)
    all_goals
      go_wp2
      go_meet
      case rel =>
        first
        | (obtain ⟨k1, k2, k3, -⟩ := chain2_blks w1 a.vals b.vals 35 35; exact ⟨_, _, rfl, rfl, k1.drew, k2.drew, Stb.of k3.drew⟩)
        | (obtain ⟨k1, k2, k3, -⟩ := chain2_blks w1 b.vals a.vals 35 35; exact ⟨_, _, rfl, rfl, k2.drew, k1.drew, Stb.of k3.drew⟩)
  obtain ⟨b5, b6, rfl, rfl, h5, h6, hst⟩ := hcut
  have hcA : ∀ i, wc.cell? ⟨w.heap.size, i, none⟩ = a.vals[i]? := fun i => (hst.1 _ _ hltA).trans (hA.cell i)
  have hcC : ∀ i, wc.cell? ⟨w.heap.size + 1, i, none⟩ = b.vals[i]? := fun i => (hst.1 _ _ hltC).trans (hC.cell i)
  have hBc := below_then hB hst.below
  clear rA rC
  have HST := Lib.hid hst
  clear hst
  have HA := Lib.hid (hE wc hBc)
  clear hE
  go_wp2_with fail
  refine HA.out.mono ?_
  rintro e w2 ⟨rfl, hx⟩
  have hst2 := HST.out.call hx
  have hB2 := below_then hBc hx
  have h5 := h5.stays hx
  have h6 := h6.stays hx
  clear hcA hcC hBc hx HA HST
  cases xe with
  | false =>
    clear hU hst2
    go_wp2
    go_ret
    exact ⟨rfl, hB2⟩
  | true =>
    have hcA : ∀ i, w2.cell? ⟨w.heap.size, i, none⟩ = a.vals[i]? := fun i => (hst2.1 _ _ hltA).trans (hA.cell i)
    have hcC : ∀ i, w2.cell? ⟨w.heap.size + 1, i, none⟩ = b.vals[i]? := fun i => (hst2.1 _ _ hltC).trans (hC.cell i)
    have HU := Lib.hid (hU w2 hB2)
    clear hU hst2
    go_wp2_with fail
    refine HU.out.mono ?_
    rintro e w3 ⟨rfl, hx⟩
    have hB3 := below_then hB2 hx
    have h5 := h5.stays hx
    have h6 := h6.stays hx
    clear hcA hcC hB2 hx HU
    cases xu with
    | false =>
      go_wp2
      go_ret
      exact ⟨rfl, hB3⟩
    | true =>
      go_wp2_with fail
      refine (bare8_any b5 a _ h5).mono ?_
      rintro e w4 ⟨rfl, hx⟩
      have hB4 := below_then hB3 hx
      have h6 := h6.stays hx
      clear hB3 hx h5
      go_wp2_with fail
      refine (bare8_any b6 b _ h6).mono ?_
      rintro e w5 ⟨rfl, hx⟩
      have hB5 := below_then hB4 hx
      clear hB4 hx h6
      go_wp2
      go_ret
      exact ⟨rfl, hB5⟩
end Go.Proofs.YtapcjojlkeaadaaGreatDoor

/-
  Layer 8, walks of the document's own: which letters a procedure's results have. No condition.
-/
namespace Go.Proofs.YtapcjojlkeaadaaGreatDoor
open Go.RowKit
attribute [local go_sem ↓] Go.wp_at_zero Go.wp_at_succ
attribute [local go_sem] rowAt_ptr rowOf_drew rowOf_drewN rowOf_alloc_past rowOf_new

def strsV (l : List (List UInt8)) : List Value := l.map fun s => .string (bs s)
theorem strsV_at {w : World} {h : Nat} {T : TypeId} {l : List (List UInt8)} (hB : Blk w h T (strsV l)) {k : Nat} (hk : k < l.length) : w.cell? ⟨h, k, none⟩ = some (.string (bs (l.getD k []))) := by
  rw [hB.cell]; simp [strsV, List.getD, hk]
theorem pFields_nat (k : Nat) (fine : Bool) : pFields (k : Int) fine = (lettersPQ fine).getD k [] := by
  unfold pFields; rw [if_neg (by omega), Int.toNat_natCast]

set_option maxRecDepth 20000 in
set_option maxHeartbeats 800000 in
theorem refFields8_any (p : Int) (fine : Bool) (w : World) : Calls Tryz.prog 21 #[.int .i64 p, .bool fine] w fun e w' => e = .returned (.string (bs (pFields p fine))) ∧ Below w.heap.size w w' := by
  have hP := Blk.new w 9 (strsV lettersP)
  have hB1 : Below w.heap.size w (w.alloc (.cells (strsV lettersP).toArray 9)) := (Below.refl _ _).alloc (Nat.le_refl _) _
  have hs1 : (w.alloc (.cells (strsV lettersP).toArray 9)).heap.size = w.heap.size + 1 := by simp
  obtain ⟨w1, hw1⟩ : ∃ u, u = w.alloc (.cells (strsV lettersP).toArray 9) := ⟨_, rfl⟩
  rw [← hw1] at hP hB1 hs1
  have hP2 := hP.alloc (.cells (strsV lettersQ).toArray 9)
  have hQ2 := Blk.new w1 9 (strsV lettersQ)
  rw [hs1] at hQ2
  have hB2 := hB1.alloc hB1.size (.cells (strsV lettersQ).toArray 9)
  obtain ⟨w2, hw2⟩ : ∃ u, u = w1.alloc (.cells (strsV lettersQ).toArray 9) := ⟨_, rfl⟩
  rw [← hw2] at hP2 hQ2 hB2
  have hcP := fun k hk => strsV_at hP2 (k := k) hk
  have hcQ := fun k hk => strsV_at hQ2 (k := k) hk
  have HW := Lib.hid (And.intro hw1 hw2)
  have HB := Lib.hid hB2
  clear hP hB1 hs1 hw1 hw2 hP2 hQ2 hB2
  go_enter Tryz.func21, Tryz.ntmps21
  go_upto_region 3 with fail
  change Code.wp _ _ _ _ ((w.alloc (.cells (strsV lettersP).toArray 9)).alloc (.cells (strsV lettersQ).toArray 9))
  rw [← HW.out.1, ← HW.out.2]
  clear HW
  by_cases h1 : p < 0
  · have HV := Lib.hid (pFields_low (fine := fine) h1)
    clear hcP hcQ
    go_wp2
    go_ret
    rw [HV.out]
    exact ⟨rfl, HB.out⟩
  · by_cases h2 : 22 ≤ p
    · have HV := Lib.hid (pFields_high (fine := fine) h2)
      clear hcP hcQ
      go_wp2
      go_ret
      rw [HV.out]
      exact ⟨rfl, HB.out⟩
    · obtain ⟨k, rfl⟩ : ∃ k : Nat, p = k := ⟨p.toNat, by omega⟩
      have hk0 : (0 : Int) ≤ (k : Int) := Int.natCast_nonneg _
      have hk1 : (k : Int) < 22 := by omega
      have hcp := hcP k (show k < 22 by omega)
      have hcq := hcQ k (show k < 22 by omega)
      cases fine with
      | true =>
        have HV := Lib.hid (show pFields (k : Int) true = lettersP.getD k [] from pFields_nat k true)
        generalize lettersP.getD k [] = l at *
        clear hcP hcQ hcq
        go_wp2
        go_ret
        rw [HV.out]
        exact ⟨rfl, HB.out⟩
      | false =>
        have HV := Lib.hid (show pFields (k : Int) false = lettersQ.getD k [] from pFields_nat k false)
        generalize lettersQ.getD k [] = l at *
        clear hcP hcQ hcp
        go_wp2
        go_ret
        rw [HV.out]
        exact ⟨rfl, HB.out⟩
end Go.Proofs.YtapcjojlkeaadaaGreatDoor


/-
  Layer 1, walks: a writer's number. Conditions: a number from 0 on, in 4 or 8 bytes; at most 2^40 bytes so far.
-/
namespace Go.Proofs.YtapcjojlkeaadaaGreatDoor
open Go.RowKit
attribute [local go_sem ↓] Go.wp_at_zero Go.wp_at_succ

theorem infoU8 : (Tryz.prog.info? 5).map (fun i => (i.zero, i.size, i.bytes)) = some (some (.int .u8 0), 1, 1) := by kernel_rfl

set_option maxRecDepth 20000 in
set_option maxHeartbeats 1600000 in
theorem number_any (g : Nat) (sv : Value) (l : List UInt8) (n k : Nat) (w : World) (hW : Wr w g sv l) (_hn : (n : Int) ≤ 9223372036854775807) (hk : k ≤ 8) (hl : l.length ≤ 1000000000000) :
    Calls Tryz.prog 55 #[.pointer (some ⟨g, 0, none⟩), .int .i64 n, .int .i64 k] w (Wrote g sv (l ++ num n k) (.tuple #[]) w) := by
  obtain ⟨i0, hi0, hz0, hz1, hz2⟩ := info_parts infoU8
  go_enter Tryz.func55, Tryz.ntmps55
  go_wp2
  go_loopg [6] k (fun m i wr => i = .int .i64 ((m : Int) - 1) ∧ m ≤ k ∧ Moved g sv (l ++ (num n k).take (k - m)) w wr)
  case atStart => exact ⟨rfl, Nat.le_refl _, by simpa using Moved.refl hW⟩
  case round =>
    obtain ⟨rfl, hm, hM⟩ := hrel
    by_cases h0 : gk = 0
    · subst h0
      have HM := Lib.hid hM
      clear hM
      go_wp2
      go_end0
      exact ⟨rfl, by have := HM.out; rw [Nat.sub_zero, List.take_of_length_le (by rw [num_len]; omega)] at this; exact this⟩
    · obtain ⟨sv1, hW1, hrow, hT⟩ := hM
      have hm1 : 1 ≤ gk := by omega
      have hlen : (l ++ (num n k).take (k - gk)).length ≤ 1000000000100 := by simp [num_len]; omega
      have HN := Lib.hid (num_take n k gk hm1 hm)
      generalize hl1 : (l ++ (num n k).take (k - gk)) = l1 at *
      have HL := Lib.hid hl1
      clear hl1
      have HR := Lib.hid hrow
      clear hrow
      have hc := (hW1.1.cell 0)
      simp only [List.getElem?_cons_zero] at hc
      have hf := hW1.1.frozen 0
      have hsh := shr_byte n gk hm1 (by omega)
      generalize n / 256 ^ (gk - 1) = b at *
      have hcv := u8_wrap b
      have hOwn := Lib.hid hW1.2
      have hBlk := Lib.hid hW1.1
      go_wp2_with fail
      have hLen := Lib.hid hlen
      have hglt := hW1.1.lt
      clear hlen hW1 hl
      go_region_law ((refine step_append_lies _ (by rfl) (.tmp 17) (.tmp 23) 69 (by rfl) 0 5 i0 _ 1 1 Tryz.underlying69 hi0 hz0 hz1 hz2 rfl (by omega) sv1 l1.length (l1.map u8) (by simp [Act.eval]) ((hOwn.out.alloc _).drew) ⟨wr.heap.size, 0, none⟩ 1 1 [u8 (UInt8.ofNat b)] (by simp [Act.eval]) rfl (cell_one_new _ _ _) (u8_one [UInt8.ofNat b]) (by omega) (by have := hLen.out; unfold maxLen; omega) (by have := hLen.out; omega) (Nat.zero_le _) (wr.heap.size + 1) (by simp) ?_; intro g1 cap w1 hown1 hgrow1 hat1 hlt1; have hB1 := (wr_row_ne ⟨hBlk.out, hOwn.out⟩ (((Below.refl _ _).alloc (Nat.le_refl _) _).drew) hgrow1 hown1).1; have hc1 : w1.cell? ⟨g, 0, none⟩ = some sv1 := hB1.cell 0; have hf1 := hB1.frozen 0))
      all_goals
        go_wp2
        go_roundg (gk - 1)
        case measure => omega
        case rel =>
          refine ⟨by go_num, by omega, ?_⟩
          rw [HN.out, ← List.append_assoc]
          rw [HL.out]
          exact ⟨_, moved_append (m := [UInt8.ofNat b]) ⟨hBlk.out, hOwn.out⟩ HR.out hT (((Below.refl _ _).alloc (Nat.le_refl _) _).drew) hgrow1 hown1 (fun k hk => by
            have hk' : g1 = k := by simpa [Value.ownBlock] using hk
            rcases hat1 with h | h
            · left; rw [h, hk']
            · right; simp; omega)⟩

/-- a pointer to a writer, or none -/
abbrev ptr (g : Nat) : Value := .pointer (some ⟨g, 0, none⟩)

set_option maxHeartbeats 800000 in
theorem wU32_any (g : Nat) (sv : Value) (l : List UInt8) (n : Nat) (w : World) (hW : Wr w g sv l) (hn : n < 4294967296) (hl : l.length ≤ 1000000000000) :
    Calls Tryz.prog 30 #[ptr g, .int .i64 n] w (Wrote g sv (l ++ num n 4) (.int .i64 0) w) := by
  have hsh : Op.shift .shr .i64 (n : Int) .u64 32 = pure (.int .i64 0) := by
    rw [shift_shr .i64 .u64 _ _ (by omega) (by show (32 : Int) ≤ 64; omega)]
    congr 2
    have : (2 : Int) ^ ((32 : Int).toNat) = 4294967296 := by rfl
    rw [this]; omega
  go_enter Tryz.func30, Tryz.ntmps30
  go_wp2_with fail
  refine (number_any g sv l n 4 _ hW (by omega) (by omega) hl).mono ?_
  rintro e w1 ⟨rfl, hM⟩
  go_wp2
  go_ret
  exact ⟨rfl, hM⟩

set_option maxHeartbeats 800000 in
theorem wU32_bad (g : Nat) (n : Int) (w : World) (hn : n < 0 ∨ 4294967296 ≤ n) (hi : -9223372036854775808 ≤ n ∧ n ≤ 9223372036854775807) :
    Calls Tryz.prog 30 #[ptr g, .int .i64 n] w fun e w' => e = .returned (.int .i64 3) ∧ w = w' := by
  have hsh : Op.shift .shr .i64 n .u64 32 = pure (.int .i64 (n / 4294967296)) := by
    rw [shift_shr .i64 .u64 _ _ (by omega) (by show (32 : Int) ≤ 64; omega)]
    rfl
  have hb : 0 ≤ n → ((n / 4294967296 != 0) = true) := fun h0 => by rw [bne_iff_ne]; omega
  rcases hn with hn | hn
  · go_enter Tryz.func30, Tryz.ntmps30
    go_wp2
    go_ret
    exact ⟨rfl, rfl⟩
  · have h0 : 0 ≤ n := by omega
    have hb' := hb h0
    go_enter Tryz.func30, Tryz.ntmps30
    go_wp2
    go_ret
    exact ⟨rfl, rfl⟩

theorem wU64_any (g : Nat) (sv : Value) (l : List UInt8) (n : Nat) (w : World) (hW : Wr w g sv l) (hn : (n : Int) ≤ 9223372036854775807) (hl : l.length ≤ 1000000000000) :
    Calls Tryz.prog 59 #[ptr g, .int .i64 n] w (Wrote g sv (l ++ num n 8) (.int .i64 0) w) := by
  go_enter Tryz.func59, Tryz.ntmps59
  go_wp2_with fail
  refine (number_any g sv l n 8 _ hW (by omega) (by omega) hl).mono ?_
  rintro e w1 ⟨rfl, hM⟩
  go_wp2
  go_ret
  exact ⟨rfl, hM⟩
theorem wU64_bad (g : Nat) (n : Int) (w : World) (hn : n < 0) :
    Calls Tryz.prog 59 #[ptr g, .int .i64 n] w fun e w' => e = .returned (.int .i64 3) ∧ w = w' := by
  go_enter Tryz.func59, Tryz.ntmps59
  go_wp2
  go_ret
  exact ⟨rfl, rfl⟩

theorem wBool_any (g : Nat) (sv : Value) (l : List UInt8) (b : Bool) (w : World) (hW : Wr w g sv l) (hl : l.length ≤ 1000000000000) :
    Calls Tryz.prog 60 #[ptr g, .bool b] w (Wrote g sv (l ++ truth b) (.int .i64 0) w) := by
  cases b
  · go_enter Tryz.func60, Tryz.ntmps60
    go_wp2_with fail
    refine (wU32_any g sv l 0 _ hW (by omega) hl).mono ?_
    rintro e w1 ⟨rfl, hM⟩
    go_wp2
    go_ret
    exact ⟨rfl, hM⟩
  · go_enter Tryz.func60, Tryz.ntmps60
    go_wp2_with fail
    refine (wU32_any g sv l 1 _ hW (by omega) hl).mono ?_
    rintro e w1 ⟨rfl, hM⟩
    go_wp2
    go_ret
    exact ⟨rfl, hM⟩
end Go.Proofs.YtapcjojlkeaadaaGreatDoor
