/-
  Layer 33: its fixed run.
-/
import Derived.Test.YtfjflkmhhbhceaaGreatDoorK46
import Derived.Test.YtfjflkmhhbhceaaGreatDoorK44
import Derived.Test.YtfjflkmhhbhceaaGreatDoorK48
import Derived.Test.YtfjflkmhhbhceaaGreatDoorK49
import Derived.Test.YtfjflkmhhbhceaaGreatDoorK51
import Derived.Test.YtfjflkmhhbhceaaGreatDoorK52
import Derived.Test.YtfjflkmhhbhceaaGreatDoorK41
namespace Go.Proofs.YtfjflkmhhbhceaaGreatDoor
open Go.RowKit
attribute [local go_sem ↓] Go.wp_at_zero Go.wp_at_succ
attribute [local go_sem] rowAt_ptr rowOf_drew rowOf_drewN rowOf_alloc_past rowOf_new
attribute [local go_sem ↓] st33Call st33Message ld33Call ld33Message

attribute [local go_sem] thereB_drew thereB_drewN thereB_new thereB_past putsW_drew putsW_new putsW_past rowOf_far rowOf_putsFar cell_putsFar putsW_size ptrAt blkAt offAt allV33 oneV33 cellsOf_agg

attribute [local go_sem low] rowV33_agg

attribute [local go_sem] Message.at0 Message.lat0 Message.at1 Message.lat1 Message.at2 Message.lat2 Message.at3 Message.lat3 Message.at4 Message.lat4 Message.at5 Message.lat5 Message.at6 Message.lat6 Message.at7 Message.lat7 Message.at8 Message.lat8 Message.at9 Message.lat9 Message.sub0_10 Message.lsub0_10 Message.sub4_4 Message.lsub4_4 Message.len Call.at0 Call.lat0 Call.at1 Call.lat1 Call.at2 Call.lat2 Call.at3 Call.lat3 Call.at4 Call.lat4 Call.at5 Call.lat5 Call.at6 Call.lat6 Call.at7 Call.lat7 Call.at8 Call.lat8 Call.at9 Call.lat9 Call.at10 Call.lat10 Call.at11 Call.lat11 Call.at12 Call.lat12 Call.at13 Call.lat13 Call.at14 Call.lat14 Call.at15 Call.lat15 Call.at16 Call.lat16 Call.at17 Call.lat17 Call.at18 Call.lat18 Call.at19 Call.lat19 Call.at20 Call.lat20 Call.at21 Call.lat21 Call.at22 Call.lat22 Call.at23 Call.lat23 Call.sub0_24 Call.lsub0_24 Call.sub9_10 Call.lsub9_10 Call.sub9_2 Call.lsub9_2 Call.sub11_2 Call.lsub11_2 Call.sub13_2 Call.lsub13_2 Call.sub15_2 Call.lsub15_2 Call.sub17_2 Call.lsub17_2 Call.sub19_2 Call.lsub19_2 Call.len

attribute [local go_sem] putsW_call putsW_message Call.len Message.len rowV33_call rowV33_message

/-- a client that was made behind w0 -/
def Since (w0 : World) (g : Nat) (c : ClD) (w : World) : Prop := ∃ F z l, ClAt F w g c z l ∧ (∀ k, F k → w0.heap.size ≤ k) ∧ Below w0.heap.size w0 w
theorem Since.below {w0 w w' : World} {g : Nat} {c : ClD} (h : Since w0 g c w) (hb : Below w.heap.size w w') : Since w0 g c w' := by
  obtain ⟨F, z, l, h1, h2, h3⟩ := h
  exact ⟨F, z, l, h1.below hb, h2, below_then h3 hb⟩
theorem Since.ask {w0 w : World} {g : Nat} {c : ClD} (h : Since w0 g c w) (hL : TabLaid w0) (hG : ClGood c) (hrl : c.recs.length ≤ 1000000) (a : Ask) (hg : CallG a.call) (step now : Int) :
    Calls Tryz.prog 11 #[.pointer (some ⟨g, 0, none⟩), .agg a.vals.toArray, .int .i64 step, .int .i64 now] w fun e w' => ∃ A cap, e = .returned (.tuple #[.slice A (c.ask a step now).2.1.length cap, .int .i64 (c.ask a step now).2.2]) ∧ RowS w' w.heap.size 40 3 (.slice A (c.ask a step now).2.1.length cap) ((c.ask a step now).2.1.map Packet.vals) ∧ Since w0 g (c.ask a step now).1 w' ∧ w.heap.size ≤ w'.heap.size := by
  obtain ⟨F, z, l, h1, h2, h3⟩ := h
  refine (ask33_any F w g c z l (next33_any g) h1 hG ⟨w0, hL, h3, h2⟩ hrl a hg step now).mono ?_
  rintro e w' ⟨v, rfl, hrow, ⟨G, z', l', hC, hGk⟩, ht⟩
  obtain ⟨A, cap, rfl, -⟩ := hrow.at_
  rw [List.length_map] at hrow ⊢
  have hs := h3.size
  exact ⟨A, cap, rfl, hrow, ⟨G, z', l', hC, fun k hk => by rcases hGk k hk with h | h; exact h2 k h; omega, h3.trans (ht.below (fun k _ hk => h2 k hk) hs)⟩, ht.size⟩
theorem callZ_g' : CallG ({ callZ with data := [97, 98] } : Call) := ⟨callZ_g.1, callZ_g.2, callZ_g.3, callZ_g.4, callZ_g.5⟩
theorem callZ_g'' : CallG ({ callZ with offset := 2, data := [99] } : Call) := ⟨by show (2 : Int) ≤ _; decide, callZ_g.2, callZ_g.3, callZ_g.4, callZ_g.5⟩
theorem run33_body : (getM9 run33c.1.sent.data).1.body.length ≤ 10000 := by decide +kernel
def ask33a : Ask := ⟨3, 0, 0, 0, 0, 0, { callZ with data := [97, 98] }⟩
def ask33b : Ask := ⟨3, 0, 0, 0, 0, 0, { callZ with offset := 2, data := [99] }⟩
def ask33c : Ask := ⟨4, 0, 0, 0, 0, 0, callZ⟩
set_option maxRecDepth 20000 in
set_option maxHeartbeats 3200000 in
theorem known33_any (w : World) (hL : TabLaid w) : Calls Tryz.prog 7 #[] w fun e w' => e = .returned (.bool true) ∧ Below w.heap.size w w' := by
  have g0 := ClGood.new 2 5 1 rootL
  have ga := ask_good g0 (a := ask33a) callZ_g' 1 0
  have gb := ask_good ga (a := ask33b) callZ_g'' 2 0
  have K0 := Lib.hid (new33_any 2 5 1 w (by decide))
  have HL := Lib.hid hL
  have HG := Lib.hid (And.intro g0 (And.intro ga gb))
  clear g0 ga gb hL
  go_enter Tryz.func7, Tryz.ntmps7
  go_wp2_with fail
  refine K0.out.mono ?_
  rintro e w1 ⟨g, rfl, hge, hlt, hC, hb⟩
  have h1 : Since w g (clNew 2 5 1 rootL) w1 := ⟨_, _, _, hC, fun k hk => by subst hk; exact hge, hb⟩
  have H1 := Lib.hid (h1.ask HL.out HG.out.1 (Nat.zero_le _) ask33a callZ_g' 1 0)
  clear hC hb h1 hge hlt
  go_wp2_with fail
  refine Calls.mono (H1.out) ?_
  rintro e w2 ⟨A, cap, rfl, -, h2, -⟩
  have e1 : ((clNew 2 5 1 rootL).ask ask33a 1 0).2 = ([], 0) := run33a_is
  rw [e1]
  have h2 : Since w g run33a.1 w2 := h2
  have H2 := Lib.hid (h2.ask HL.out HG.out.2.1 (by show run33a.1.recs.length ≤ _; decide +kernel) ask33b callZ_g'' 2 0)
  clear h2 e1 H1
  go_wp2_with fail
  refine Calls.mono (H2.out) ?_
  rintro e w3 ⟨A2, cap2, rfl, -, h3, -⟩
  have e2 : (run33a.1.ask ask33b 2 0).2 = ([], 0) := run33b_is
  rw [e2]
  have h3 : Since w g run33b.1 w3 := h3
  have H3 := Lib.hid (h3.ask HL.out HG.out.2.2 (by show run33b.1.recs.length ≤ _; decide +kernel) ask33c callZ_g 3 0)
  clear h3 e2 H2
  go_wp2_with fail
  refine Calls.mono (H3.out) ?_
  rintro e w4 ⟨A3, cap3, rfl, hrow, h4, -⟩
  have e3 : (run33b.1.ask ask33c 3 0).2.1 = [run33c.1.sent] := run33c_to
  have e4 : (run33b.1.ask ask33c 3 0).2.2 = 0 := run33c_is.1
  have h4 : Since w g run33c.1 w4 := h4
  rw [e3] at hrow ⊢
  rw [e4]
  have hto : run33c.1.sent.to_ = 1 := run33c_is.2.2.2.2
  have hbz : run33c.1.busy = true := run33c_is.2.2.1
  have hrl : run33c.1.recs.length = 1 := run33c_is.2.2.2.1
  have hget := run33_get
  have hbody := run33_body
  generalize run33c.1 = cc at *
  clear e3 e4 H3 HG HL K0
  obtain ⟨b3, o3, hA3, hb3, hc3⟩ := hrow.rows 0 cc.sent.vals rfl
  subst hA3
  have d1 : w4.cell? ⟨b3, o3 + 1, none⟩ = some (.int .i64 1) := by have := hc3 1 (.int .i64 cc.sent.to_) rfl; rw [hto] at this; simpa using this
  have d2 : w4.cell? ⟨b3, o3 + 2, none⟩ = some (.string (bs cc.sent.data)) := by have := hc3 2 _ rfl; simpa using this
  have H4 := Lib.hid h4
  have KG := Lib.hid (fun W => refGet9_any cc.sent.data W)
  have HGet := Lib.hid (And.intro hget (And.intro hbz (And.intro hrl hbody)))
  clear hrow hc3 h4 hget hbz hrl hto hbody
  go_wp2_with fail
  refine (KG.out _).mono ?_
  rintro e w5 ⟨rfl, hb5⟩
  rw [refG_get]
  obtain ⟨hget, hbz, hrl, hbody⟩ := HGet.out
  generalize getM9 cc.sent.data = gm at *
  obtain ⟨m, me⟩ := gm
  simp only at hget hbody
  obtain ⟨q1, q2, q3, q4⟩ := hget
  subst q1
  unfold gotV9
  have h5 := H4.out.below hb5
  have KB := Lib.hid (fun W => refGet7_any 7 m.body W (by omega))
  have KZ := Lib.hid (fun (W : World) (h : Below w5.heap.size w5 W) => h5.below h)
  generalize dGet 7 m.body = dg at *
  obtain ⟨x, xis⟩ := dg
  simp only at q3 q4
  subst q3
  have HB5 := Lib.hid (show Below w.heap.size w w5 by obtain ⟨_, _, _, _, _, h⟩ := h5; exact h)
  have KU := Lib.hid (fun (W : World) (h : Below w5.heap.size w5 W) => (show Calls Tryz.prog 16 #[.pointer (some ⟨g, 0, none⟩)] W fun e w' => e = .returned (.bool true) ∧ w' = W by
    obtain ⟨F, z, l, h1, -, -⟩ := h5.below h
    rw [← hbz]
    exact busy33_any F W g cc z l h1))
  have KR := Lib.hid (fun (W : World) (h : Below w5.heap.size w5 W) => (show Calls Tryz.prog 15 #[.pointer (some ⟨g, 0, none⟩)] W fun e w' => (∃ A c, e = .returned (.slice A 1 c)) ∧ Below W.heap.size W w' by
    obtain ⟨F, z, l, h1, -, -⟩ := h5.below h
    refine (records33_any F W g cc z l h1 (by omega)).mono ?_
    rintro e w' ⟨v, lk, rfl, hR, hb⟩
    obtain ⟨A, c, rfl, -⟩ := hR.row.at_
    rw [List.length_map, hR.len, hrl]
    exact ⟨⟨A, c, rfl⟩, hb⟩))
  have q4' : bs x.data = { data := #[97, 98, 99] } := by rw [q4]
  clear h5 q4 KZ hbz hrl hb5 H4 HGet KG d1 d2 hbody
  go_wp2_with fail
  refine (KB.out _).mono ?_
  rintro e w6 ⟨rfl, hb6⟩
  have c3 : w6.cell? ⟨w5.heap.size, 3, none⟩ = some (.int .i64 7) := by
    rw [hb6.cell (p := ⟨w5.heap.size, 3, none⟩) (by simp), (Blk.new w5 81 m.vals).cell 3, ← q2]
    rfl
  have hb56 : Below w5.heap.size w5 w6 := below_new _ hb6
  have hl5 : w5.heap.size < w6.heap.size := by have := hb6.size; simp at this; omega
  have h6 : Below w5.heap.size w5 (w6.alloc (.cells x.vals.toArray 36)) := hb56.alloc hb56.size _
  have H6 := Lib.hid h6
  clear h6 hb6 hb56 KB
  go_wp2_with (first
    | (go_at_call 16; refine (KU.out _ H6.out).mono ?_; rintro e w7 ⟨rfl, hw7⟩; rw [hw7]; clear hw7)
    | (go_at_call 15; refine (KR.out _ H6.out).mono ?_; rintro e w8 ⟨⟨A9, c9, rfl⟩, hb8⟩)
    | fail)
  go_ret
  exact ⟨rfl, below_then HB5.out (below_then H6.out hb8)⟩
end Go.Proofs.YtfjflkmhhbhceaaGreatDoor

/-
  Layer 33: of no client there is nothing.
-/
namespace Go.Proofs.YtfjflkmhhbhceaaGreatDoor
open Go.RowKit
open Go.RowKit
attribute [local go_sem ↓] Go.wp_at_zero Go.wp_at_succ
attribute [local go_sem] rowAt_ptr rowOf_drew rowOf_drewN rowOf_alloc_past rowOf_new
theorem rowV33_step (x : Step) : rowV33 94 (.agg x.vals.toArray) = true := by
  obtain ⟨_, ⟨⟩, ⟨⟩, ⟨⟩, _, _⟩ := x
  rfl
def stepZ33 : Step := ⟨0, ⟨0, 0, 0, 0, 0, 0, callZ⟩, packetZ33, replyZ, 0, 0⟩
theorem infoStep33 : (Tryz.prog.info? 53).map (fun i => (i.zero, i.size, i.bytes)) = some (some (.agg stepZ33.vals.toArray), 94, 856) := by kernel_rfl
section
variable {ρ : Operand → Value} {w : World} {dst : Option Tmp} {ty : TypeId} {pos : String} {after : Array Edge} {g : Option (Nat × Bool)} {a b c d : Operand}
theorem exSlStep1 (h : rowV33 94 (ρ a) = true) : (execOp ρ ⟨dst, .buildSlice 22 1 #[(0, a)], ty, pos, after, g⟩).run Tryz.prog w = .ok (.value (.slice (some ⟨w.heap.size, 0, none⟩) 1 1)) (w.alloc (.cells (cellsOf (ρ a)).toArray 53)) := by
  have hr := run_slice_rows (s := 94) (n := 1) Tryz.underlying22 infoStep33 (by decide) (by decide) [ρ a] rfl (by decide) (by decide) (fun v hv => by rw [List.mem_singleton] at hv; subst hv; exact rowV33_size h) w
  rw [show [ρ a].flatMap cellsOf = cellsOf (ρ a) by simp] at hr
  unfold execOp
  simp only [List.map_toArray, List.map_cons, List.map_nil]
  rw [Sem.run_bind]
  erw [hr]
  rfl
end
attribute [local go_sem ↓] ld33Step exSlStep1 ld33Ask ld33Packet

attribute [local go_sem] cellsOf_agg rowV33_step Step.len

set_option maxRecDepth 20000 in
set_option maxHeartbeats 3200000 in
theorem clientNilLaw_any (x : StepR) (w : World) (hR : x.rep.There w) (hL : TabLaid w) :
    Calls Tryz.prog 5 #[.agg x.vals.toArray] w fun e w' => e = .returned (.bool true) ∧ Below w.heap.size w w' := by
  have bX := Blk.new w 53 x.vals
  have hB : Below w.heap.size w (w.alloc (.cells x.vals.toArray 53)) := (Below.refl _ _).alloc (Nat.le_refl _) _
  obtain ⟨w1, hw1⟩ : ∃ V, V = w.alloc (.cells x.vals.toArray 53) := ⟨_, rfl⟩
  have hlt : w.heap.size < w1.heap.size := by rw [hw1]; simp
  rw [← hw1] at bX hB
  have HW1 := Lib.hid hw1
  have HB := Lib.hid hB
  have HL := Lib.hid (hL.below hB)
  have HR := Lib.hid (hR.below hB)
  have rS : rowOf w1 w.heap.size 0 94 = some x.s.vals.toArray := by
    exact bX.row 0 94 (by rw [StepR.len]; decide)
  have HX := Lib.hid bX
  clear hw1 hB hL hR bX
  go_enter Tryz.func5, Tryz.ntmps5
  go_upto_region 1 with fail
  change Code.wp _ _ _ _ (w.alloc (.cells x.vals.toArray 53))
  rw [← HW1.out]
  go_wp2_with fail
  have hr := RowS.made (b := w1.heap.size) (B := 0) (sz := 94) w1 53 [x.s.vals] (by simp [Step.len]) rfl (Nat.zero_le _) (by simp) (k := 1) rfl
  rw [show [x.s.vals].flatten = x.s.vals by simp] at hr
  have b2 : Below w1.heap.size w1 (w1.alloc (.cells x.s.vals.toArray 53)) := (Below.refl _ _).alloc (Nat.le_refl _) _
  have KL := Lib.hid (refLarge33_any (some ⟨w1.heap.size, 0, none⟩) 1 [x] _ (by simp) hr.rows (fun y hy => by rw [List.mem_singleton] at hy; subst hy; exact HR.out.below b2))
  have HX2 := Lib.hid (HX.out.stays b2)
  have HB2 := Lib.hid (below_then HB.out b2)
  have HL2 := Lib.hid (HL.out.below b2)
  have hs2 : w.heap.size < (w1.alloc (.cells x.s.vals.toArray 53)).heap.size := by simp; omega
  generalize w1.alloc (.cells x.s.vals.toArray 53) = w2 at *
  clear HX HB HL HW1 HR rS hr b2
  refine KL.out.mono ?_
  rintro e w3 ⟨b, rfl, -, hb3⟩
  have HX3 := Lib.hid (HX2.out.stays hb3)
  have HB3 := Lib.hid (below_then HB2.out hb3)
  have HL3 := Lib.hid (HL2.out.below hb3)
  have hs3 : w.heap.size < w3.heap.size := Nat.lt_of_lt_of_le hs2 hb3.size
  clear hb3 HX2 HB2 HL2 KL hs2
  cases b
  case true =>
    go_wp2_with fail
    refine (known33_any w3 HL3.out).mono ?_
    rintro e w4 ⟨rfl, hb4⟩
    go_wp2
    go_ret
    exact ⟨rfl, below_then HB3.out hb4⟩
  have rA : rowOf w3 w.heap.size 1 30 = some x.s.a.vals.toArray := HX3.out.row 1 30 (by rw [StepR.len]; decide)
  have c93 : w3.cell? ⟨w.heap.size, 93, none⟩ = some (.int .i64 x.s.now) := HX3.out.cell 93
  go_wp2_with fail
  refine (ask33_nil x.s.a 1 x.s.now w3).mono ?_
  rintro e w4 ⟨rfl, hb4⟩
  have HX4 := Lib.hid (HX3.out.stays hb4)
  have HB4 := Lib.hid (below_then HB3.out hb4)
  have HL4 := Lib.hid (HL3.out.below hb4)
  have hs4 : w.heap.size < w4.heap.size := Nat.lt_of_lt_of_le hs3 hb4.size
  clear hb4 HX3 HB3 HL3 hs3 rA c93
  have rP : rowOf w4 w.heap.size 31 3 = some x.s.p.vals.toArray := HX4.out.row 31 3 (by rw [StepR.len]; decide)
  have c93 : w4.cell? ⟨w.heap.size, 93, none⟩ = some (.int .i64 x.s.now) := HX4.out.cell 93
  go_wp2_with fail
  refine (take33_nil x.s.p 1 x.s.now w4).mono ?_
  rintro e w5 ⟨rfl, hb5⟩
  have HB5 := Lib.hid (below_then HB4.out hb5)
  have KK := Lib.hid (known33_any w5 (HL4.out.below hb5))
  have d93 : w5.cell? ⟨w.heap.size, 93, none⟩ = some (.int .i64 x.s.now) := (HX4.out.stays hb5).cell 93
  clear hb5 HX4 HB4 HL4 rP c93
  go_wp2_with (first
    | (go_at_call 21; refine (tick33_nil _ _).mono ?_; rintro e w6 ⟨rfl, hw6⟩; rw [hw6]; clear hw6)
    | (go_at_call 16; refine (busy33_nil _).mono ?_; rintro e w6 ⟨rfl, hw6⟩; rw [hw6]; clear hw6)
    | (go_at_call 22; refine (gen33_nil _ _).mono ?_; rintro e w6 ⟨rfl, hw6⟩; rw [hw6]; clear hw6)
    | (go_at_call 20; refine (waits33_nil _ _).mono ?_; rintro e w6 ⟨rfl, hw6⟩; rw [hw6]; clear hw6)
    | (go_at_call 15; refine (records33_nil _).mono ?_; rintro e w6 ⟨rfl, hw6⟩; rw [hw6]; clear hw6)
    | (go_at_call 7; refine KK.out.mono ?_; rintro e w7 ⟨rfl, hb7⟩)
    | fail)
  go_ret
  exact ⟨rfl, below_then HB5.out hb7⟩
end Go.Proofs.YtfjflkmhhbhceaaGreatDoor
