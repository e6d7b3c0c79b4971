/-
  Layer 33: its fixed run.
-/
import Derived.Test.YtfjflkmhhbhceaaGreatDoorW38
import Derived.Test.YtfjflkmhhbhceaaGreatDoorW34
import Derived.Test.YtfjflkmhhbhceaaGreatDoorW41
import Derived.Test.YtfjflkmhhbhceaaGreatDoorW42
import Derived.Test.YtfjflkmhhbhceaaGreatDoorW26
namespace Go.Proofs.YtfjflkmhhbhceaaGreatDoor
open Go.RowKit
attribute [local go_sem ↓] Go.wp_at_zero Go.wp_at_succ
attribute [local go_sem] rowAt_ptr rowOf_drew rowOf_drewN rowOf_alloc_past rowOf_new
attribute [local go_sem ↓] st33Call st33Message ld33Call ld33Message

attribute [local go_sem] thereB_drew thereB_drewN thereB_new thereB_past putsW_drew putsW_new putsW_past rowOf_far rowOf_putsFar cell_putsFar putsW_size ptrAt blkAt offAt allV33 oneV33 cellsOf_agg

attribute [local go_sem low] rowV33_agg

attribute [local go_sem] Message.at0 Message.lat0 Message.at1 Message.lat1 Message.at2 Message.lat2 Message.at3 Message.lat3 Message.at4 Message.lat4 Message.at5 Message.lat5 Message.at6 Message.lat6 Message.at7 Message.lat7 Message.at8 Message.lat8 Message.at9 Message.lat9 Message.sub0_10 Message.lsub0_10 Message.sub4_4 Message.lsub4_4 Message.len Call.at0 Call.lat0 Call.at1 Call.lat1 Call.at2 Call.lat2 Call.at3 Call.lat3 Call.at4 Call.lat4 Call.at5 Call.lat5 Call.at6 Call.lat6 Call.at7 Call.lat7 Call.at8 Call.lat8 Call.at9 Call.lat9 Call.at10 Call.lat10 Call.at11 Call.lat11 Call.at12 Call.lat12 Call.at13 Call.lat13 Call.at14 Call.lat14 Call.at15 Call.lat15 Call.at16 Call.lat16 Call.at17 Call.lat17 Call.at18 Call.lat18 Call.at19 Call.lat19 Call.at20 Call.lat20 Call.at21 Call.lat21 Call.at22 Call.lat22 Call.at23 Call.lat23 Call.sub0_24 Call.lsub0_24 Call.sub9_10 Call.lsub9_10 Call.sub9_2 Call.lsub9_2 Call.sub11_2 Call.lsub11_2 Call.sub13_2 Call.lsub13_2 Call.sub15_2 Call.lsub15_2 Call.sub17_2 Call.lsub17_2 Call.sub19_2 Call.lsub19_2 Call.len

attribute [local go_sem] putsW_call putsW_message Call.len Message.len rowV33_call rowV33_message

/-- a client that was made behind w0 -/
def Since (w0 : World) (g : Nat) (c : ClD) (w : World) : Prop := ∃ F z l, ClAt F w g c z l ∧ (∀ k, F k → w0.heap.size ≤ k) ∧ Below w0.heap.size w0 w
theorem Since.below {w0 w w' : World} {g : Nat} {c : ClD} (h : Since w0 g c w) (hb : Below w.heap.size w w') : Since w0 g c w' := by
  obtain ⟨F, z, l, h1, h2, h3⟩ := h
  exact ⟨F, z, l, h1.below hb, h2, below_then h3 hb⟩
theorem Since.ask {w0 w : World} {g : Nat} {c : ClD} (h : Since w0 g c w) (hL : TabLaid w0) (hG : ClGood c) (hrl : c.recs.length ≤ 1000000) (a : Ask) (hg : CallG a.call) (step now : Int) :
    Calls Tryz.prog 11 #[.pointer (some ⟨g, 0, none⟩), .agg a.vals.toArray, .int .i64 step, .int .i64 now] w fun e w' => ∃ A cap, e = .returned (.tuple #[.slice A (c.ask a step now).2.1.length cap, .int .i64 (c.ask a step now).2.2]) ∧ RowS w' w.heap.size 40 3 (.slice A (c.ask a step now).2.1.length cap) ((c.ask a step now).2.1.map Packet.vals) ∧ Since w0 g (c.ask a step now).1 w' ∧ w.heap.size ≤ w'.heap.size := by
  obtain ⟨F, z, l, h1, h2, h3⟩ := h
  refine (ask33_any F w g c z l (next33_any g) h1 hG ⟨w0, hL, h3, h2⟩ hrl a hg step now).mono ?_
  rintro e w' ⟨v, rfl, hrow, ⟨G, z', l', hC, hGk⟩, ht⟩
  obtain ⟨A, cap, rfl, -⟩ := hrow.at_
  rw [List.length_map] at hrow ⊢
  have hs := h3.size
  exact ⟨A, cap, rfl, hrow, ⟨G, z', l', hC, fun k hk => by rcases hGk k hk with h | h; exact h2 k h; omega, h3.trans (ht.below (fun k _ hk => h2 k hk) hs)⟩, ht.size⟩
theorem callZ_g' : CallG ({ callZ with data := [97, 98] } : Call) := ⟨callZ_g.1, callZ_g.2, callZ_g.3, callZ_g.4, callZ_g.5⟩
theorem callZ_g'' : CallG ({ callZ with offset := 2, data := [99] } : Call) := ⟨by show (2 : Int) ≤ _; decide, callZ_g.2, callZ_g.3, callZ_g.4, callZ_g.5⟩
theorem run33_body : (getM9 run33c.1.sent.data).1.body.length ≤ 10000 := by decide +kernel
def ask33a : Ask := ⟨3, 0, 0, 0, 0, 0, { callZ with data := [97, 98] }⟩
def ask33b : Ask := ⟨3, 0, 0, 0, 0, 0, { callZ with offset := 2, data := [99] }⟩
def ask33c : Ask := ⟨4, 0, 0, 0, 0, 0, callZ⟩
set_option maxRecDepth 20000 in
set_option maxHeartbeats 3200000 in
theorem known33_any (w : World) (hL : TabLaid w) : Calls Tryz.prog 7 #[] w fun e w' => e = .returned (.bool true) ∧ Below w.heap.size w w' := by
  have g0 := ClGood.new 2 5 1 rootL
  have ga := ask_good g0 (a := ask33a) callZ_g' 1 0
  have gb := ask_good ga (a := ask33b) callZ_g'' 2 0
  have K0 := Lib.hid (new33_any 2 5 1 w (by decide))
  have HL := Lib.hid hL
  have HG := Lib.hid (And.intro g0 (And.intro ga gb))
  clear g0 ga gb hL
  go_enter Tryz.func7, Tryz.ntmps7
  go_wp2_with fail
  refine K0.out.mono ?_
  rintro e w1 ⟨g, rfl, hge, hlt, hC, hb⟩
  have h1 : Since w g (clNew 2 5 1 rootL) w1 := ⟨_, _, _, hC, fun k hk => by subst hk; exact hge, hb⟩
  have H1 := Lib.hid (h1.ask HL.out HG.out.1 (Nat.zero_le _) ask33a callZ_g' 1 0)
  clear hC hb h1 hge hlt
  go_wp2_with fail
  refine Calls.mono (H1.out) ?_
  rintro e w2 ⟨A, cap, rfl, -, h2, -⟩
  have e1 : ((clNew 2 5 1 rootL).ask ask33a 1 0).2 = ([], 0) := run33a_is
  rw [e1]
  have h2 : Since w g run33a.1 w2 := h2
  have H2 := Lib.hid (h2.ask HL.out HG.out.2.1 (by show run33a.1.recs.length ≤ _; decide +kernel) ask33b callZ_g'' 2 0)
  clear h2 e1 H1
  go_wp2_with fail
  refine Calls.mono (H2.out) ?_
  rintro e w3 ⟨A2, cap2, rfl, -, h3, -⟩
  have e2 : (run33a.1.ask ask33b 2 0).2 = ([], 0) := run33b_is
  rw [e2]
  have h3 : Since w g run33b.1 w3 := h3
  have H3 := Lib.hid (h3.ask HL.out HG.out.2.2 (by show run33b.1.recs.length ≤ _; decide +kernel) ask33c callZ_g 3 0)
  clear h3 e2 H2
  go_wp2_with fail
  refine Calls.mono (H3.out) ?_
  rintro e w4 ⟨A3, cap3, rfl, hrow, h4, -⟩
  have e3 : (run33b.1.ask ask33c 3 0).2.1 = [run33c.1.sent] := run33c_to
  have e4 : (run33b.1.ask ask33c 3 0).2.2 = 0 := run33c_is.1
  have h4 : Since w g run33c.1 w4 := h4
  rw [e3] at hrow ⊢
  rw [e4]
  have hto : run33c.1.sent.to_ = 1 := run33c_is.2.2.2.2
  have hbz : run33c.1.busy = true := run33c_is.2.2.1
  have hrl : run33c.1.recs.length = 1 := run33c_is.2.2.2.1
  have hget := run33_get
  have hbody := run33_body
  generalize run33c.1 = cc at *
  clear e3 e4 H3 HG HL K0
  obtain ⟨b3, o3, hA3, hb3, hc3⟩ := hrow.rows 0 cc.sent.vals rfl
  subst hA3
  have d1 : w4.cell? ⟨b3, o3 + 1, none⟩ = some (.int .i64 1) := by have := hc3 1 (.int .i64 cc.sent.to_) rfl; rw [hto] at this; simpa using this
  have d2 : w4.cell? ⟨b3, o3 + 2, none⟩ = some (.string (bs cc.sent.data)) := by have := hc3 2 _ rfl; simpa using this
  have H4 := Lib.hid h4
  have KG := Lib.hid (fun W => refGet9_any cc.sent.data W)
  have HGet := Lib.hid (And.intro hget (And.intro hbz (And.intro hrl hbody)))
  clear hrow hc3 h4 hget hbz hrl hto hbody
  go_wp2_with fail
  refine (KG.out _).mono ?_
  rintro e w5 ⟨rfl, hb5⟩
  rw [refG_get]
  obtain ⟨hget, hbz, hrl, hbody⟩ := HGet.out
  generalize getM9 cc.sent.data = gm at *
  obtain ⟨m, me⟩ := gm
  simp only at hget hbody
  obtain ⟨q1, q2, q3, q4⟩ := hget
  subst q1
  unfold gotV9
  have h5 := H4.out.below hb5
  have KB := Lib.hid (fun W => refGet7_any 7 m.body W (by omega))
  have KZ := Lib.hid (fun (W : World) (h : Below w5.heap.size w5 W) => h5.below h)
  generalize dGet 7 m.body = dg at *
  obtain ⟨x, xis⟩ := dg
  simp only at q3 q4
  subst q3
  have HB5 := Lib.hid (show Below w.heap.size w w5 by obtain ⟨_, _, _, _, _, h⟩ := h5; exact h)
  have KU := Lib.hid (fun (W : World) (h : Below w5.heap.size w5 W) => (show Calls Tryz.prog 16 #[.pointer (some ⟨g, 0, none⟩)] W fun e w' => e = .returned (.bool true) ∧ w' = W by
    obtain ⟨F, z, l, h1, -, -⟩ := h5.below h
    rw [← hbz]
    exact busy33_any F W g cc z l h1))
  have KR := Lib.hid (fun (W : World) (h : Below w5.heap.size w5 W) => (show Calls Tryz.prog 15 #[.pointer (some ⟨g, 0, none⟩)] W fun e w' => (∃ A c, e = .returned (.slice A 1 c)) ∧ Below W.heap.size W w' by
    obtain ⟨F, z, l, h1, -, -⟩ := h5.below h
    refine (records33_any F W g cc z l h1 (by omega)).mono ?_
    rintro e w' ⟨v, lk, rfl, hR, hb⟩
    obtain ⟨A, c, rfl, -⟩ := hR.row.at_
    rw [List.length_map, hR.len, hrl]
    exact ⟨⟨A, c, rfl⟩, hb⟩))
  have q4' : bs x.data = { data := #[97, 98, 99] } := by rw [q4]
  clear h5 q4 KZ hbz hrl hb5 H4 HGet KG d1 d2 hbody
  go_wp2_with fail
  refine (KB.out _).mono ?_
  rintro e w6 ⟨rfl, hb6⟩
  have c3 : w6.cell? ⟨w5.heap.size, 3, none⟩ = some (.int .i64 7) := by
    rw [hb6.cell (p := ⟨w5.heap.size, 3, none⟩) (by simp), (Blk.new w5 81 m.vals).cell 3, ← q2]
    rfl
  have hb56 : Below w5.heap.size w5 w6 := below_new _ hb6
  have hl5 : w5.heap.size < w6.heap.size := by have := hb6.size; simp at this; omega
  have h6 : Below w5.heap.size w5 (w6.alloc (.cells x.vals.toArray 36)) := hb56.alloc hb56.size _
  have H6 := Lib.hid h6
  clear h6 hb6 hb56 KB
  go_wp2_with (first
    | (go_at_call 16; refine (KU.out _ H6.out).mono ?_; rintro e w7 ⟨rfl, hw7⟩; rw [hw7]; clear hw7)
    | (go_at_call 15; refine (KR.out _ H6.out).mono ?_; rintro e w8 ⟨⟨A9, c9, rfl⟩, hb8⟩)
    | fail)
  go_ret
  exact ⟨rfl, below_then HB5.out (below_then H6.out hb8)⟩
end Go.Proofs.YtfjflkmhhbhceaaGreatDoor
