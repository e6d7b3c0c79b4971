/-
  Layer 9, walks: how the program takes a call. Condition: at most 2048 bytes.
-/
import Derived.Test.YtfjflkmhhbhceaaGreatDoorW15
import Derived.Test.YtfjflkmhhbhceaaGreatDoorW06
import Derived.Deep.RegionHeld2
namespace Go.Proofs.YtfjflkmhhbhceaaGreatDoor
open Go.RowKit
attribute [local go_sem ↓] Go.wp_at_zero Go.wp_at_succ
attribute [local go_sem] rowAt_ptr rowOf_drew rowOf_drewN rowOf_alloc_past rowOf_new
attribute [local go_sem] Message.at0 Message.lat0 Message.at1 Message.lat1 Message.at2 Message.lat2 Message.at3 Message.lat3 Message.at4 Message.lat4 Message.at5 Message.lat5 Message.at6 Message.lat6 Message.at7 Message.lat7 Message.at8 Message.lat8 Message.at9 Message.lat9 Message.sub0_10 Message.lsub0_10 Message.sub4_4 Message.lsub4_4 Message.len Cred.at0 Cred.lat0 Cred.at1 Cred.lat1 Cred.at2 Cred.lat2 Cred.at3 Cred.lat3 Cred.sub0_4 Cred.lsub0_4 Cred.len

attribute [local go_sem ↓] ldMessage ldCred

def GotR (r : Option Message) (g : Nat) (w : World) (e : Ending) (w' : World) : Prop :=
  (match r with | some m => e = .returned (.agg m.vals.toArray) | none => e = .panicked missV) ∧ Touch (fun k => k = g) w w'
theorem GotR.no {r : Option Message} {g : Nat} {w w' : World} (h : r = none) (ht : Touch (fun k => k = g) w w') : GotR r g w (.panicked missV) w' := by subst h; exact ⟨rfl, ht⟩
theorem GotR.yes {r : Option Message} {m : Message} {g : Nat} {w w' : World} (h : r = some m) (ht : Touch (fun k => k = g) w w') : GotR r g w (.returned (.agg m.vals.toArray)) w' := by subst h; exact ⟨rfl, ht⟩
def NextR (g : Nat) (s : List UInt8) (k : Nat) (w : World) (e : Ending) (w' : World) : Prop :=
  (4 * k + 4 ≤ s.length ∧ e = .returned (.int .i64 (wd (s.drop (4 * k)))) ∧ Rd w' g ⟨s.drop (4 * (k + 1)), 0⟩ ∧ Touch (fun k => k = g) w w') ∨ (s.length < 4 * k + 4 ∧ e = .panicked missV ∧ Touch (fun k => k = g) w w')
theorem next_any (g : Nat) (s : List UInt8) (k : Nat) (w : World) (hR : Rd w g ⟨s.drop (4 * k), 0⟩) (hl : s.length ≤ 2048) :
    Calls Tryz.prog 95 #[.agg #[.pointer (some ⟨g, 0, none⟩)]] w (NextR g s k w) := by
  have hd : (s.drop (4 * k)).length = s.length - 4 * k := by simp
  by_cases h : 4 * k + 4 ≤ s.length
  · refine (next_yes g _ w hR (by omega) (by omega)).mono ?_
    rintro e w' ⟨rfl, hQ, hT⟩
    rw [List.drop_drop] at hQ
    exact .inl ⟨h, rfl, hQ, hT⟩
  · refine (next_no g _ w hR (by omega) (by omega)).mono ?_
    rintro e w' ⟨rfl, hT⟩
    exact .inr ⟨by omega, rfl, hT⟩

theorem three_blks (w : World) (a b c : List Value) (A B C : TypeId) :
    let w0 := ((w.alloc (.cells a.toArray A)).alloc (.cells b.toArray B)).alloc (.cells c.toArray C)
    Blk w0 w.heap.size A a ∧ Blk w0 (w.heap.size + 1) B b ∧ Blk w0 (w.heap.size + 1 + 1) C c ∧ Below w.heap.size w w0 := by
  obtain ⟨h1, h2, h3, h4, _⟩ := chain3_blks w a b c A B C
  exact ⟨h1, h2, h3, h4⟩
theorem Touch.frozen {F : Nat → Prop} {w w' : World} (h : Touch F w w') {p : Addr} (hp : p.block < w.heap.size) (hn : ¬ F p.block) : w'.frozen? p = w.frozen? p := by
  simp only [World.frozen?, h.block p.block hp hn]
theorem StR.setc {g : Nat} {w W : World} (h : StR g w W) {b o : Nat} {v : Value} (hb : w.heap.size ≤ b) : StR g w (W.setCell ⟨b, o, none⟩ v) := StR.of (h.2.2.setCell_ (.inr hb) v)
theorem Rd.far {w : World} {g : Nat} {r : Rs} (h : Rd w g r) {b o : Nat} (hn : ¬ b = g) (v : Value) : Rd (w.setCell ⟨b, o, none⟩ v) g r := ⟨h.1.far (p := ⟨b, o, none⟩) (fun e => hn e.symm) v, h.2⟩
theorem Rd.drew {w : World} {g : Nat} {r : Rs} (h : Rd w g r) : Rd w.drew g r := h
theorem StR.re {g : Nat} {w W : World} {o : Obj} (h : StR g w (W.alloc o)) (hl : w.heap.size ≤ W.heap.size) (o' : Obj) : StR g w (W.alloc o') :=
  StR.of ⟨h.2.2.os, h.2.2.tape, h.2.2.output, by have := h.2.2.size; simpa using this, fun k hk hn => by
    rw [Below.heap_alloc _ _ _ (by omega), ← h.2.2.block k hk hn, Below.heap_alloc _ _ _ (by omega)]⟩
/-- ways that join: what is to be shown behind them is shown once -/
theorem join_ways {Φ : Nat → World → Prop} {G : Prop} (P : Nat → World → Prop) (h1 : (∀ b W, Φ b W → P b W) → G) (h2 : ∀ b W, Φ b W → P b W) : G := h1 h2
theorem rowOf_setCell_far (w : World) (b o n o' : Nat) {b' : Nat} (hn : ¬ b = b') (v : Value) : rowOf (w.setCell ⟨b', o', none⟩ v) b o n = rowOf w b o n := by
  simp only [rowOf, Below.heap_setCell w ⟨b', o', none⟩ v b hn]
set_option maxRecDepth 20000 in
set_option maxHeartbeats 4000000 in
theorem called_any (g : Nat) (x : Int) (s : List UInt8) (w : World) (hR : Rd w g ⟨s, 0⟩) (hl : s.length ≤ 2048) :
    Calls Tryz.prog 96 #[.agg #[.pointer (some ⟨g, 0, none⟩)], .int .i64 x] w (GotR (calledG x s.length (fun k => wd (s.drop (4 * k))) (s.drop 48)) g w) := by
  obtain ⟨f, hf⟩ : ∃ f : Nat → Nat, f = fun k => wd (s.drop (4 * k)) := ⟨_, rfl⟩
  have hf' : ∀ k, wd (s.drop (4 * k)) = f k := fun k => by rw [hf]
  rw [← hf]
  have K : ∀ (k : Nat) (W : World), Rd W g ⟨s.drop (4 * k), 0⟩ → Calls Tryz.prog 95 #[.agg #[.pointer (some ⟨g, 0, none⟩)]] W fun e w' =>
      (4 * k + 4 ≤ s.length ∧ e = .returned (.int .i64 (f k)) ∧ Rd w' g ⟨s.drop (4 * (k + 1)), 0⟩ ∧ Touch (fun k => k = g) W w') ∨ (s.length < 4 * k + 4 ∧ e = .panicked missV ∧ Touch (fun k => k = g) W w') := fun k W h => by
    rw [← hf' k]; exact next_any g s k W h hl
  have K := Lib.hid K
  clear hf hf'
  go_enter Tryz.func96, Tryz.ntmps96
  go_wp2_with fail
  obtain ⟨w0, hw0⟩ : ∃ W, W = ((w.alloc (.cells #[.pointer (some ⟨g, 0, none⟩)] 170)).alloc (.cells #[.int .i64 0, .bool false, .bool false, .int .i64 0, .int .i64 0, .int .i64 0, .int .i64 0, .int .i64 0, .int .i64 0, .string ⟨#[]⟩] 81)).alloc (.cells #[.int .i64 x, .bool false, .bool false, .int .i64 0, .int .i64 0, .int .i64 0, .int .i64 0, .int .i64 0, .int .i64 0, .string ⟨#[]⟩] 81) := ⟨_, rfl⟩
  rw [← hw0]
  obtain ⟨b1, b2, b3, hB0⟩ : Blk w0 w.heap.size 170 [.pointer (some ⟨g, 0, none⟩)] ∧ Blk w0 (w.heap.size + 1) 81 (Message.vals ⟨0, false, false, 0, cred0, 0, []⟩) ∧ Blk w0 (w.heap.size + 1 + 1) 81 (Message.vals ⟨x, false, false, 0, cred0, 0, []⟩) ∧ Below w.heap.size w w0 := by
    rw [hw0]
    exact three_blks w [.pointer (some ⟨g, 0, none⟩)] (Message.vals ⟨0, false, false, 0, cred0, 0, []⟩) (Message.vals ⟨x, false, false, 0, cred0, 0, []⟩) 170 81 81
  have hR0 := hR.stays hB0
  have hT0 := Touch.of_below hB0 (fun k => k = g)
  have hlt := hR.lt
  have n1 : w.heap.size ≠ g := by omega
  have n2 : w.heap.size + 1 ≠ g := by omega
  have n3 : w.heap.size + 1 + 1 ≠ g := by omega
  clear hw0 hB0 hR
  refine (K.out 0 _ hR0).mono ?_
  rintro e w1 (⟨q0, rfl, hR1, hT1⟩ | ⟨q0, rfl, hT1⟩)
  case inr => exact And.intro rfl (GotR.no (by grind [calledG]) (hT0.then_ hT1))
  have hT1' := hT0.then_ hT1
  have b1 := b1.touch hT1 n1
  have b2 := b2.touch hT1 n2
  have b3 := b3.touch hT1 n3
  clear hT0 hT1 hR0
  have c1 := b1.cell 0
  simp only [List.getElem?_cons_zero] at c1
  go_wp2_with fail
  refine (must_any _ _).mono ?_
  rintro e w2 ⟨he, rfl⟩
  split at he
  case isFalse h0 => 
    subst he
    exact And.intro rfl (GotR.no (by grind [calledG]) hT1')
  subst he
  go_wp2_with fail
  refine (K.out 1 _ hR1).mono ?_
  rintro e w2 (⟨q1, rfl, hR2, hT2⟩ | ⟨q1, rfl, hT2⟩)
  case inr => exact And.intro rfl (GotR.no (by grind [calledG]) (hT1'.then_ hT2))
  have hT2' := hT1'.then_ hT2
  have b1 := b1.touch hT2 n1
  have b2 := b2.touch hT2 n2
  have b3 := b3.touch hT2 n3
  clear hT1' hT2 hR1 c1
  have c1 := b1.cell 0
  simp only [List.getElem?_cons_zero] at c1
  by_cases h1 : f 1 = 100003
  case neg =>
    have h1' : ¬ (f 1 : Int) = 100003 := by omega
    have c3 : w2.cell? ⟨w.heap.size + 1 + 1, 8, none⟩ = some (.int .i64 0) := b3.cell 8
    have z3 := b3.frozen 8
    have b4 : Blk (w2.setCell ⟨w.heap.size + 1 + 1, 8, none⟩ (.int .i64 1)) _ _ (Message.vals ⟨x, false, false, 0, cred0, 1, []⟩) := b3.set_ 8 (.int .i64 1)
    have b2 := b2.far (p := ⟨w.heap.size + 1 + 1, 8, none⟩) (by simp) (.int .i64 1)
    have hT4 := hT2'.setCell (p := ⟨w.heap.size + 1 + 1, 8, none⟩) (.inr (by simp only; omega)) (.int .i64 1)
    have r4 := b4.row 0 10 (by simp [Message.len])
    rw [show ((Message.vals ⟨x, false, false, 0, cred0, 1, []⟩).drop 0).take 10 = Message.vals ⟨x, false, false, 0, cred0, 1, []⟩ from rfl] at r4
    go_wp2_with (first | (refine wpList_store_whole (by rfl) 81 _ _ (by rfl) (w.heap.size + 1) (Message.vals ⟨x, false, false, 0, cred0, 1, []⟩) _ b2 (by rfl) (by rfl) (by rfl) (by kernel_rfl) (Message.one _) ?_) | fail)
    refine ret_cells (w.heap.size + 1) 0 (Message.vals ⟨x, false, false, 0, cred0, 1, []⟩) Tryz.results96 Tryz.underlying81 rfl (by kernel_rfl) rfl (b2.whole (by rfl)).range rfl ?_
    exact GotR.yes (by grind [calledG]) (Touch.setCells (.inr (by omega)) _ _ _ hT4)
  have h1' : (f 1 : Int) = 100003 := by omega
  skip
  go_wp2_with fail
  refine (K.out 2 _ hR2).mono ?_
  rintro e w3 (⟨q2, rfl, hR3, hT3⟩ | ⟨q2, rfl, hT3⟩)
  case inr => exact And.intro rfl (GotR.no (by grind [calledG]) (hT2'.then_ hT3))
  have hT3' := hT2'.then_ hT3
  have b1 := b1.touch hT3 n1
  have b2 := b2.touch hT3 n2
  have b3 := b3.touch hT3 n3
  clear hT2' hT3 hR2 c1
  have c1 := b1.cell 0
  simp only [List.getElem?_cons_zero] at c1
  by_cases h2 : f 2 = 3
  case neg =>
    have h2' : ¬ (f 2 : Int) = 3 := by omega
    have c3 : w3.cell? ⟨w.heap.size + 1 + 1, 8, none⟩ = some (.int .i64 0) := b3.cell 8
    have z3 := b3.frozen 8
    have b4 : Blk (w3.setCell ⟨w.heap.size + 1 + 1, 8, none⟩ (.int .i64 2)) _ _ (Message.vals ⟨x, false, false, 0, cred0, 2, []⟩) := b3.set_ 8 (.int .i64 2)
    have b2 := b2.far (p := ⟨w.heap.size + 1 + 1, 8, none⟩) (by simp) (.int .i64 2)
    have hT4 := hT3'.setCell (p := ⟨w.heap.size + 1 + 1, 8, none⟩) (.inr (by simp only; omega)) (.int .i64 2)
    have r4 := b4.row 0 10 (by simp [Message.len])
    rw [show ((Message.vals ⟨x, false, false, 0, cred0, 2, []⟩).drop 0).take 10 = Message.vals ⟨x, false, false, 0, cred0, 2, []⟩ from rfl] at r4
    go_wp2_with (first | (refine wpList_store_whole (by rfl) 81 _ _ (by rfl) (w.heap.size + 1) (Message.vals ⟨x, false, false, 0, cred0, 2, []⟩) _ b2 (by rfl) (by rfl) (by rfl) (by kernel_rfl) (Message.one _) ?_) | fail)
    refine ret_cells (w.heap.size + 1) 0 (Message.vals ⟨x, false, false, 0, cred0, 2, []⟩) Tryz.results96 Tryz.underlying81 rfl (by kernel_rfl) rfl (b2.whole (by rfl)).range rfl ?_
    exact GotR.yes (by grind [calledG]) (Touch.setCells (.inr (by omega)) _ _ _ hT4)
  have h2' : (f 2 : Int) = 3 := by omega
  go_wp2_with fail
  refine (K.out 3 _ hR3).mono ?_
  rintro e w4 (⟨q3, rfl, hR4, hT4⟩ | ⟨q3, rfl, hT4⟩)
  case inr => exact And.intro rfl (GotR.no (by grind [calledG]) (hT3'.then_ hT4))
  have hT4' := hT3'.then_ hT4
  have b1 := b1.touch hT4 n1
  have b2 := b2.touch hT4 n2
  have b3 := b3.touch hT4 n3
  have l1 := b1.lt
  clear hT3' hT4 hR3 c1
  have c1 := b1.cell 0
  simp only [List.getElem?_cons_zero] at c1
  go_wp2_with fail
  have hR4 : Rd w4.drew g ⟨s.drop (4 * (3 + 1)), 0⟩ := hR4
  go_region_held2 (fun W => StR g w4 W) (first | exact StR.start | assumption | (refine StR.call ?_ hT5; first | exact StR.start | assumption) | (refine StR.call ?_ hT6; assumption)) (first
    | (go_at_call 95; refine (K.out 5 _ hR5).mono ?_; rintro e w6 (⟨q5, rfl, hR6, hT6⟩ | ⟨q5, rfl, hT6⟩); rotate_left; refine And.intro rfl (GotR.no ?_ ((hT4'.drew.then_ hT5).then_ hT6)); grind [calledG])
    | (go_at_call 95; refine (K.out 4 _ hR4).mono ?_; rintro e w5 (⟨q4, rfl, hR5, hT5⟩ | ⟨q4, rfl, hT5⟩); rotate_left; refine And.intro rfl (GotR.no ?_ (hT4'.drew.then_ hT5)); grind [calledG]))
  have hT6' := (hT4'.drew.then_ hT5).then_ hT6
  have b1 := (b1.drew.touch hT5 n1).touch hT6 n1
  have b2 := (b2.drew.touch hT5 n2).touch hT6 n2
  have b3 := (b3.drew.touch hT5 n3).touch hT6 n3
  have l1 := b1.lt
  have hR6 : Rd w6.drew g ⟨s.drop (4 * (5 + 1)), 0⟩ := hR6
  clear hT4' hT5 hT6 hR4 hR5 c1
  clear ‹StR g w4 w6›
  have c1 := b1.cell 0
  simp only [List.getElem?_cons_zero] at c1
  go_wp2_with fail
  have m6 : ¬ w6.heap.size = g := by have := hR6.lt; simp only [World.drew] at this; omega
  have l6 : w6.heap.size ≤ w6.heap.size := Nat.le_refl _
  have HB := Lib.hid (And.intro b1 (And.intro b2 b3))
  clear b1 b2 b3
  apply join_ways (Φ := fun b W => Blk W b 63 [.int .i64 (f 6), .int .i64 (f 7), .int .i64 (f 8), .int .i64 (f 9)] ∧ Rd W g ⟨s.drop (4 * (9 + 1)), 0⟩ ∧ StR g w6 W ∧ 40 ≤ s.length)
  case h1 =>
   intro hkey
   have hkey := Lib.hid hkey
   go_region_held2 (fun W => StR g w6 W) (with_reducible first | assumption | exact StR.start | (refine StR.call ?_ hT10; assumption) | (refine StR.call ?_ hT9; assumption) | (refine StR.call ?_ hT8; assumption) | (refine StR.call ?_ hT7; first | assumption | exact StR.start) | (refine StR.setc (StR.setc (StR.setc (StR.setc ?_ ?_) ?_) ?_) ?_ <;> first | assumption | omega) | (refine StR.alloc ?_ _; first | assumption | exact StR.start) | (apply StR.re; assumption; omega) | exact StR.of ((Touch.refl _ _).alloc _).drew) (first
    | (go_at_call 95; refine (K.out 9 _ ?_).mono ?_; rotate_left; rintro e w10 (⟨q9, rfl, hR10, hT10⟩ | ⟨q9, rfl, hT10⟩); rotate_left; refine And.intro rfl (GotR.no ?_ ((hT6'.then_ (‹StR g w6 _›).2.2).then_ hT10)); grind [calledG]; (first | exact hR9 | exact hR9.stays ((Below.refl _ _).alloc (Nat.le_refl _) _)); have L10 : w6.heap.size ≤ w10.heap.size := Nat.le_trans (‹StR g w6 _›).2.2.size hT10.size; have m10 : ¬ w10.heap.size = g := (by have := hR10.lt; omega); (first | (have B := B.touch hT10 N) | (have B := (Blk.new w9 63 [.int .i64 0, .int .i64 0, .int .i64 0, .int .i64 0]).touch hT10 m9; have N := m9; have M := L9) | skip); (first | (have c0 : w10.cell? ⟨_, 0, none⟩ = some (.int .i64 0) := B.cell 0; have z0 := B.frozen 0; have c1 : w10.cell? ⟨_, 1, none⟩ = some (.int .i64 0) := B.cell 1; have z1 := B.frozen 1; have c2 : w10.cell? ⟨_, 2, none⟩ = some (.int .i64 0) := B.cell 2; have z2 := B.frozen 2; have c3 : w10.cell? ⟨_, 3, none⟩ = some (.int .i64 0) := B.cell 3; have z3 := B.frozen 3) | skip))
    | (go_at_call 95; refine (K.out 8 _ ?_).mono ?_; rotate_left; rintro e w9 (⟨q8, rfl, hR9, hT9⟩ | ⟨q8, rfl, hT9⟩); rotate_left; refine And.intro rfl (GotR.no ?_ ((hT6'.then_ (‹StR g w6 _›).2.2).then_ hT9)); grind [calledG]; (first | exact hR8 | exact hR8.stays ((Below.refl _ _).alloc (Nat.le_refl _) _)); have L9 : w6.heap.size ≤ w9.heap.size := Nat.le_trans (‹StR g w6 _›).2.2.size hT9.size; have m9 : ¬ w9.heap.size = g := (by have := hR9.lt; omega); (first | (have B := B.touch hT9 N) | (have B := (Blk.new w8 63 [.int .i64 0, .int .i64 0, .int .i64 0, .int .i64 0]).touch hT9 m8; have N := m8; have M := L8) | skip))
    | (go_at_call 95; refine (K.out 7 _ ?_).mono ?_; rotate_left; rintro e w8 (⟨q7, rfl, hR8, hT8⟩ | ⟨q7, rfl, hT8⟩); rotate_left; refine And.intro rfl (GotR.no ?_ ((hT6'.then_ (‹StR g w6 _›).2.2).then_ hT8)); grind [calledG]; (first | exact hR7 | exact hR7.stays ((Below.refl _ _).alloc (Nat.le_refl _) _)); have L8 : w6.heap.size ≤ w8.heap.size := Nat.le_trans (‹StR g w6 _›).2.2.size hT8.size; have m8 : ¬ w8.heap.size = g := (by have := hR8.lt; omega); (first | (have B := B.touch hT8 N) | (have B := (Blk.new w7 63 [.int .i64 0, .int .i64 0, .int .i64 0, .int .i64 0]).touch hT8 m7; have N := m7; have M := L7) | skip))
    | (go_at_call 95; refine (K.out 6 _ ?_).mono ?_; rotate_left; rintro e w7 (⟨q6, rfl, hR7, hT7⟩ | ⟨q6, rfl, hT7⟩); rotate_left; refine And.intro rfl (GotR.no ?_ ((hT6'.then_ (‹StR g w6 _›).2.2).then_ hT7)); grind [calledG]; (first | exact hR6 | exact hR6.stays ((Below.refl _ _).alloc (Nat.le_refl _) _)); have L7 : w6.heap.size ≤ w7.heap.size := Nat.le_trans (‹StR g w6 _›).2.2.size hT7.size; have m7 : ¬ w7.heap.size = g := (by have := hR7.lt; omega); (first | (have B := (show Blk (w6.alloc (.cells (List.toArray [.int .i64 0, .int .i64 0, .int .i64 0, .int .i64 0]) 63)).drew _ _ _ from Blk.new w6 63 [.int .i64 0, .int .i64 0, .int .i64 0, .int .i64 0]).touch hT7 m6; have N := m6; have M := l6) | skip)))
   all_goals
   first
   | (obtain ⟨W, hW⟩ : ∃ W, W = w10.alloc (.cells #[.int .i64 (f 6), .int .i64 (f 7), .int .i64 (f 8), .int .i64 (f 9)] 63) := ⟨_, rfl⟩
      rw [← hW]
      have hse : StR g w6 W := by rw [hW]; assumption
      have hbk : Blk W w10.heap.size 63 [.int .i64 (f 6), .int .i64 (f 7), .int .i64 (f 8), .int .i64 (f 9)] := by rw [hW]; exact Blk.new _ _ _
      have hRW : Rd W g ⟨s.drop (4 * (9 + 1)), 0⟩ := by rw [hW]; exact hR10.stays ((Below.refl _ _).alloc (Nat.le_refl _) _)
      obtain ⟨b, hb⟩ : ∃ b, b = w10.heap.size := ⟨_, rfl⟩
      rw [← hb] at hbk ⊢
      exact hkey.out b W ⟨hbk, hRW, hse, by omega⟩)
   | (obtain ⟨W, hW⟩ : ∃ W, W = (((w10.setCell ⟨w9.heap.size, 0, none⟩ (.int .i64 (f 6))).setCell ⟨w9.heap.size, 1, none⟩ (.int .i64 (f 7))).setCell ⟨w9.heap.size, 2, none⟩ (.int .i64 (f 8))).setCell ⟨w9.heap.size, 3, none⟩ (.int .i64 (f 9)) := ⟨_, rfl⟩
      rw [← hW]
      have hse : StR g w6 W := by rw [hW]; assumption
      have hbk : Blk W w9.heap.size 63 [.int .i64 (f 6), .int .i64 (f 7), .int .i64 (f 8), .int .i64 (f 9)] := by rw [hW]; exact (((B.set_ 0 _).set_ 1 _).set_ 2 _).set_ 3 _
      have hRW : Rd W g ⟨s.drop (4 * (9 + 1)), 0⟩ := by rw [hW]; exact (((hR10.far N _).far N _).far N _).far N _
      obtain ⟨b, hb⟩ : ∃ b, b = w9.heap.size := ⟨_, rfl⟩
      rw [← hb] at hbk ⊢
      exact hkey.out b W ⟨hbk, hRW, hse, by omega⟩)
   | (obtain ⟨W, hW⟩ : ∃ W, W = (((w10.setCell ⟨w8.heap.size, 0, none⟩ (.int .i64 (f 6))).setCell ⟨w8.heap.size, 1, none⟩ (.int .i64 (f 7))).setCell ⟨w8.heap.size, 2, none⟩ (.int .i64 (f 8))).setCell ⟨w8.heap.size, 3, none⟩ (.int .i64 (f 9)) := ⟨_, rfl⟩
      rw [← hW]
      have hse : StR g w6 W := by rw [hW]; assumption
      have hbk : Blk W w8.heap.size 63 [.int .i64 (f 6), .int .i64 (f 7), .int .i64 (f 8), .int .i64 (f 9)] := by rw [hW]; exact (((B.set_ 0 _).set_ 1 _).set_ 2 _).set_ 3 _
      have hRW : Rd W g ⟨s.drop (4 * (9 + 1)), 0⟩ := by rw [hW]; exact (((hR10.far N _).far N _).far N _).far N _
      obtain ⟨b, hb⟩ : ∃ b, b = w8.heap.size := ⟨_, rfl⟩
      rw [← hb] at hbk ⊢
      exact hkey.out b W ⟨hbk, hRW, hse, by omega⟩)
   | (obtain ⟨W, hW⟩ : ∃ W, W = (((w10.setCell ⟨w7.heap.size, 0, none⟩ (.int .i64 (f 6))).setCell ⟨w7.heap.size, 1, none⟩ (.int .i64 (f 7))).setCell ⟨w7.heap.size, 2, none⟩ (.int .i64 (f 8))).setCell ⟨w7.heap.size, 3, none⟩ (.int .i64 (f 9)) := ⟨_, rfl⟩
      rw [← hW]
      have hse : StR g w6 W := by rw [hW]; assumption
      have hbk : Blk W w7.heap.size 63 [.int .i64 (f 6), .int .i64 (f 7), .int .i64 (f 8), .int .i64 (f 9)] := by rw [hW]; exact (((B.set_ 0 _).set_ 1 _).set_ 2 _).set_ 3 _
      have hRW : Rd W g ⟨s.drop (4 * (9 + 1)), 0⟩ := by rw [hW]; exact (((hR10.far N _).far N _).far N _).far N _
      obtain ⟨b, hb⟩ : ∃ b, b = w7.heap.size := ⟨_, rfl⟩
      rw [← hb] at hbk ⊢
      exact hkey.out b W ⟨hbk, hRW, hse, by omega⟩)
   | (obtain ⟨W, hW⟩ : ∃ W, W = (((w10.setCell ⟨w6.heap.size, 0, none⟩ (.int .i64 (f 6))).setCell ⟨w6.heap.size, 1, none⟩ (.int .i64 (f 7))).setCell ⟨w6.heap.size, 2, none⟩ (.int .i64 (f 8))).setCell ⟨w6.heap.size, 3, none⟩ (.int .i64 (f 9)) := ⟨_, rfl⟩
      rw [← hW]
      have hse : StR g w6 W := by rw [hW]; assumption
      have hbk : Blk W w6.heap.size 63 [.int .i64 (f 6), .int .i64 (f 7), .int .i64 (f 8), .int .i64 (f 9)] := by rw [hW]; exact (((B.set_ 0 _).set_ 1 _).set_ 2 _).set_ 3 _
      have hRW : Rd W g ⟨s.drop (4 * (9 + 1)), 0⟩ := by rw [hW]; exact (((hR10.far N _).far N _).far N _).far N _
      obtain ⟨b, hb⟩ : ∃ b, b = w6.heap.size := ⟨_, rfl⟩
      rw [← hb] at hbk ⊢
      exact hkey.out b W ⟨hbk, hRW, hse, by omega⟩)
  rintro b W ⟨hbk, hRW, hse, q9⟩
  obtain ⟨b1, b2, b3⟩ := HB.out
  have hT := hT6'.then_ hse.2.2
  have b1 := b1.touch hse.2.2 n1
  have b2 := b2.touch hse.2.2 n2
  have b3 := b3.touch hse.2.2 n3
  have nb := hbk.ne_ hRW.1 (by decide)
  have l1 := b1.lt
  clear hse hT6' HB c1 hR6
  have c1 := b1.cell 0
  simp only [List.getElem?_cons_zero] at c1
  have hRW : Rd W.drew g ⟨s.drop (4 * (9 + 1)), 0⟩ := hRW
  have HB := Lib.hid (And.intro b1 (And.intro b2 (And.intro b3 hbk)))
  clear b1 b2 b3 hbk
  go_wp2_with fail
  go_region_held2 (fun V => StR g W V) (with_reducible first | assumption | exact StR.start | (refine StR.call ?_ hT12; assumption) | (refine StR.call ?_ hT11; first | assumption | exact StR.start)) (first
    | (go_at_call 95; refine (K.out 11 _ hR11).mono ?_; rintro e w12 (⟨q11, rfl, hR12, hT12⟩ | ⟨q11, rfl, hT12⟩); rotate_left; refine And.intro rfl (GotR.no ?_ ((hT.drew.then_ hT11).then_ hT12)); grind [calledG])
    | (go_at_call 95; refine (K.out 10 _ hRW).mono ?_; rintro e w11 (⟨q10, rfl, hR11, hT11⟩ | ⟨q10, rfl, hT11⟩); rotate_left; refine And.intro rfl (GotR.no ?_ (hT.drew.then_ hT11)); grind [calledG]))
  obtain ⟨b1, b2, b3, b5⟩ := HB.out
  have hT12' := (hT.drew.then_ hT11).then_ hT12
  have b1 := (b1.drew.touch hT11 n1).touch hT12 n1
  have b2 := (b2.drew.touch hT11 n2).touch hT12 n2
  have b3 := (b3.drew.touch hT11 n3).touch hT12 n3
  have b5 := (b5.drew.touch hT11 nb).touch hT12 nb
  clear ‹StR g W w12›
  clear hT hT11 hT12 hRW hR11 HB c1
  have c1 := b1.cell 0
  simp only [List.getElem?_cons_zero] at c1
  cases hth : thereP (f 3)
  case false =>
    have c3 : w12.cell? ⟨w.heap.size + 1 + 1, 8, none⟩ = some (.int .i64 0) := b3.cell 8
    have z3 := b3.frozen 8
    have b4 : Blk (w12.setCell ⟨w.heap.size + 1 + 1, 8, none⟩ (.int .i64 3)) _ _ (Message.vals ⟨x, false, false, 0, cred0, 3, []⟩) := b3.set_ 8 (.int .i64 3)
    have b2 := b2.far (p := ⟨w.heap.size + 1 + 1, 8, none⟩) (by simp) (.int .i64 3)
    have hT4 := hT12'.setCell (p := ⟨w.heap.size + 1 + 1, 8, none⟩) (.inr (by simp only; omega)) (.int .i64 3)
    go_wp2_with fail
    refine (there9_any _ _).mono ?_
    rintro e w13 ⟨rfl, rfl⟩
    rw [hth]
    have r4 := b4.row 0 10 (by simp [Message.len])
    rw [show ((Message.vals ⟨x, false, false, 0, cred0, 3, []⟩).drop 0).take 10 = Message.vals ⟨x, false, false, 0, cred0, 3, []⟩ from rfl] at r4
    go_wp2_with (first | (refine wpList_store_whole (by rfl) 81 _ _ (by rfl) (w.heap.size + 1) (Message.vals ⟨x, false, false, 0, cred0, 3, []⟩) _ b2 (by rfl) (by rfl) (by rfl) (by kernel_rfl) (Message.one _) ?_) | fail)
    refine ret_cells (w.heap.size + 1) 0 (Message.vals ⟨x, false, false, 0, cred0, 3, []⟩) Tryz.results96 Tryz.underlying81 rfl (by kernel_rfl) rfl (b2.whole (by rfl)).range rfl ?_
    exact GotR.yes (by grind [calledG]) (Touch.setCells (.inr (by omega)) _ _ _ hT4)
  by_cases g4 : f 4 = 1
  case neg =>
    have g4' : ¬ (f 4 : Int) = 1 := by omega
    have c3 : w12.cell? ⟨w.heap.size + 1 + 1, 8, none⟩ = some (.int .i64 0) := b3.cell 8
    have z3 := b3.frozen 8
    have b4 : Blk (w12.setCell ⟨w.heap.size + 1 + 1, 8, none⟩ (.int .i64 4)) _ _ (Message.vals ⟨x, false, false, 0, cred0, 4, []⟩) := b3.set_ 8 (.int .i64 4)
    have b2 := b2.far (p := ⟨w.heap.size + 1 + 1, 8, none⟩) (by simp) (.int .i64 4)
    have hT4 := hT12'.setCell (p := ⟨w.heap.size + 1 + 1, 8, none⟩) (.inr (by simp only; omega)) (.int .i64 4)
    go_wp2_with fail
    refine (there9_any _ _).mono ?_
    rintro e w13 ⟨rfl, rfl⟩
    rw [hth]
    have r4 := b4.row 0 10 (by simp [Message.len])
    rw [show ((Message.vals ⟨x, false, false, 0, cred0, 4, []⟩).drop 0).take 10 = Message.vals ⟨x, false, false, 0, cred0, 4, []⟩ from rfl] at r4
    go_wp2_with (first | (refine wpList_store_whole (by rfl) 81 _ _ (by rfl) (w.heap.size + 1) (Message.vals ⟨x, false, false, 0, cred0, 4, []⟩) _ b2 (by rfl) (by rfl) (by rfl) (by kernel_rfl) (Message.one _) ?_) | fail)
    refine ret_cells (w.heap.size + 1) 0 (Message.vals ⟨x, false, false, 0, cred0, 4, []⟩) Tryz.results96 Tryz.underlying81 rfl (by kernel_rfl) rfl (b2.whole (by rfl)).range rfl ?_
    exact GotR.yes (by grind [calledG]) (Touch.setCells (.inr (by omega)) _ _ _ hT4)
  have g4' : (f 4 : Int) = 1 := by omega
  by_cases g5 : f 5 = 16
  case neg =>
    have g5' : ¬ (f 5 : Int) = 16 := by omega
    have c3 : w12.cell? ⟨w.heap.size + 1 + 1, 8, none⟩ = some (.int .i64 0) := b3.cell 8
    have z3 := b3.frozen 8
    have b4 : Blk (w12.setCell ⟨w.heap.size + 1 + 1, 8, none⟩ (.int .i64 4)) _ _ (Message.vals ⟨x, false, false, 0, cred0, 4, []⟩) := b3.set_ 8 (.int .i64 4)
    have b2 := b2.far (p := ⟨w.heap.size + 1 + 1, 8, none⟩) (by simp) (.int .i64 4)
    have hT4 := hT12'.setCell (p := ⟨w.heap.size + 1 + 1, 8, none⟩) (.inr (by simp only; omega)) (.int .i64 4)
    go_wp2_with fail
    refine (there9_any _ _).mono ?_
    rintro e w13 ⟨rfl, rfl⟩
    rw [hth]
    have r4 := b4.row 0 10 (by simp [Message.len])
    rw [show ((Message.vals ⟨x, false, false, 0, cred0, 4, []⟩).drop 0).take 10 = Message.vals ⟨x, false, false, 0, cred0, 4, []⟩ from rfl] at r4
    go_wp2_with (first | (refine wpList_store_whole (by rfl) 81 _ _ (by rfl) (w.heap.size + 1) (Message.vals ⟨x, false, false, 0, cred0, 4, []⟩) _ b2 (by rfl) (by rfl) (by rfl) (by kernel_rfl) (Message.one _) ?_) | fail)
    refine ret_cells (w.heap.size + 1) 0 (Message.vals ⟨x, false, false, 0, cred0, 4, []⟩) Tryz.results96 Tryz.underlying81 rfl (by kernel_rfl) rfl (b2.whole (by rfl)).range rfl ?_
    exact GotR.yes (by grind [calledG]) (Touch.setCells (.inr (by omega)) _ _ _ hT4)
  have g5' : (f 5 : Int) = 16 := by omega
  by_cases g10 : f 10 = 0
  case neg =>
    have g10' : ¬ (f 10 : Int) = 0 := by omega
    have c3 : w12.cell? ⟨w.heap.size + 1 + 1, 8, none⟩ = some (.int .i64 0) := b3.cell 8
    have z3 := b3.frozen 8
    have b4 : Blk (w12.setCell ⟨w.heap.size + 1 + 1, 8, none⟩ (.int .i64 4)) _ _ (Message.vals ⟨x, false, false, 0, cred0, 4, []⟩) := b3.set_ 8 (.int .i64 4)
    have b2 := b2.far (p := ⟨w.heap.size + 1 + 1, 8, none⟩) (by simp) (.int .i64 4)
    have hT4 := hT12'.setCell (p := ⟨w.heap.size + 1 + 1, 8, none⟩) (.inr (by simp only; omega)) (.int .i64 4)
    go_wp2_with fail
    refine (there9_any _ _).mono ?_
    rintro e w13 ⟨rfl, rfl⟩
    rw [hth]
    have r4 := b4.row 0 10 (by simp [Message.len])
    rw [show ((Message.vals ⟨x, false, false, 0, cred0, 4, []⟩).drop 0).take 10 = Message.vals ⟨x, false, false, 0, cred0, 4, []⟩ from rfl] at r4
    go_wp2_with (first | (refine wpList_store_whole (by rfl) 81 _ _ (by rfl) (w.heap.size + 1) (Message.vals ⟨x, false, false, 0, cred0, 4, []⟩) _ b2 (by rfl) (by rfl) (by rfl) (by kernel_rfl) (Message.one _) ?_) | fail)
    refine ret_cells (w.heap.size + 1) 0 (Message.vals ⟨x, false, false, 0, cred0, 4, []⟩) Tryz.results96 Tryz.underlying81 rfl (by kernel_rfl) rfl (b2.whole (by rfl)).range rfl ?_
    exact GotR.yes (by grind [calledG]) (Touch.setCells (.inr (by omega)) _ _ _ hT4)
  have g10' : (f 10 : Int) = 0 := by omega
  by_cases g11 : f 11 = 0
  case neg =>
    have g11' : ¬ (f 11 : Int) = 0 := by omega
    have c3 : w12.cell? ⟨w.heap.size + 1 + 1, 8, none⟩ = some (.int .i64 0) := b3.cell 8
    have z3 := b3.frozen 8
    have b4 : Blk (w12.setCell ⟨w.heap.size + 1 + 1, 8, none⟩ (.int .i64 4)) _ _ (Message.vals ⟨x, false, false, 0, cred0, 4, []⟩) := b3.set_ 8 (.int .i64 4)
    have b2 := b2.far (p := ⟨w.heap.size + 1 + 1, 8, none⟩) (by simp) (.int .i64 4)
    have hT4 := hT12'.setCell (p := ⟨w.heap.size + 1 + 1, 8, none⟩) (.inr (by simp only; omega)) (.int .i64 4)
    go_wp2_with fail
    refine (there9_any _ _).mono ?_
    rintro e w13 ⟨rfl, rfl⟩
    rw [hth]
    have r4 := b4.row 0 10 (by simp [Message.len])
    rw [show ((Message.vals ⟨x, false, false, 0, cred0, 4, []⟩).drop 0).take 10 = Message.vals ⟨x, false, false, 0, cred0, 4, []⟩ from rfl] at r4
    go_wp2_with (first | (refine wpList_store_whole (by rfl) 81 _ _ (by rfl) (w.heap.size + 1) (Message.vals ⟨x, false, false, 0, cred0, 4, []⟩) _ b2 (by rfl) (by rfl) (by rfl) (by kernel_rfl) (Message.one _) ?_) | fail)
    refine ret_cells (w.heap.size + 1) 0 (Message.vals ⟨x, false, false, 0, cred0, 4, []⟩) Tryz.results96 Tryz.underlying81 rfl (by kernel_rfl) rfl (b2.whole (by rfl)).range rfl ?_
    exact GotR.yes (by grind [calledG]) (Touch.setCells (.inr (by omega)) _ _ _ hT4)
  have g11' : (f 11 : Int) = 0 := by omega
  have r5 : rowOf w12 b 0 4 = some #[.int .i64 (f 6), .int .i64 (f 7), .int .i64 (f 8), .int .i64 (f 9)] := b5.row 0 4 (by simp)
  go_wp2_with fail
  refine (there9_any _ _).mono ?_
  rintro e w13 ⟨rfl, rfl⟩
  rw [hth]
  go_wp2_with fail
  refine (owner9_any ⟨f 6, f 7, f 8, f 9⟩ _).mono ?_
  rintro e w14 ⟨rfl, hbO⟩
  have hT14 := hT12'.then_ (Touch.of_below hbO _)
  have hR14 := hR12.stays hbO
  have b1 := b1.stays hbO
  have b2 := b2.stays hbO
  have b3 := b3.stays hbO
  have b5 := b5.stays hbO
  clear hbO hT12' hR12 c1 r5
  have c1 := b1.cell 0
  simp only [List.getElem?_cons_zero] at c1
  cases hok : Cred.ok ⟨f 6, f 7, f 8, f 9⟩
  case false =>
    have c3 : w14.cell? ⟨w.heap.size + 1 + 1, 8, none⟩ = some (.int .i64 0) := b3.cell 8
    have z3 := b3.frozen 8
    have b4 : Blk (w14.setCell ⟨w.heap.size + 1 + 1, 8, none⟩ (.int .i64 4)) _ _ (Message.vals ⟨x, false, false, 0, cred0, 4, []⟩) := b3.set_ 8 (.int .i64 4)
    have b2 := b2.far (p := ⟨w.heap.size + 1 + 1, 8, none⟩) (by simp) (.int .i64 4)
    have hT4 := hT14.setCell (p := ⟨w.heap.size + 1 + 1, 8, none⟩) (.inr (by simp only; omega)) (.int .i64 4)
    have r4 := b4.row 0 10 (by simp [Message.len])
    rw [show ((Message.vals ⟨x, false, false, 0, cred0, 4, []⟩).drop 0).take 10 = Message.vals ⟨x, false, false, 0, cred0, 4, []⟩ from rfl] at r4
    go_wp2_with (first | (refine wpList_store_whole (by rfl) 81 _ _ (by rfl) (w.heap.size + 1) (Message.vals ⟨x, false, false, 0, cred0, 4, []⟩) _ b2 (by rfl) (by rfl) (by rfl) (by kernel_rfl) (Message.one _) ?_) | fail)
    refine ret_cells (w.heap.size + 1) 0 (Message.vals ⟨x, false, false, 0, cred0, 4, []⟩) Tryz.results96 Tryz.underlying81 rfl (by kernel_rfl) rfl (b2.whole (by rfl)).range rfl ?_
    exact GotR.yes (by grind [calledG]) (Touch.setCells (.inr (by omega)) _ _ _ hT4)
  have hd : (s.drop (4 * (11 + 1))).length = s.length - 48 := by simp
  have hL : rLeft ⟨s.drop (4 * (11 + 1)), 0⟩ = s.length - 48 := by simp [rLeft]
  go_wp2_with fail
  refine (rLeft_any g _ _ hR14).mono ?_
  rintro e w15 ⟨rfl, rfl⟩
  rw [hL]
  by_cases hm : s.length % 4 = 0
  case neg =>
    have hm1 : ¬ ((s.length - 48 : Nat) : Int) % 4 = 0 := by omega
    have hm2 : ¬ ((s.length - 48 : Nat) : Int).tmod 4 = 0 := by rw [Int.tmod_eq_emod_of_nonneg (by omega)]; exact hm1
    have c3 : w14.cell? ⟨w.heap.size + 1 + 1, 8, none⟩ = some (.int .i64 0) := b3.cell 8
    have z3 := b3.frozen 8
    have b4 : Blk (w14.setCell ⟨w.heap.size + 1 + 1, 8, none⟩ (.int .i64 4)) _ _ (Message.vals ⟨x, false, false, 0, cred0, 4, []⟩) := b3.set_ 8 (.int .i64 4)
    have b2 := b2.far (p := ⟨w.heap.size + 1 + 1, 8, none⟩) (by simp) (.int .i64 4)
    have hT4 := hT14.setCell (p := ⟨w.heap.size + 1 + 1, 8, none⟩) (.inr (by simp only; omega)) (.int .i64 4)
    generalize s.length - 48 = L at *
    have r4 := b4.row 0 10 (by simp [Message.len])
    rw [show ((Message.vals ⟨x, false, false, 0, cred0, 4, []⟩).drop 0).take 10 = Message.vals ⟨x, false, false, 0, cred0, 4, []⟩ from rfl] at r4
    go_wp2_with (first | (refine wpList_store_whole (by rfl) 81 _ _ (by rfl) (w.heap.size + 1) (Message.vals ⟨x, false, false, 0, cred0, 4, []⟩) _ b2 (by rfl) (by rfl) (by rfl) (by kernel_rfl) (Message.one _) ?_) | fail)
    refine ret_cells (w.heap.size + 1) 0 (Message.vals ⟨x, false, false, 0, cred0, 4, []⟩) Tryz.results96 Tryz.underlying81 rfl (by kernel_rfl) rfl (b2.whole (by rfl)).range rfl ?_
    exact GotR.yes (by grind [calledG]) (Touch.setCells (.inr (by omega)) _ _ _ hT4)
  have hm1 : ((s.length - 48 : Nat) : Int) % 4 = 0 := by omega
  have hm2 : ((s.length - 48 : Nat) : Int).tmod 4 = 0 := by rw [Int.tmod_eq_emod_of_nonneg (by omega)]; exact hm1
  have hLb : s.length - 48 ≤ 2048 := by omega
  generalize s.length - 48 = L at *
  have r5 : rowOf w14 b 0 4 = some #[.int .i64 (f 6), .int .i64 (f 7), .int .i64 (f 8), .int .i64 (f 9)] := b5.row 0 4 (by simp)
  have nm : w.heap.size + 1 + 1 ≠ b := b3.ne_ b5 (by decide)
  have nm' : ¬ b = w.heap.size + 1 + 1 := fun e => nm e.symm
  have c3 : w14.cell? ⟨w.heap.size + 1 + 1, 3, none⟩ = some (.int .i64 0) := b3.cell 3
  have c4 : w14.cell? ⟨w.heap.size + 1 + 1, 4, none⟩ = some (.int .i64 0) := b3.cell 4
  have c5 : w14.cell? ⟨w.heap.size + 1 + 1, 5, none⟩ = some (.int .i64 0) := b3.cell 5
  have c6 : w14.cell? ⟨w.heap.size + 1 + 1, 6, none⟩ = some (.int .i64 0) := b3.cell 6
  have c7 : w14.cell? ⟨w.heap.size + 1 + 1, 7, none⟩ = some (.int .i64 0) := b3.cell 7
  have z3 := b3.frozen 3
  have z4 := b3.frozen 4
  have z5 := b3.frozen 5
  have z6 := b3.frozen 6
  have z7 := b3.frozen 7
  have HB := Lib.hid (And.intro b1 (And.intro b2 (And.intro b3 b5)))
  clear b1 b2 b3 b5
  go_wp2_with fail
  go_region_held2 (fun V => rowOf V b 0 4 = some #[.int .i64 (f 6), .int .i64 (f 7), .int .i64 (f 8), .int .i64 (f 9)]) (first | (with_reducible assumption) | (simp only [rowOf_drew, rowOf_setCell_far _ _ _ _ _ nm']; with_reducible assumption)) (first | fail)
  obtain ⟨b1, b2, b3, b5⟩ := HB.out
  obtain ⟨wz, hwz⟩ : ∃ V, V = (((((w14.setCell ⟨w.heap.size + 1 + 1, 3, none⟩ (.int .i64 (f 3))).setCell ⟨w.heap.size + 1 + 1, 4, none⟩ (.int .i64 (f 6))).setCell ⟨w.heap.size + 1 + 1, 5, none⟩ (.int .i64 (f 7))).setCell ⟨w.heap.size + 1 + 1, 6, none⟩ (.int .i64 (f 8))).setCell ⟨w.heap.size + 1 + 1, 7, none⟩ (.int .i64 (f 9))).drew := ⟨_, rfl⟩
  rw [← hwz]
  have hRz : Rd wz g ⟨s.drop 48, 0⟩ := by
    have h := (Rd.far (Rd.far (Rd.far (Rd.far (Rd.far hR14 (b := w.heap.size + 1 + 1) (o := 3) (fun e => n3 e) (.int .i64 (f 3))) (b := w.heap.size + 1 + 1) (o := 4) (fun e => n3 e) (.int .i64 (f 6))) (b := w.heap.size + 1 + 1) (o := 5) (fun e => n3 e) (.int .i64 (f 7))) (b := w.heap.size + 1 + 1) (o := 6) (fun e => n3 e) (.int .i64 (f 8))) (b := w.heap.size + 1 + 1) (o := 7) (fun e => n3 e) (.int .i64 (f 9))).drew
    rw [← hwz] at h
    exact h
  have b1z := (((((b1.far (p := ⟨w.heap.size + 1 + 1, 3, none⟩) (by simp; omega) (.int .i64 (f 3))).far (p := ⟨w.heap.size + 1 + 1, 4, none⟩) (by simp; omega) (.int .i64 (f 6))).far (p := ⟨w.heap.size + 1 + 1, 5, none⟩) (by simp; omega) (.int .i64 (f 7))).far (p := ⟨w.heap.size + 1 + 1, 6, none⟩) (by simp; omega) (.int .i64 (f 8))).far (p := ⟨w.heap.size + 1 + 1, 7, none⟩) (by simp; omega) (.int .i64 (f 9))).drew
  have b2z := (((((b2.far (p := ⟨w.heap.size + 1 + 1, 3, none⟩) (by simp) (.int .i64 (f 3))).far (p := ⟨w.heap.size + 1 + 1, 4, none⟩) (by simp) (.int .i64 (f 6))).far (p := ⟨w.heap.size + 1 + 1, 5, none⟩) (by simp) (.int .i64 (f 7))).far (p := ⟨w.heap.size + 1 + 1, 6, none⟩) (by simp) (.int .i64 (f 8))).far (p := ⟨w.heap.size + 1 + 1, 7, none⟩) (by simp) (.int .i64 (f 9))).drew
  have b3y := (((((b3.set_ 3 (.int .i64 (f 3))).set_ 4 (.int .i64 (f 6))).set_ 5 (.int .i64 (f 7))).set_ 6 (.int .i64 (f 8))).set_ 7 (.int .i64 (f 9))).drew
  have hTz := (Touch.setCell_ (Touch.setCell_ (Touch.setCell_ (Touch.setCell_ (Touch.setCell_ hT14 (g := w.heap.size + 1 + 1) (o := 3) (.inr (by omega)) (.int .i64 (f 3))) (g := w.heap.size + 1 + 1) (o := 4) (.inr (by omega)) (.int .i64 (f 6))) (g := w.heap.size + 1 + 1) (o := 5) (.inr (by omega)) (.int .i64 (f 7))) (g := w.heap.size + 1 + 1) (o := 6) (.inr (by omega)) (.int .i64 (f 8))) (g := w.heap.size + 1 + 1) (o := 7) (.inr (by omega)) (.int .i64 (f 9))).drew
  rw [← hwz] at b1z b2z b3y hTz
  have b3z : Blk wz (w.heap.size + 1 + 1) 81 (Message.vals ⟨x, false, false, f 3, ⟨f 6, f 7, f 8, f 9⟩, 0, []⟩) := b3y
  clear b3y
  have hdl : (s.drop 48).length = L := hd
  clear hwz b1 b2 b3 b5 HB hT14 hR14 c1 c3 c4 c5 c6 c7 z3 z4 z5 z6 z7 r5
  have c1 := b1z.cell 0
  simp only [List.getElem?_cons_zero] at c1
  go_wp2_with fail
  refine (rest_any g _ _ hRz (by omega) (by omega)).mono ?_
  rintro e w16 ⟨rfl, hTr⟩
  have b2 := b2z.touch hTr n2
  have b3 := b3z.touch hTr n3
  have hT16 := hTz.then_ hTr
  clear b1z b2z b3z hTz hTr hRz c1
  have c9 : w16.cell? ⟨w.heap.size + 1 + 1, 9, none⟩ = some (.string (bs [])) := b3.cell 9
  have z9 := b3.frozen 9
  have b4 : Blk (w16.setCell ⟨w.heap.size + 1 + 1, 9, none⟩ (.string (bs (s.drop 48)))) _ _ (Message.vals ⟨x, false, false, f 3, ⟨f 6, f 7, f 8, f 9⟩, 0, s.drop 48⟩) := b3.set_ 9 (.string (bs (s.drop 48)))
  have b2 := b2.far (p := ⟨w.heap.size + 1 + 1, 9, none⟩) (by simp) (.string (bs (s.drop 48)))
  have hT4 := hT16.setCell (p := ⟨w.heap.size + 1 + 1, 9, none⟩) (.inr (by simp only; omega)) (.string (bs (s.drop 48)))
  have r4 := b4.row 0 10 (by simp [Message.len])
  rw [show ((Message.vals ⟨x, false, false, f 3, ⟨f 6, f 7, f 8, f 9⟩, 0, s.drop 48⟩).drop 0).take 10 = Message.vals ⟨x, false, false, f 3, ⟨f 6, f 7, f 8, f 9⟩, 0, s.drop 48⟩ from rfl] at r4
  go_wp2_with (first | (refine wpList_store_whole (by rfl) 81 _ _ (by rfl) (w.heap.size + 1) (Message.vals ⟨x, false, false, f 3, ⟨f 6, f 7, f 8, f 9⟩, 0, s.drop 48⟩) _ b2 (by rfl) (by rfl) (by rfl) (by kernel_rfl) (Message.one _) ?_) | fail)
  refine ret_cells (w.heap.size + 1) 0 (Message.vals ⟨x, false, false, f 3, ⟨f 6, f 7, f 8, f 9⟩, 0, s.drop 48⟩) Tryz.results96 Tryz.underlying81 rfl (by kernel_rfl) rfl (b2.whole (by rfl)).range rfl ?_
  exact GotR.yes (by grind [calledG]) (Touch.setCells (.inr (by omega)) _ _ _ hT4)
end Go.Proofs.YtfjflkmhhbhceaaGreatDoor

/-
  Layer 9, walks: how the program takes an answer. Condition: at most 2048 bytes.
-/
namespace Go.Proofs.YtfjflkmhhbhceaaGreatDoor
open Go.RowKit
attribute [local go_sem ↓] Go.wp_at_zero Go.wp_at_succ
attribute [local go_sem] rowAt_ptr rowOf_drew rowOf_drewN rowOf_alloc_past rowOf_new
attribute [local go_sem] Message.at0 Message.lat0 Message.at1 Message.lat1 Message.at2 Message.lat2 Message.at3 Message.lat3 Message.at4 Message.lat4 Message.at5 Message.lat5 Message.at6 Message.lat6 Message.at7 Message.lat7 Message.at8 Message.lat8 Message.at9 Message.lat9 Message.sub0_10 Message.lsub0_10 Message.sub4_4 Message.lsub4_4 Message.len Cred.at0 Cred.lat0 Cred.at1 Cred.lat1 Cred.at2 Cred.lat2 Cred.at3 Cred.lat3 Cred.sub0_4 Cred.lsub0_4 Cred.len

attribute [local go_sem ↓] ldMessage ldCred

set_option maxRecDepth 20000 in
set_option maxHeartbeats 1600000 in
theorem answered_any (g : Nat) (x : Int) (s : List UInt8) (w : World) (hR : Rd w g ⟨s, 0⟩) (hl : s.length ≤ 2048) :
    Calls Tryz.prog 97 #[.agg #[.pointer (some ⟨g, 0, none⟩)], .int .i64 x] w (GotR (answeredG x s.length (fun k => wd (s.drop (4 * k))) (s.drop 16)) g w) := by
  obtain ⟨f, hf⟩ : ∃ f : Nat → Nat, f = fun k => wd (s.drop (4 * k)) := ⟨_, rfl⟩
  have hf' : ∀ k, wd (s.drop (4 * k)) = f k := fun k => by rw [hf]
  rw [← hf]
  have K : ∀ (k : Nat) (W : World), Rd W g ⟨s.drop (4 * k), 0⟩ → Calls Tryz.prog 95 #[.agg #[.pointer (some ⟨g, 0, none⟩)]] W fun e w' =>
      (4 * k + 4 ≤ s.length ∧ e = .returned (.int .i64 (f k)) ∧ Rd w' g ⟨s.drop (4 * (k + 1)), 0⟩ ∧ Touch (fun k => k = g) W w') ∨ (s.length < 4 * k + 4 ∧ e = .panicked missV ∧ Touch (fun k => k = g) W w') := fun k W h => by
    rw [← hf' k]; exact next_any g s k W h hl
  have K := Lib.hid K
  clear hf hf'
  go_enter Tryz.func97, Tryz.ntmps97
  go_wp2_with fail
  obtain ⟨w0, hw0⟩ : ∃ W, W = ((w.alloc (.cells #[.pointer (some ⟨g, 0, none⟩)] 170)).alloc (.cells #[.int .i64 0, .bool false, .bool false, .int .i64 0, .int .i64 0, .int .i64 0, .int .i64 0, .int .i64 0, .int .i64 0, .string ⟨#[]⟩] 81)).alloc (.cells #[.int .i64 x, .bool true, .bool false, .int .i64 0, .int .i64 0, .int .i64 0, .int .i64 0, .int .i64 0, .int .i64 0, .string ⟨#[]⟩] 81) := ⟨_, rfl⟩
  rw [← hw0]
  obtain ⟨b1, b2, b3, hB0⟩ : Blk w0 w.heap.size 170 [.pointer (some ⟨g, 0, none⟩)] ∧ Blk w0 (w.heap.size + 1) 81 (Message.vals ⟨0, false, false, 0, cred0, 0, []⟩) ∧ Blk w0 (w.heap.size + 1 + 1) 81 (Message.vals ⟨x, true, false, 0, cred0, 0, []⟩) ∧ Below w.heap.size w w0 := by
    rw [hw0]
    exact three_blks w [.pointer (some ⟨g, 0, none⟩)] (Message.vals ⟨0, false, false, 0, cred0, 0, []⟩) (Message.vals ⟨x, true, false, 0, cred0, 0, []⟩) 170 81 81
  have hR0 := hR.stays hB0
  have hT0 := Touch.of_below hB0 (fun k => k = g)
  have hlt := hR.lt
  have n1 : w.heap.size ≠ g := by omega
  have n2 : w.heap.size + 1 ≠ g := by omega
  have n3 : w.heap.size + 1 + 1 ≠ g := by omega
  clear hw0 hB0 hR
  refine (K.out 0 _ hR0).mono ?_
  rintro e w1 (⟨q0, rfl, hR1, hT1x⟩ | ⟨q0, rfl, hT1x⟩)
  case inr => exact And.intro rfl (GotR.no (by grind [answeredG]) (hT0.then_ hT1x))
  have hT1 := hT0.then_ hT1x
  have b1 := b1.touch hT1x n1
  have b2 := b2.touch hT1x n2
  have b3 := b3.touch hT1x n3
  clear hT0 hT1x hR0
  have c1 := b1.cell 0
  simp only [List.getElem?_cons_zero] at c1
  go_wp2_with fail
  refine (must_any _ _).mono ?_
  rintro e wm ⟨he, rfl⟩
  split at he
  case isFalse h0 =>
    subst he
    exact And.intro rfl (GotR.no (by grind [answeredG]) hT1)
  subst he
  go_wp2_with fail
  refine (K.out 1 _ hR1).mono ?_
  rintro e w2 (⟨q1, rfl, hR2, hT2x⟩ | ⟨q1, rfl, hT2x⟩)
  case inr => exact And.intro rfl (GotR.no (by grind [answeredG]) (hT1.then_ hT2x))
  have hT2 := hT1.then_ hT2x
  have b1 := b1.touch hT2x n1
  have b2 := b2.touch hT2x n2
  have b3 := b3.touch hT2x n3
  clear hT1 hT2x hR1 c1
  have c1 := b1.cell 0
  simp only [List.getElem?_cons_zero] at c1
  by_cases g1 : 1 < f 1
  case pos =>
    have g1' : ¬ (f 1 : Int) ≤ 1 := by omega
    go_wp2_with fail
    refine (must_any _ _).mono ?_
    rintro e wm ⟨he, rfl⟩
    simp only [Bool.false_eq_true, if_false] at he
    subst he
    exact And.intro rfl (GotR.no (by grind [answeredG]) hT2)
  have g1' : (f 1 : Int) ≤ 1 := by omega
  go_wp2_with fail
  refine (K.out 2 _ hR2).mono ?_
  rintro e w3 (⟨q2, rfl, hR3, hT3x⟩ | ⟨q2, rfl, hT3x⟩)
  case inr => exact And.intro rfl (GotR.no (by grind [answeredG]) (hT2.then_ hT3x))
  have hT3 := hT2.then_ hT3x
  have b1 := b1.touch hT3x n1
  have b2 := b2.touch hT3x n2
  have b3 := b3.touch hT3x n3
  clear hT2 hT3x hR2 c1
  have c1 := b1.cell 0
  simp only [List.getElem?_cons_zero] at c1
  go_wp2_with fail
  refine (must_any _ _).mono ?_
  rintro e wm ⟨he, rfl⟩
  split at he
  case isFalse h0 =>
    subst he
    exact And.intro rfl (GotR.no (by grind [answeredG]) hT3)
  subst he
  go_wp2_with fail
  refine (K.out 3 _ hR3).mono ?_
  rintro e w4 (⟨q3, rfl, hR4, hT4x⟩ | ⟨q3, rfl, hT4x⟩)
  case inr => exact And.intro rfl (GotR.no (by grind [answeredG]) (hT3.then_ hT4x))
  have hT4 := hT3.then_ hT4x
  have b1 := b1.touch hT4x n1
  have b2 := b2.touch hT4x n2
  have b3 := b3.touch hT4x n3
  clear hT3 hT4x hR3 c1
  have c1 := b1.cell 0
  simp only [List.getElem?_cons_zero] at c1
  obtain ⟨B, hBd⟩ : ∃ B, B = (f 1 == 1) := ⟨_, rfl⟩
  have hBe : ((f 1 : Int) == 1) = B := by rw [hBd, Bool.eq_iff_iff]; simp; omega
  rw [hBe]
  clear hBe
  have HBd := Lib.hid hBd
  clear hBd
  have c2 : w4.cell? ⟨w.heap.size + 1 + 1, 2, none⟩ = some (.bool false) := b3.cell 2
  have c8 : w4.cell? ⟨w.heap.size + 1 + 1, 8, none⟩ = some (.int .i64 0) := b3.cell 8
  have z2 := b3.frozen 2
  have z8 := b3.frozen 8
  obtain ⟨wz, hwz⟩ : ∃ V, V = (w4.setCell ⟨w.heap.size + 1 + 1, 2, none⟩ (.bool B)).setCell ⟨w.heap.size + 1 + 1, 8, none⟩ (.int .i64 (f 3)) := ⟨_, rfl⟩
  have hRz : Rd wz g ⟨s.drop 16, 0⟩ := by rw [hwz]; exact (hR4.far (fun e => n3 e) _).far (fun e => n3 e) _
  have b1z : Blk wz w.heap.size 170 [.pointer (some ⟨g, 0, none⟩)] := by rw [hwz]; exact ((b1.far (p := ⟨w.heap.size + 1 + 1, 2, none⟩) (by simp; omega) _).far (p := ⟨w.heap.size + 1 + 1, 8, none⟩) (by simp; omega) _)
  have b2z : Blk wz (w.heap.size + 1) 81 (Message.vals ⟨0, false, false, 0, cred0, 0, []⟩) := by rw [hwz]; exact ((b2.far (p := ⟨w.heap.size + 1 + 1, 2, none⟩) (by simp) _).far (p := ⟨w.heap.size + 1 + 1, 8, none⟩) (by simp) _)
  have b3z : Blk wz (w.heap.size + 1 + 1) 81 (Message.vals ⟨x, true, B, 0, cred0, f 3, []⟩) := by rw [hwz]; exact (b3.set_ 2 _).set_ 8 _
  have hTz : Touch (fun k => k = g) w wz := by
    rw [hwz]
    exact (hT4.setCell_ (.inr (by omega)) _).setCell_ (.inr (by omega)) _
  have hd : (s.drop 16).length = s.length - 16 := by simp
  have hL : rLeft ⟨s.drop 16, 0⟩ = s.length - 16 := by simp [rLeft]
  clear b1 b2 b3 hT4 hR4
  go_wp2_with fail
  rw [← hwz]
  refine (rLeft_any g _ _ hRz).mono ?_
  rintro e w15 ⟨rfl, rfl⟩
  rw [hL]
  clear hwz c1 c2 c8 z2 z8
  have c1 := b1z.cell 0
  simp only [List.getElem?_cons_zero] at c1
  by_cases hm : s.length % 4 = 0
  case neg =>
    have hm1 : ¬ ((s.length - 16 : Nat) : Int) % 4 = 0 := by omega
    have hm2 : ¬ ((s.length - 16 : Nat) : Int).tmod 4 = 0 := by rw [Int.tmod_eq_emod_of_nonneg (by omega)]; exact hm1
    generalize s.length - 16 = L at *
    go_wp2_with fail
    refine (must_any _ _).mono ?_
    rintro e wm ⟨he, rfl⟩
    split at he
    case isTrue h0 => simp_all
    subst he
    exact And.intro rfl (GotR.no (by grind [answeredG]) hTz)
  have hm1 : ((s.length - 16 : Nat) : Int) % 4 = 0 := by omega
  have hm2 : ((s.length - 16 : Nat) : Int).tmod 4 = 0 := by rw [Int.tmod_eq_emod_of_nonneg (by omega)]; exact hm1
  have hLb : s.length - 16 ≤ 2048 := by omega
  have hLm : (s.length - 16) % 4 = 0 := by omega
  generalize s.length - 16 = L at *
  go_wp2_with fail
  refine (must_any _ _).mono ?_
  rintro e wm ⟨he, rfl⟩
  split at he
  case isFalse h0 => simp_all
  subst he
  go_wp2_with fail
  refine (rest_any g _ _ hRz (by omega) (by omega)).mono ?_
  rintro e w16 ⟨rfl, hTr⟩
  have b2 := b2z.touch hTr n2
  have b3 := b3z.touch hTr n3
  have hT16 := hTz.then_ hTr
  clear b1z b2z b3z hTz hTr hRz c1
  have c9 : w16.cell? ⟨w.heap.size + 1 + 1, 9, none⟩ = some (.string (bs [])) := b3.cell 9
  have z9 := b3.frozen 9
  have b4 : Blk (w16.setCell ⟨w.heap.size + 1 + 1, 9, none⟩ (.string (bs (s.drop 16)))) _ _ (Message.vals ⟨x, true, B, 0, cred0, f 3, s.drop 16⟩) := b3.set_ 9 (.string (bs (s.drop 16)))
  have b2 := b2.far (p := ⟨w.heap.size + 1 + 1, 9, none⟩) (by simp) (.string (bs (s.drop 16)))
  have hT17 := hT16.setCell (p := ⟨w.heap.size + 1 + 1, 9, none⟩) (.inr (by simp only; omega)) (.string (bs (s.drop 16)))
  have r4 := b4.row 0 10 (by simp [Message.len])
  rw [show ((Message.vals ⟨x, true, B, 0, cred0, f 3, s.drop 16⟩).drop 0).take 10 = Message.vals ⟨x, true, B, 0, cred0, f 3, s.drop 16⟩ from rfl] at r4
  obtain ⟨m, hmd⟩ : ∃ m : Message, m = ⟨x, true, B, 0, cred0, f 3, s.drop 16⟩ := ⟨_, rfl⟩
  rw [← hmd] at r4 b4
  have HMD := Lib.hid hmd
  clear hmd
  go_wp2_with fail
  obtain ⟨wy, hwy⟩ : ∃ V, V = w16.setCell ⟨w.heap.size + 1 + 1, 9, none⟩ (.string (bs (s.drop 16))) := ⟨_, rfl⟩
  rw [← hwy] at b2 b4 hT17 r4 ⊢
  clear hwy c9 z9 b3 hT16
  refine (may9_any m _ (by rw [HMD.out]; simp only; omega)).mono ?_
  rintro e w17 ⟨rfl, hbM⟩
  have b2 := b2.stays hbM
  have b4 := b4.stays hbM
  have hT18 := hT17.then_ (Touch.of_below hbM _)
  clear hbM hT17 r4
  have r4 := b4.row 0 10 (by simp [Message.len])
  rw [show ((Message.vals m).drop 0).take 10 = Message.vals m from rfl] at r4
  cases hmay : m.may
  case false =>
    go_wp2_with fail
    refine (must_any _ _).mono ?_
    rintro e wm ⟨he, rfl⟩
    simp only [Bool.false_eq_true, if_false] at he
    subst he
    exact And.intro rfl (GotR.no (by have h1 := HMD.out; have h2 := HBd.out; clear HMD HBd; subst h1; subst h2; grind [answeredG]) hT18)
  go_wp2_with fail
  refine (must_any _ _).mono ?_
  rintro e wm ⟨he, rfl⟩
  simp only [if_true] at he
  subst he
  go_wp2_with (first | (refine wpList_store_whole (by rfl) 81 _ _ (by rfl) (w.heap.size + 1) (Message.vals m) _ b2 (by rfl) (by rfl) (by rfl) (by kernel_rfl) (Message.one _) ?_) | fail)
  refine ret_cells (w.heap.size + 1) 0 (Message.vals m) Tryz.results97 Tryz.underlying81 rfl (by kernel_rfl) rfl (b2.whole (by rfl)).range rfl ?_
  exact GotR.yes (by have h1 := HMD.out; have h2 := HBd.out; clear HMD HBd; subst h1; subst h2; grind [answeredG]) (Touch.setCells (.inr (by omega)) _ _ _ hT18)
end Go.Proofs.YtfjflkmhhbhceaaGreatDoor
