/-
  Layer 9, walks: the program's Get: what is missing is a panic, which Get takes back. No condition.
-/
import Derived.Test.YtfjflkmhhbhceaaGreatDoorW24
import Derived.Defers
import Derived.Recover
import Derived.Test.YtfjflkmhhbhceaaGreatDoorW08
import Derived.Test.YtfjflkmhhbhceaaGreatDoorW04
namespace Go.Proofs.YtfjflkmhhbhceaaGreatDoor
open Go.RowKit
attribute [local go_sem ↓] Go.wp_at_zero Go.wp_at_succ
attribute [local go_sem] rowAt_ptr rowOf_drew rowOf_drewN rowOf_alloc_past rowOf_new
attribute [local go_sem] Message.at0 Message.lat0 Message.at1 Message.lat1 Message.at2 Message.lat2 Message.at3 Message.lat3 Message.at4 Message.lat4 Message.at5 Message.lat5 Message.at6 Message.lat6 Message.at7 Message.lat7 Message.at8 Message.lat8 Message.at9 Message.lat9 Message.sub0_10 Message.lsub0_10 Message.sub4_4 Message.lsub4_4 Message.len Cred.at0 Cred.lat0 Cred.at1 Cred.lat1 Cred.at2 Cred.lat2 Cred.at3 Cred.lat3 Cred.sub0_4 Cred.lsub0_4 Cred.len

attribute [local go_sem ↓] ldMessage ldCred

theorem cell_set_far (w : World) {b b' o o' : Nat} (hn : ¬ b' = b) (v : Value) : (w.setCell ⟨b', o', none⟩ v).cell? ⟨b, o, none⟩ = w.cell? ⟨b, o, none⟩ := World.cell?_setCell_far w ⟨b', o', none⟩ ⟨b, o, none⟩ v hn
theorem cell_drew9 (w : World) (p : Addr) : w.drew.cell? p = w.cell? p := rfl
def msg0 : Message := ⟨0, false, false, 0, cred0, 0, []⟩
theorem catch9_idle (p q : Addr) (w : World) :
    CallsD Tryz.prog 93 #[.pointer (some p), .pointer (some q)] .returning w fun e u' w' => e = .returned (.tuple #[]) ∧ u' = .returning ∧ w' = w := by
  refine callsD_of_wpS Tryz.func93 rfl fun c₀ cs hu => ?_
  apply wpS_seq
  apply wpS_region
  simp [wpOpsS, go_sem, recoverD, hu, Tryz.ntmps93, Exit.thenS]
  apply wpS_seq
  apply wpS_seq
  apply wpS_region
  simp [wpOpsS, go_sem, Exit.thenS]
  refine wpS_cond (t := true) (by simp [Act.eval, Array.replicate]) ?_
  simp only [if_true]
  refine wpS_of_wp (wp_ret ?_)
  cases c₀
  simp_all [bodyPostS, results, Tryz.results93, Exit.thenS]
set_option maxRecDepth 20000 in
set_option maxHeartbeats 800000 in
theorem catch9_miss (a b : Nat) (old : Message) (y : Int) (w : World) (ha : Blk w a 81 old.vals) (hb : Blk w b 26 [.int .i64 y]) :
    CallsD Tryz.prog 93 #[.pointer (some ⟨a, 0, none⟩), .pointer (some ⟨b, 0, none⟩)] (.panicking missV) w fun e u' w' => e = .returned (.tuple #[]) ∧ u' = .panicking [{ v := .iface 165 (.agg #[.int .i64 14]), recovered := true }] ∧
      Blk w' a 81 msg0.vals ∧ Blk w' b 26 [.int .i64 14] ∧ Touch (fun k => k = a ∨ k = b) w w' := by
  refine callsD_of_wpS Tryz.func93 rfl fun c₀ cs hu => ?_
  apply wpS_seq
  apply wpS_region
  simp [wpOpsS, go_sem, recoverD, hu, Tryz.ntmps93, Exit.thenS, missV]
  apply wpS_seq
  apply wpS_seq
  apply wpS_region
  simp [wpOpsS, go_sem, Exit.thenS]
  refine wpS_cond (t := false) (by simp [Act.eval, Array.replicate]) ?_
  simp only [Bool.false_eq_true, if_false]
  refine wpS_of_wp ?_
  refine wp_skip ?_
  simp only [Exit.thenS]
  refine wpS_of_wp ?_
  generalize hQ : (fun (e : Exit) (a' : Act) (w' : World) => bodyPostS _ _ _ _ _ e a' _ w') = Q
  generalize hA : (Act.mk _ _) = A
  have hA2 : A = ⟨#[.pointer (some ⟨a, 0, none⟩), .pointer (some ⟨b, 0, none⟩), (.iface 165 (.agg #[.int .i64 14])), undef, undef, (.iface 165 (.agg #[.int .i64 14])), (.iface 165 (.agg #[.int .i64 14])), .bool false, undef, undef, undef, undef, undef, undef, undef, undef, undef, undef, undef], []⟩ := by rw [← hA]; rfl
  clear hA
  subst hA2
  have nab := ha.ne_ hb (by decide)
  have nba : ¬ b = a := fun e => nab e.symm
  have hta : ∀ w, (Instr.typeAssert (.iface 165 (.agg #[.int .i64 14])) 20 165 true).run Tryz.prog w = .ok (.tuple #[.agg #[.int .i64 14], .bool true]) w := fun w => by kernel_rfl
  have HQ := Lib.hid hQ
  clear hQ
  go_wp2_with fail
  obtain ⟨w1, hw1⟩ : ∃ V, V = w.alloc (.cells #[.int .i64 14] 165) := ⟨_, rfl⟩
  rw [← hw1]
  have hT1 : Touch (fun k => k = a ∨ k = b) w w1 := by rw [hw1]; exact (Touch.refl _ _).alloc _
  have ha1 : Blk w1 a 81 old.vals := by rw [hw1]; exact ha.alloc _
  have hb1 : Blk w1 b 26 [.int .i64 y] := by rw [hw1]; exact hb.alloc _
  have cm : w1.cell? ⟨w.heap.size, 0, none⟩ = some (.int .i64 14) := by rw [hw1]; exact (Blk.new w 165 [.int .i64 14]).cell 0
  have la := ha.lt
  have lb := hb.lt
  have na : ¬ w.heap.size = a := by omega
  have nb : ¬ w.heap.size = b := by omega
  have na' : ¬ a = w.heap.size := by omega
  have nb' : ¬ b = w.heap.size := by omega
  have cb : w1.cell? ⟨b, 0, none⟩ = some (.int .i64 y) := hb1.cell 0
  have zb := hb1.frozen 0
  have c0 : w1.cell? ⟨a, 0, none⟩ = some (.int .i64 old.xid) := ha1.cell 0
  have z0 := ha1.frozen 0
  have c1 : w1.cell? ⟨a, 1, none⟩ = some (.bool old.answer) := ha1.cell 1
  have z1 := ha1.frozen 1
  have c2 : w1.cell? ⟨a, 2, none⟩ = some (.bool old.again) := ha1.cell 2
  have z2 := ha1.frozen 2
  have c3 : w1.cell? ⟨a, 3, none⟩ = some (.int .i64 old.proc) := ha1.cell 3
  have z3 := ha1.frozen 3
  have c4 : w1.cell? ⟨a, 4, none⟩ = some (.int .i64 old.cred.client) := ha1.cell 4
  have z4 := ha1.frozen 4
  have c5 : w1.cell? ⟨a, 5, none⟩ = some (.int .i64 old.cred.seq) := ha1.cell 5
  have z5 := ha1.frozen 5
  have c6 : w1.cell? ⟨a, 6, none⟩ = some (.int .i64 old.cred.uid) := ha1.cell 6
  have z6 := ha1.frozen 6
  have c7 : w1.cell? ⟨a, 7, none⟩ = some (.int .i64 old.cred.gid) := ha1.cell 7
  have z7 := ha1.frozen 7
  have c8 : w1.cell? ⟨a, 8, none⟩ = some (.int .i64 old.accept) := ha1.cell 8
  have z8 := ha1.frozen 8
  have c9 : w1.cell? ⟨a, 9, none⟩ = some (.string (bs old.body)) := ha1.cell 9
  have z9 := ha1.frozen 9
  clear hw1 ha hb
  have HA := Lib.hid (And.intro ha1 (And.intro hb1 hT1))
  clear ha1 hb1 hT1
  go_region_held3 (fun V => V.cell? ⟨w.heap.size, 0, none⟩ = some (.int .i64 14)) (first | (with_reducible assumption) | (simp only [cell_drew9, cell_set_far _ na', cell_set_far _ nb']; with_reducible assumption)) (first | fail)
  rw [← HQ.out]
  obtain ⟨ha1, hb1, hT1⟩ := HA.out
  cases c₀
  refine ⟨rfl, _, rfl, .tuple #[], ?_, rfl, rfl, ?_, ?_, ?_⟩
  · simp [results, Tryz.results93, go_sem]
  · exact (((((((((((ha1.set_ 0 _).set_ 1 _).set_ 2 _).set_ 3 _).set_ 4 _).set_ 5 _).set_ 6 _).set_ 7 _).set_ 8 _).set_ 9 _).far (p := ⟨b, 0, none⟩) nab _).drew
  · exact (((((((((((hb1.far (p := ⟨a, 0, none⟩) nba _).far (p := ⟨a, 1, none⟩) nba _).far (p := ⟨a, 2, none⟩) nba _).far (p := ⟨a, 3, none⟩) nba _).far (p := ⟨a, 4, none⟩) nba _).far (p := ⟨a, 5, none⟩) nba _).far (p := ⟨a, 6, none⟩) nba _).far (p := ⟨a, 7, none⟩) nba _).far (p := ⟨a, 8, none⟩) nba _).far (p := ⟨a, 9, none⟩) nba _).set_ 0 _).drew
  · exact (((((((((((hT1.setCell_ (.inl (.inl rfl)) _).setCell_ (.inl (.inl rfl)) _).setCell_ (.inl (.inl rfl)) _).setCell_ (.inl (.inl rfl)) _).setCell_ (.inl (.inl rfl)) _).setCell_ (.inl (.inl rfl)) _).setCell_ (.inl (.inl rfl)) _).setCell_ (.inl (.inl rfl)) _).setCell_ (.inl (.inl rfl)) _).setCell_ (.inl (.inl rfl)) _).setCell_ (.inl (.inr rfl)) _).drew

theorem below_then_touch {w W W' : World} {g : Nat} (h : Below w.heap.size w W) (ht : Touch (fun k => k = g) W W') (hg : w.heap.size ≤ g := by omega) : Below w.heap.size w W' :=
  h.trans (ht.below (fun k _ hk => by omega) h.size)
theorem touch_below2 {w W W' : World} {a b : Nat} (h : Below w.heap.size w W) (ht : Touch (fun k => k = a ∨ k = b) W W') (ha : w.heap.size ≤ a := by omega) (hb : w.heap.size ≤ b := by omega) : Below w.heap.size w W' :=
  h.trans (ht.below (fun k _ hk => by omega) h.size)
theorem Blk.farAll {w : World} {g : Nat} {t : TypeId} {cs : List Value} (b o : Nat) (vs : List Value) (h : Blk w g t cs) (hne : ¬ g = b) : Blk (w.setCells b o vs) g t cs := by
  induction vs generalizing w o with
  | nil => exact h
  | cons v vs ih => exact ih (o + 1) (h.far (p := ⟨b, o, none⟩) hne v)
def gotV9 (r : Message × Int) : Value := .tuple #[.agg r.1.vals.toArray, .int .i64 r.2]
theorem results_got (tmps : Array Value) (w : World) (a b : Nat) (m : Message) (n : Int) (ha : Blk w a 81 m.vals) (hb : Blk w b 26 [.int .i64 n])
    (h2 : tmps.getD 2 undef = .pointer (some ⟨a, 0, none⟩)) (h3 : tmps.getD 3 undef = .pointer (some ⟨b, 0, none⟩)) : (results Tryz.f43 tmps).run Tryz.prog w = .ok (gotV9 (m, n)) w := by
  have hl := run_loadVar_mid (P := Tryz.prog) w a 0 81 m.vals _ ha.range Tryz.underlying81 rfl (by kernel_rfl)
  have hc : w.cell? ⟨b, 0, none⟩ = some (.int .i64 n) := hb.cell 0
  have hl2 : (loadVar 26 ⟨b, 0, none⟩).run Tryz.prog w = .ok (.int .i64 n) w := by simp [go_sem, hc]
  rw [Array.getD_eq_getD_getElem?] at h2 h3
  simp [results, Tryz.results43, h2, h3, asAddr, hl, hl2, gotV9]
theorem leave9_miss {R : Ending → World → Prop} (tmps : Array Value) (w : World) (a b : Nat) (ha : Blk w a 81 msg0.vals) (hb : Blk w b 26 [.int .i64 0])
    (h2 : tmps.getD 2 undef = .pointer (some ⟨a, 0, none⟩)) (h3 : tmps.getD 3 undef = .pointer (some ⟨b, 0, none⟩)) (hR : ∀ w', Touch (fun k => k = a ∨ k = b) w w' → R (.returned (gotV9 (msg0, 14))) w') :
    Leaves Tryz.prog Tryz.f43 tmps R [{ target := .fn (.func 93) #[.pointer (some ⟨a, 0, none⟩), .pointer (some ⟨b, 0, none⟩)], args := #[] }] (.panicking missV) w := by
  refine leaves_cons (f := 93) (args := #[.pointer (some ⟨a, 0, none⟩), .pointer (some ⟨b, 0, none⟩)]) (by simp) (by simp [go_sem]) ?_
  refine (catch9_miss a b msg0 0 w ha hb).mono ?_
  rintro e u' w' ⟨rfl, rfl, ha', hb', hT⟩
  exact ⟨_, results_got tmps w' a b msg0 14 ha' hb' h2 h3, hR w' hT⟩
theorem leave9_idle {R : Ending → World → Prop} (tmps : Array Value) (w : World) (a b : Nat) (m : Message) (n : Int) (ha : Blk w a 81 m.vals) (hb : Blk w b 26 [.int .i64 n])
    (h2 : tmps.getD 2 undef = .pointer (some ⟨a, 0, none⟩)) (h3 : tmps.getD 3 undef = .pointer (some ⟨b, 0, none⟩)) (hR : R (.returned (gotV9 (m, n))) w) :
    Leaves Tryz.prog Tryz.f43 tmps R [{ target := .fn (.func 93) #[.pointer (some ⟨a, 0, none⟩), .pointer (some ⟨b, 0, none⟩)], args := #[] }] .returning w := by
  refine leaves_cons (f := 93) (args := #[.pointer (some ⟨a, 0, none⟩), .pointer (some ⟨b, 0, none⟩)]) (by simp) (by simp [go_sem]) ?_
  refine (catch9_idle ⟨a, 0, none⟩ ⟨b, 0, none⟩ w).mono ?_
  rintro e u' w' ⟨rfl, rfl, rfl⟩
  exact ⟨_, results_got tmps w' a b m n ha hb h2 h3, hR⟩
def gotM9 : Option Message → Message × Int
  | some m => (m, 0)
  | none => (msg0, 14)
/-- the message of bytes, or why there is none -/
def getM9 (s : List UInt8) : Message × Int :=
  if 2048 < s.length then (msg0, 4) else if s.length < 8 then (msg0, 14)
  else if wd (s.drop 4) = 0 then gotM9 (calledG (wd s) (s.drop 8).length (fun k => wd ((s.drop 8).drop (4 * k))) ((s.drop 8).drop 48))
  else if wd (s.drop 4) = 1 then gotM9 (answeredG (wd s) (s.drop 8).length (fun k => wd ((s.drop 8).drop (4 * k))) ((s.drop 8).drop 16))
  else (msg0, 14)

set_option maxRecDepth 20000 in
set_option maxHeartbeats 1600000 in
theorem get9_any (s : List UInt8) (w : World) : Calls Tryz.prog 43 #[.string (bs s)] w fun e w' => e = .returned (gotV9 (getM9 s)) ∧ Below w.heap.size w w' := by
  have hmf : ∀ (fn : Fn) (first cap : Array Value) (w : World), (Instr.makeFunc fn first cap).run Tryz.prog w = .ok (.func fn first cap) w := fun _ _ _ _ => rfl
  have hz := bs_size s
  by_cases hlen : 2048 < s.length
  · have hlen' : (2048 : Int) < s.length := by omega
    have HV := Lib.hid (show getM9 s = (msg0, 4) by simp [getM9, hlen])
    obtain ⟨b1, b2, hB, _⟩ := chain2_blks w msg0.vals [.int .i64 4] 81 26
    have HB := Lib.hid (And.intro b1 (And.intro b2 hB))
    clear b1 b2 hB
    go_enter_defers Tryz.func43, Tryz.ntmps43
    go_wp2_with fail
    exact ⟨_, results_got _ _ w.heap.size (w.heap.size + 1) msg0 4 HB.out.1 HB.out.2.1 rfl rfl, by rw [HV.out], HB.out.2.2⟩
  · have hlen' : ¬ (2048 : Int) < s.length := by omega
    obtain ⟨b1, b2, hB0, hz0⟩ := chain2_blks w msg0.vals [.int .i64 0] 81 26
    have HB := Lib.hid (And.intro b1 (And.intro b2 (And.intro hB0 hz0)))
    clear b1 b2 hB0 hz0
    go_enter_defers Tryz.func43, Tryz.ntmps43
    go_wp2_with fail
    refine (readNew_any s _).mono ?_
    rintro e w2 ⟨rfl, hR, hB⟩
    obtain ⟨b1, b2, hB0, hz0⟩ := HB.out
    have hR0 : Rd w2 (w.heap.size + 1 + 1) ⟨s, 0⟩ := by rw [← hz0]; exact hR
    have b1 := b1.stays hB
    have b2 := b2.stays hB
    have hB2 := below_then hB0 hB
    have lt2 := hR0.lt
    clear hR hB HB hz0
    obtain ⟨w3, hw3⟩ : ∃ V, V = w2.alloc (.cells #[.pointer (some ⟨w.heap.size + 1 + 1, 0, none⟩)] 170) := ⟨_, rfl⟩
    have hB3 : Below w2.heap.size w2 w3 := by rw [hw3]; exact (Below.refl _ _).alloc (Nat.le_refl _) _
    have b4 : Blk w3 w2.heap.size 170 [.pointer (some ⟨w.heap.size + 1 + 1, 0, none⟩)] := by rw [hw3]; exact Blk.new _ _ _
    have b1 := b1.stays hB3
    have b2 := b2.stays hB3
    have hR0 := hR0.stays hB3
    have hB3 := below_then hB2 hB3
    have n4 : ¬ w2.heap.size = w.heap.size + 1 + 1 := by omega
    go_wp2_with fail
    rw [← hw3]
    refine (next_any _ s 0 _ hR0 (by omega)).mono ?_
    rintro e w4 (⟨q0, rfl, hR1, hT4⟩ | ⟨q0, rfl, hT4⟩)
    case inr =>
      have HV := Lib.hid (show getM9 s = (msg0, 14) by rw [getM9, if_neg hlen, if_pos (by omega)])
      have b1 := b1.touch hT4 (by omega)
      have b2 := b2.touch hT4 (by omega)
      have b4 := b4.touch hT4 n4
      have hB4 := below_then_touch hB3 hT4
      refine leave9_miss _ _ w.heap.size (w.heap.size + 1) b1 b2 rfl rfl (fun w' hw => ⟨by rw [HV.out], ?_⟩)
      exact touch_below2 hB4 hw
    have b1 := b1.touch hT4 (by omega)
    have b2 := b2.touch hT4 (by omega)
    have b4 := b4.touch hT4 n4
    have hB4 := below_then_touch hB3 hT4
    clear hB3 hR0 hw3 hT4 hB2
    have hB3 := hB4
    have c4 : w4.cell? ⟨w2.heap.size, 0, none⟩ = some (.pointer (some ⟨w.heap.size + 1 + 1, 0, none⟩)) := b4.cell 0
    rw [show s.drop (4 * 0) = s from rfl]
    go_wp2_with fail
    refine (next_any _ s 1 _ hR1 (by omega)).mono ?_
    rintro e w5 (⟨q1, rfl, hR2, hT5⟩ | ⟨q1, rfl, hT5⟩)
    case inr =>
      have HV := Lib.hid (show getM9 s = (msg0, 14) by rw [getM9, if_neg hlen, if_pos (by omega)])
      have b1 := b1.touch hT5 (by omega)
      have b2 := b2.touch hT5 (by omega)
      have b4 := b4.touch hT5 n4
      have hB5 := below_then_touch hB3 hT5
      refine leave9_miss _ _ w.heap.size (w.heap.size + 1) b1 b2 rfl rfl (fun w' hw => ⟨by rw [HV.out], ?_⟩)
      exact touch_below2 hB5 hw
    have b1 := b1.touch hT5 (by omega)
    have b2 := b2.touch hT5 (by omega)
    have b4 := b4.touch hT5 n4
    have hB5 := below_then_touch hB3 hT5
    clear hB3 hR1 hT5 c4 hB4
    have hB3 := hB5
    have c4 : w5.cell? ⟨w2.heap.size, 0, none⟩ = some (.pointer (some ⟨w.heap.size + 1 + 1, 0, none⟩)) := b4.cell 0
    rw [show s.drop (4 * 1) = s.drop 4 from rfl]
    by_cases k0 : wd (s.drop 4) = 0
    · have hC := called_any (w.heap.size + 1 + 1) (wd s) (s.drop 8) w5 hR2 (by simp; omega)
      have HVG : getM9 s = gotM9 (calledG (wd s) (s.drop 8).length (fun k => wd ((s.drop 8).drop (4 * k))) ((s.drop 8).drop 48)) := by
        unfold getM9
        rw [if_neg hlen, if_neg (by omega), if_pos k0]
      generalize calledG (wd s) (s.drop 8).length (fun k => wd ((s.drop 8).drop (4 * k))) ((s.drop 8).drop 48) = r at hC HVG
      have hk' : (wd (s.drop 4) : Int) = 0 := by omega
      have hC := Lib.hid hC
      cases r with
      | none =>
        have HV := Lib.hid (show getM9 s = (msg0, 14) from HVG)
        clear HVG
        go_wp2_with fail
        refine hC.out.mono ?_
        rintro e w6 ⟨rfl, hT⟩
        have b1 := b1.touch hT (by omega)
        have b2 := b2.touch hT (by omega)
        have b4 := b4.touch hT n4
        have hB6 := below_then_touch hB3 hT
        refine leave9_miss _ _ w.heap.size (w.heap.size + 1) b1 b2 rfl rfl (fun w' hw => ⟨by rw [HV.out], ?_⟩)
        exact touch_below2 hB6 hw
      | some m =>
        have HV := Lib.hid (show getM9 s = (m, 0) from HVG)
        clear HVG
        go_wp2_with fail
        refine hC.out.mono ?_
        rintro e w6 ⟨rfl, hT⟩
        have b1 := b1.touch hT (by omega)
        have b2 := b2.touch hT (by omega)
        have b4 := b4.touch hT n4
        have hB6 := below_then_touch hB3 hT
        obtain ⟨w7, hw7⟩ : ∃ V, V = w6.setCells w.heap.size 0 m.vals := ⟨_, rfl⟩
        have d1 : Blk w7 w.heap.size 81 m.vals := by rw [hw7]; exact b1.whole (by rfl)
        have d2 : Blk w7 (w.heap.size + 1) 26 [.int .i64 0] := by rw [hw7]; exact b2.farAll _ _ _ (by omega)
        have hB7 : Below w.heap.size w w7 := by rw [hw7]; exact Below.setWhole hB6 (Nat.le_refl _) _
        have cE : w7.cell? ⟨w.heap.size + 1, 0, none⟩ = some (.int .i64 0) := d2.cell 0
        have zE := d2.frozen 0
        have d3 := (d1.far (p := ⟨w.heap.size + 1, 0, none⟩) (by simp) (.int .i64 0))
        have d4 := d2.set_ 0 (.int .i64 0)
        have hB8 := hB7.setCell (p := ⟨w.heap.size + 1, 0, none⟩) (by simp only; omega) (.int .i64 0)
        have HL := Lib.hid (And.intro d3 (And.intro d4 hB8))
        clear d1 d2 d3 d4 hB7 hB8 hB6
        have HW7 := Lib.hid hw7
        clear hw7
        go_wp2_with (first | (refine wpList_store_whole (by rfl) 81 _ _ (by rfl) w.heap.size m.vals _ b1 (by rfl) (by rfl) (by rfl) (by kernel_rfl) (Message.one _) ?_; rw [← HW7.out]) | fail)
        exact leave9_idle _ _ w.heap.size (w.heap.size + 1) m 0 HL.out.1 HL.out.2.1 rfl rfl ⟨by rw [HV.out], HL.out.2.2⟩
    by_cases k1 : wd (s.drop 4) = 1
    · have hC := answered_any (w.heap.size + 1 + 1) (wd s) (s.drop 8) w5 hR2 (by simp; omega)
      have HVG : getM9 s = gotM9 (answeredG (wd s) (s.drop 8).length (fun k => wd ((s.drop 8).drop (4 * k))) ((s.drop 8).drop 16)) := by
        unfold getM9
        rw [if_neg hlen, if_neg (by omega), if_neg k0, if_pos k1]
      generalize answeredG (wd s) (s.drop 8).length (fun k => wd ((s.drop 8).drop (4 * k))) ((s.drop 8).drop 16) = r at hC HVG
      have hk' : (wd (s.drop 4) : Int) = 1 := by omega
      have hC := Lib.hid hC
      cases r with
      | none =>
        have HV := Lib.hid (show getM9 s = (msg0, 14) from HVG)
        clear HVG
        go_wp2_with fail
        refine hC.out.mono ?_
        rintro e w6 ⟨rfl, hT⟩
        have b1 := b1.touch hT (by omega)
        have b2 := b2.touch hT (by omega)
        have b4 := b4.touch hT n4
        have hB6 := below_then_touch hB3 hT
        refine leave9_miss _ _ w.heap.size (w.heap.size + 1) b1 b2 rfl rfl (fun w' hw => ⟨by rw [HV.out], ?_⟩)
        exact touch_below2 hB6 hw
      | some m =>
        have HV := Lib.hid (show getM9 s = (m, 0) from HVG)
        clear HVG
        go_wp2_with fail
        refine hC.out.mono ?_
        rintro e w6 ⟨rfl, hT⟩
        have b1 := b1.touch hT (by omega)
        have b2 := b2.touch hT (by omega)
        have b4 := b4.touch hT n4
        have hB6 := below_then_touch hB3 hT
        obtain ⟨w7, hw7⟩ : ∃ V, V = w6.setCells w.heap.size 0 m.vals := ⟨_, rfl⟩
        have d1 : Blk w7 w.heap.size 81 m.vals := by rw [hw7]; exact b1.whole (by rfl)
        have d2 : Blk w7 (w.heap.size + 1) 26 [.int .i64 0] := by rw [hw7]; exact b2.farAll _ _ _ (by omega)
        have hB7 : Below w.heap.size w w7 := by rw [hw7]; exact Below.setWhole hB6 (Nat.le_refl _) _
        have cE : w7.cell? ⟨w.heap.size + 1, 0, none⟩ = some (.int .i64 0) := d2.cell 0
        have zE := d2.frozen 0
        have d3 := (d1.far (p := ⟨w.heap.size + 1, 0, none⟩) (by simp) (.int .i64 0))
        have d4 := d2.set_ 0 (.int .i64 0)
        have hB8 := hB7.setCell (p := ⟨w.heap.size + 1, 0, none⟩) (by simp only; omega) (.int .i64 0)
        have HL := Lib.hid (And.intro d3 (And.intro d4 hB8))
        clear d1 d2 d3 d4 hB7 hB8 hB6
        have HW7 := Lib.hid hw7
        clear hw7
        go_wp2_with (first | (refine wpList_store_whole (by rfl) 81 _ _ (by rfl) w.heap.size m.vals _ b1 (by rfl) (by rfl) (by rfl) (by kernel_rfl) (Message.one _) ?_; rw [← HW7.out]) | fail)
        exact leave9_idle _ _ w.heap.size (w.heap.size + 1) m 0 HL.out.1 HL.out.2.1 rfl rfl ⟨by rw [HV.out], HL.out.2.2⟩
    have k0' : ¬ (wd (s.drop 4) : Int) = 0 := by omega
    have k1' : ¬ (wd (s.drop 4) : Int) = 1 := by omega
    have HV := Lib.hid (show getM9 s = (msg0, 14) by rw [getM9, if_neg hlen, if_neg (by omega), if_neg k0, if_neg k1])
    obtain ⟨w7, hw7⟩ : ∃ V, V = w5.setCells w.heap.size 0 msg0.vals := ⟨_, rfl⟩
    have d1 : Blk w7 w.heap.size 81 msg0.vals := by rw [hw7]; exact b1.whole (by rfl)
    have d2 : Blk w7 (w.heap.size + 1) 26 [.int .i64 0] := by rw [hw7]; exact b2.farAll _ _ _ (by omega)
    have hB7 : Below w.heap.size w w7 := by rw [hw7]; exact Below.setWhole hB5 (Nat.le_refl _) _
    have cE : w7.cell? ⟨w.heap.size + 1, 0, none⟩ = some (.int .i64 0) := d2.cell 0
    have zE := d2.frozen 0
    have d3 := (d1.far (p := ⟨w.heap.size + 1, 0, none⟩) (by simp) (.int .i64 14))
    have d4 := d2.set_ 0 (.int .i64 14)
    have hB8 := hB7.setCell (p := ⟨w.heap.size + 1, 0, none⟩) (by simp only; omega) (.int .i64 14)
    have HL := Lib.hid (And.intro d3 (And.intro d4 hB8))
    clear d1 d2 d3 d4 hB7 hB8 hB5
    have HW7 := Lib.hid hw7
    clear hw7
    go_wp2_with (first | (refine wpList_store_whole (by rfl) 81 _ _ (by rfl) w.heap.size msg0.vals _ b1 (by rfl) (by rfl) (by rfl) (by kernel_rfl) (Message.one _) ?_; rw [← HW7.out]) | fail)
    exact leave9_idle _ _ w.heap.size (w.heap.size + 1) msg0 14 HL.out.1 HL.out.2.1 rfl rfl ⟨by rw [HV.out], HL.out.2.2⟩
end Go.Proofs.YtfjflkmhhbhceaaGreatDoor

/-
  Layer 9, walks: the document's num, Owner, Check, nums, at. Condition: machine texts.
-/
namespace Go.Proofs.YtfjflkmhhbhceaaGreatDoor
open Go.RowKit
attribute [local go_sem ↓] Go.wp_at_zero Go.wp_at_succ
attribute [local go_sem] rowAt_ptr rowOf_drew rowOf_drewN rowOf_alloc_past rowOf_new
attribute [local go_sem] Message.at0 Message.lat0 Message.at1 Message.lat1 Message.at2 Message.lat2 Message.at3 Message.lat3 Message.at4 Message.lat4 Message.at5 Message.lat5 Message.at6 Message.lat6 Message.at7 Message.lat7 Message.at8 Message.lat8 Message.at9 Message.lat9 Message.sub0_10 Message.lsub0_10 Message.sub4_4 Message.lsub4_4 Message.len Cred.at0 Cred.lat0 Cred.at1 Cred.lat1 Cred.at2 Cred.lat2 Cred.at3 Cred.lat3 Cred.sub0_4 Cred.lsub0_4 Cred.len guardCred

attribute [local go_sem ↓] ldMessage ldCred eqCred eqCred0

theorem refNum9_any (n least : Int) (w : World) : Calls Tryz.prog 72 #[.int .i64 n, .int .i64 least] w fun e w' => e = .returned (.bool (num32 n least)) ∧ w = w' := by
  go_enter Tryz.func72, Tryz.ntmps72
  go_wp2
  all_goals
    go_ret
    exact ⟨ret_bool (by grind [num32]), rfl⟩

set_option maxHeartbeats 1600000 in
theorem refOwner9_any (c : Cred) (w : World) : Calls Tryz.prog 52 #[.agg c.vals.toArray] w fun e w' => e = .returned (.bool c.ok) ∧ Below w.heap.size w w' := by
  have hr := range_new w c.vals 63
  have hc0 := hr 0 _ rfl
  have hc1 := hr 1 _ rfl
  have hc2 := hr 2 _ rfl
  have hc3 := hr 3 _ rfl
  have hB0 : Below w.heap.size w (w.alloc (.cells c.vals.toArray 63)) := (Below.refl _ _).alloc (Nat.le_refl _) _
  clear hr
  go_enter Tryz.func52, Tryz.ntmps52
  go_wp2_with (first | (go_at_call 72; refine (refNum9_any _ _ _).mono ?_; rintro e w' ⟨rfl, rfl⟩) | fail)
  all_goals
    clear hc0 hc1 hc2 hc3
    go_ret
    exact ⟨ret_bool (by grind [Cred.ok]), hB0⟩
/-- may a message be, as the document asks -/
def Message.fit (m : Message) : Bool :=
  num32 m.xid 0 && (decide (m.body.length ≤ 2048) && ((m.body.length % 4 == 0) &&
    (if m.answer then (m.proc == 0) && (decide (m.cred = cred0) && (decide (0 ≤ m.accept) && (decide (m.accept ≤ 4) && (((m.accept == 0) || (m.body.isEmpty && !m.again)) && decide (m.body.length ≤ 2024)))))
     else decide (0 ≤ m.proc) && (decide (m.proc ≤ 21) && (m.cred.ok && ((m.accept == 0) && (!m.again && decide (m.body.length ≤ 1992))))))))

set_option maxHeartbeats 6400000 in
theorem refCheck9_any (m : Message) (w : World) (hl : m.body.length ≤ 9223372036854775807) : Calls Tryz.prog 31 #[.agg m.vals.toArray] w fun e w' => e = .returned (.bool m.fit) ∧ Below w.heap.size w w' := by
  have hr := range_new w m.vals 81
  have hc0 := hr 0 _ rfl
  have hc1 := hr 1 _ rfl
  have hc2 := hr 2 _ rfl
  have hc3 := hr 3 _ rfl
  have hc8 := hr 8 _ rfl
  have hc9 := hr 9 _ rfl
  have hb0 := Blk.new w 81 m.vals
  have h4 : rowOf (w.alloc (.cells m.vals.toArray 81)) w.heap.size 4 4 = some m.cred.vals.toArray := hb0.row 4 4 (by simp [Message.len])
  have hB0 : Below w.heap.size w (w.alloc (.cells m.vals.toArray 81)) := (Below.refl _ _).alloc (Nat.le_refl _) _
  have hz : w.heap.size < (w.alloc (.cells m.vals.toArray 81)).heap.size := by simp
  have hsz := bs_size m.body
  clear hr hb0
  go_enter Tryz.func31, Tryz.ntmps31
  go_wp2_with (first
    | (go_at_call 72; refine (refNum9_any _ _ _).mono ?_; rintro e w' ⟨rfl, rfl⟩)
    | (go_at_call 52; refine (refOwner9_any _ _).mono ?_; rintro e w' ⟨rfl, hb⟩; have hs := Stb.of hb) | fail)
  all_goals
    go_ret
    clear hc0 hc1 hc2 hc3 hc8 hc9 h4 hz hsz
    go_light
    refine ⟨ret_bool ?_, by first | exact hB0 | exact below_then hB0 (Stb.below (by assumption))⟩
    grind [Message.fit]
end Go.Proofs.YtfjflkmhhbhceaaGreatDoor


/-
  Layer 9, walks: the document's nums, at, Bytes. Condition: numbers of 32 bits; texts of at most 2048 bytes.
-/
namespace Go.Proofs.YtfjflkmhhbhceaaGreatDoor
open Go.RowKit
attribute [local go_sem ↓] Go.wp_at_zero Go.wp_at_succ
attribute [local go_sem] rowAt_ptr rowOf_drew rowOf_drewN rowOf_alloc_past rowOf_new
attribute [local go_sem] Message.at0 Message.lat0 Message.at1 Message.lat1 Message.at2 Message.lat2 Message.at3 Message.lat3 Message.at4 Message.lat4 Message.at5 Message.lat5 Message.at6 Message.lat6 Message.at7 Message.lat7 Message.at8 Message.lat8 Message.at9 Message.lat9 Message.sub0_10 Message.lsub0_10 Message.sub4_4 Message.lsub4_4 Message.len Cred.at0 Cred.lat0 Cred.at1 Cred.lat1 Cred.at2 Cred.lat2 Cred.at3 Cred.lat3 Cred.sub0_4 Cred.lsub0_4 Cred.len

attribute [local go_sem ↓] ldMessage ldCred

set_option maxHeartbeats 800000 in
theorem nums9_any (l : List Int) (b c : Nat) (w : World) (hI : Blk w b 3 (intsV l)) (h32 : in32 l = true) (hl : l.length ≤ 100) :
    Calls Tryz.prog 73 #[.slice (some ⟨b, 0, none⟩) l.length c] w fun e w' => e = .returned (.string (bs (nums4 l))) ∧ Below w.heap.size w w' := by
  have H32 := Lib.hid h32
  have hb := hI.lt
  clear h32
  go_enter Tryz.func73, Tryz.ntmps73
  go_wp2
  go_loopw [3, 4] (fun sv i wr => ∃ k : Nat, k ≤ l.length ∧ i = .int .i64 k ∧ sv = .string (bs (nums4 (l.take k))) ∧ Below w.heap.size w wr) (fun _ i _ => l.length - (intOf i).toNat)
  case atStart => exact ⟨0, by omega, rfl, rfl, Below.refl _ _⟩
  case round =>
    obtain ⟨k, hk, rfl, rfl, hB⟩ := hrel
    have hI2 := hI.below hB hb
    have HB := Lib.hid hB
    clear hB
    by_cases hlt : k < l.length
    · have hc := intsV_get hI2 hlt
      have h32 := in32_get H32.out hlt
      have HS := Lib.hid (nums4_succ hlt)
      have hnl := nums4_len (l.take k)
      have htl : (l.take k).length ≤ k := List.length_take_le _ _
      obtain ⟨n, hn⟩ := Int.eq_ofNat_of_zero_le h32.1
      rw [hn] at hc h32
      have HNN := Lib.hid hn
      clear hn hI2
      have hz1 := bs_size (nums4 (l.take k))
      have hz2 := bs_size (num n 4)
      have hln := num_len n 4
      have hq : ¬ 9223372036854775807 < (nums4 (l.take k)).length + 4 := by omega
      generalize nums4 (l.take k) = A at *
      go_wp2_with fail
      refine (refNum_any n 4 _ (by omega) (by decide)).mono ?_
      rintro e w4 ⟨rfl, hb4⟩
      have HB4 := Lib.hid (below_then HB.out hb4)
      clear hb4 hc
      go_wp2
      go_roundw
      case rel => exact ⟨k + 1, by omega, by go_num, by rw [HS.out, HNN.out, bs_append]; rfl, HB4.out⟩
      case measure => simp [intOf]; omega
    · obtain rfl : k = l.length := by omega
      go_wp2
      go_ret
      exact ⟨by rw [List.take_length]; rfl, HB.out⟩
/-- the number at place i; below 0: it is missing -/
def atV (s : List UInt8) (i : Nat) : Int := if s.length < 4 * i + 4 then -1 else wd (s.drop (4 * i))
theorem at9_any (s : List UInt8) (i : Nat) (w : World) (hl : s.length ≤ 2048) (hi : i ≤ 100) : Calls Tryz.prog 51 #[.string (bs s), .int .i64 i] w fun e w' => e = .returned (.int .i64 (atV s i)) ∧ Below w.heap.size w w' := by
  have hz := bs_size s
  by_cases h : s.length < 4 * i + 4
  · have HV := Lib.hid (show atV s i = -1 by simp [atV, h])
    have h' : (s.length : Int) < 4 * (i : Int) + 4 := by omega
    have hm : IntKind.i64.wrap (4 * (i : Int)) = 4 * i := IntWalk.i64_in _ (by omega)
    have ha : IntKind.i64.wrap (4 * (i : Int) + 4) = 4 * i + 4 := IntWalk.i64_in _ (by omega)
    clear h
    go_enter Tryz.func51, Tryz.ntmps51
    go_wp2
    go_ret
    exact ⟨by rw [HV.out]; rfl, Below.refl _ _⟩
  · have HV := Lib.hid (show atV s i = wd (s.drop (4 * i)) by simp [atV, h])
    have h' : ¬ (s.length : Int) < 4 * (i : Int) + 4 := by omega
    have hm : IntKind.i64.wrap (4 * (i : Int)) = 4 * i := IntWalk.i64_in _ (by omega)
    have ha : IntKind.i64.wrap (4 * (i : Int) + 4) = 4 * i + 4 := IntWalk.i64_in _ (by omega)
    have hq : RdF (w.alloc (.cells #[.string (bs s), .int .i64 ((4 * i : Nat) : Int), .int .i64 0] 131)) w.heap.size ⟨s.drop (4 * i), 0⟩ :=
      ⟨s, 4 * i, Blk.new _ _ _, by omega, by omega, fun _ => rfl, fun h => absurd rfl h⟩
    have K := refU4_any w.heap.size _ _ hq
    rw [rU32_yes (by simp; omega), show ((4 * i : Nat) : Int) = 4 * (i : Int) by omega] at K
    have K := Lib.hid K
    clear h hq
    go_enter Tryz.func51, Tryz.ntmps51
    go_wp2_with fail
    refine K.out.mono ?_
    rintro e w1 ⟨rfl, hQ⟩
    have HQ := Lib.hid hQ
    clear hQ
    go_wp2
    go_ret
    refine ⟨by rw [HV.out]; rfl, ?_⟩
    exact Below.trans ((Below.refl _ _).alloc (Nat.le_refl _) _) (ReadsF.below HQ.out (Nat.le_refl _) (by simp))
/-- a message's bytes as the document lays them -/
def Message.raw (m : Message) : List UInt8 := nums4 m.nums ++ m.body
set_option maxRecDepth 20000 in
set_option maxHeartbeats 1600000 in
theorem refBytes9_any (m : Message) (w : World) (h32 : in32 m.nums = true) (hl : m.body.length ≤ 9000) : Calls Tryz.prog 32 #[.agg m.vals.toArray] w fun e w' => e = .returned (.string (bs m.raw)) ∧ Below w.heap.size w w' := by
  have hr := range_new w m.vals 81
  have hc0 := hr 0 _ rfl
  have hc1 := hr 1 _ rfl
  have hc2 := hr 2 _ rfl
  have hc3 := hr 3 _ rfl
  have hc4 := hr 4 _ rfl
  have hc5 := hr 5 _ rfl
  have hc6 := hr 6 _ rfl
  have hc7 := hr 7 _ rfl
  have hc8 := hr 8 _ rfl
  have hc9 := hr 9 _ rfl
  have hB0 : Below w.heap.size w (w.alloc (.cells m.vals.toArray 81)) := (Below.refl _ _).alloc (Nat.le_refl _) _
  have hz : w.heap.size < (w.alloc (.cells m.vals.toArray 81)).heap.size := by simp
  obtain ⟨w0, hw0⟩ : ∃ V, V = w.alloc (.cells m.vals.toArray 81) := ⟨_, rfl⟩
  simp only [Nat.zero_add] at hc0 hc1 hc2 hc3 hc4 hc5 hc6 hc7 hc8 hc9
  have HB0 := Lib.hid hB0
  rw [← hw0] at hc0 hc1 hc2 hc3 hc4 hc5 hc6 hc7 hc8 hc9 HB0 hz
  have HW := Lib.hid hw0
  have hsz := bs_size m.body
  have hnl := nums4_len m.nums
  have hq1 : ¬ 9223372036854775807 < 24 + m.body.length := by omega
  have hq2 : ¬ 9223372036854775807 < 56 + m.body.length := by omega
  clear hr hB0 hw0
  cases ha : m.answer
  · have hn : m.nums = [m.xid, 0, 2, 100003, 3, m.proc, 1, 16, m.cred.client, m.cred.seq, m.cred.uid, m.cred.gid, 0, 0] := by simp [Message.nums, ha]
    have hR : m.raw = nums4 [m.xid, 0, 2, 100003, 3, m.proc, 1, 16, m.cred.client, m.cred.seq, m.cred.uid, m.cred.gid, 0, 0] ++ m.body := by rw [Message.raw, hn]
    rw [hn] at h32 hnl
    have K := Lib.hid (fun b c W h => nums9_any [m.xid, 0, 2, 100003, 3, m.proc, 1, 16, m.cred.client, m.cred.seq, m.cred.uid, m.cred.gid, 0, 0] b c W h h32 (by simp))
    have HR := Lib.hid hR
    clear h32 hR hn
    generalize hN : nums4 [m.xid, 0, 2, 100003, 3, m.proc, 1, 16, m.cred.client, m.cred.seq, m.cred.uid, m.cred.gid, 0, 0] = N at *
    have hN2 := bs_size N
    clear hN
    go_enter Tryz.func32, Tryz.ntmps32
    go_wp2_with fail
    rw [← HW.out]
    go_region_held3 (fun W => Stb w0 W) (with_reducible first | assumption | exact Stb.start | (refine Stb.call ?_ hb1; first | assumption | exact Stb.start) | exact Stb.of (((Below.refl _ _).alloc (Nat.le_refl _) _).drew) | (refine Stb.alloc ?_ _; first | assumption | exact Stb.start)) (first
      | (go_at_call 73; refine (K.out _ _ _ ?_).mono ?_; exact (Blk.new _ _ _).drew; rintro e w2 ⟨rfl, hb1⟩))
    all_goals
      rename Stb w0 w2 => hse
      go_wp2
      go_ret
      exact ⟨by rw [HR.out, bs_append]; rfl, below_then HB0.out hse.2.2⟩
  · cases hg : m.again
    · have hn : m.nums = [m.xid, 1, 0, 0, 0, m.accept] := by simp [Message.nums, ha, hg]
      have hR : m.raw = nums4 [m.xid, 1, 0, 0, 0, m.accept] ++ m.body := by rw [Message.raw, hn]
      rw [hn] at h32 hnl
      have K := Lib.hid (fun b c W h => nums9_any [m.xid, 1, 0, 0, 0, m.accept] b c W h h32 (by simp))
      have HR := Lib.hid hR
      clear h32 hR hn
      generalize hN : nums4 [m.xid, 1, 0, 0, 0, m.accept] = N at *
      have hN2 := bs_size N
      clear hN
      go_enter Tryz.func32, Tryz.ntmps32
      go_wp2_with fail
      rw [← HW.out]
      go_region_held3 (fun W => Stb w0 W) (with_reducible first | assumption | exact Stb.start | (refine Stb.call ?_ hb1; first | assumption | exact Stb.start) | exact Stb.of (((Below.refl _ _).alloc (Nat.le_refl _) _).drew) | (refine Stb.alloc ?_ _; first | assumption | exact Stb.start)) (first
        | (go_at_call 73; refine (K.out _ _ _ ?_).mono ?_; exact (Blk.new _ _ _).drew; rintro e w2 ⟨rfl, hb1⟩))
      all_goals
        rename Stb w0 w2 => hse
        go_wp2
        go_ret
        exact ⟨by rw [HR.out, bs_append]; rfl, below_then HB0.out hse.2.2⟩
    · have hn : m.nums = [m.xid, 1, 0, 1, 0, m.accept] := by simp [Message.nums, ha, hg]
      have hR : m.raw = nums4 [m.xid, 1, 0, 1, 0, m.accept] ++ m.body := by rw [Message.raw, hn]
      rw [hn] at h32 hnl
      have K := Lib.hid (fun b c W h => nums9_any [m.xid, 1, 0, 1, 0, m.accept] b c W h h32 (by simp))
      have HR := Lib.hid hR
      clear h32 hR hn
      generalize hN : nums4 [m.xid, 1, 0, 1, 0, m.accept] = N at *
      have hN2 := bs_size N
      clear hN
      go_enter Tryz.func32, Tryz.ntmps32
      go_wp2_with fail
      rw [← HW.out]
      go_region_held3 (fun W => Stb w0 W) (with_reducible first | assumption | exact Stb.start | (refine Stb.call ?_ hb1; first | assumption | exact Stb.start) | exact Stb.of (((Below.refl _ _).alloc (Nat.le_refl _) _).drew) | (refine Stb.alloc ?_ _; first | assumption | exact Stb.start)) (first
        | (go_at_call 73; refine (K.out _ _ _ ?_).mono ?_; exact (Blk.new _ _ _).drew; rintro e w2 ⟨rfl, hb1⟩))
      all_goals
        rename Stb w0 w2 => hse
        go_wp2
        go_ret
        exact ⟨by rw [HR.out, bs_append]; rfl, below_then HB0.out hse.2.2⟩
end Go.Proofs.YtfjflkmhhbhceaaGreatDoor


/-
  Layer 9 in plain words: what the document's Get gives (written by wip/tools/genrefget9.py). No condition.
-/
namespace Go.Proofs.YtfjflkmhhbhceaaGreatDoor

/-- what the document's Get gives, of n bytes with the numbers f 0, f 1, .. -/
def refG (n : Nat) (f : Nat → Int) (r24 r56 : List UInt8) : Message × Int :=
  if 2048 < n then (msg0, 4)
  else if f 1 ≠ 0 ∧ f 1 ≠ 1 then (msg0, 14)
  else if f 1 = 1 then
    if f 2 ≠ 0 ∨ f 3 < 0 ∨ 1 < f 3 ∨ f 4 ≠ 0 ∨ f 5 < 0 then (msg0, 14)
    else if Message.fit ⟨f 0, true, f 3 == 1, 0, cred0, f 5, r24⟩ then (⟨f 0, true, f 3 == 1, 0, cred0, f 5, r24⟩, 0) else (msg0, 14)
  else if f 2 ≠ 2 ∨ f 3 < 0 then (msg0, 14)
  else if f 3 ≠ 100003 then (⟨f 0, false, false, 0, cred0, 1, []⟩, 0)
  else if f 4 < 0 then (msg0, 14)
  else if f 4 ≠ 3 then (⟨f 0, false, false, 0, cred0, 2, []⟩, 0)
  else if f 13 < 0 then (msg0, 14)
  else if 21 < f 5 then (⟨f 0, false, false, 0, cred0, 3, []⟩, 0)
  else if f 6 ≠ 1 ∨ f 7 ≠ 16 ∨ f 12 ≠ 0 ∨ f 13 ≠ 0 ∨ Cred.ok ⟨f 8, f 9, f 10, f 11⟩ = false ∨ n % 4 ≠ 0 then (⟨f 0, false, false, 0, cred0, 4, []⟩, 0)
  else (⟨f 0, false, false, f 5, ⟨f 8, f 9, f 10, f 11⟩, 0, r56⟩, 0)

end Go.Proofs.YtfjflkmhhbhceaaGreatDoor


/-
  Layer 9, walks: the document's Get (written by wip/tools/genrefget9.py). No condition.
-/
namespace Go.Proofs.YtfjflkmhhbhceaaGreatDoor
open Go.RowKit
attribute [local go_sem ↓] Go.wp_at_zero Go.wp_at_succ
attribute [local go_sem] rowAt_ptr rowOf_drew rowOf_drewN rowOf_alloc_past rowOf_new
attribute [local go_sem] Message.at0 Message.lat0 Message.at1 Message.lat1 Message.at2 Message.lat2 Message.at3 Message.lat3 Message.at4 Message.lat4 Message.at5 Message.lat5 Message.at6 Message.lat6 Message.at7 Message.lat7 Message.at8 Message.lat8 Message.at9 Message.lat9 Message.sub0_10 Message.lsub0_10 Message.sub4_4 Message.lsub4_4 Message.len Cred.at0 Cred.lat0 Cred.at1 Cred.lat1 Cred.at2 Cred.lat2 Cred.at3 Cred.lat3 Cred.sub0_4 Cred.lsub0_4 Cred.len

attribute [local go_sem ↓] ldMessage ldCred

set_option maxRecDepth 20000 in
set_option maxHeartbeats 4000000 in
theorem refGet9_ans (s : List UInt8) (w : World) (hlen : ¬ 2048 < s.length) (hk : atV s 1 = 1) : Calls Tryz.prog 25 #[.string (bs s)] w fun e w' => e = .returned (gotV9 (refG s.length (atV s) (s.drop 24) (s.drop 56))) ∧ Below w.heap.size w w' := by
  have hz := bs_size s
  obtain ⟨f, hf⟩ : ∃ f, f = atV s := ⟨_, rfl⟩
  rw [← hf]
  have K : s.length ≤ 2048 → ∀ (i : Nat) (W : World), i ≤ 100 → Calls Tryz.prog 51 #[.string (bs s), .int .i64 i] W fun e w' => e = .returned (.int .i64 (f i)) ∧ Below W.heap.size W w' := fun hl i W hi => by rw [hf]; exact at9_any s i W hl hi
  have h24 : 0 ≤ f 5 → 24 ≤ s.length := fun h => by rw [hf] at h; unfold atV at h; split at h <;> omega
  have h56 : 0 ≤ f 13 → 56 ≤ s.length := fun h => by rw [hf] at h; unfold atV at h; split at h <;> omega
  have g1 : f 1 = 1 := by rw [hf]; exact hk
  clear hf hk
  obtain ⟨b1, b2, hB0, _⟩ := chain2_blks w msg0.vals msg0.vals 81 81
  obtain ⟨w0, hw0⟩ : ∃ V, V = (w.alloc (.cells #[.int .i64 0, .bool false, .bool false, .int .i64 0, .int .i64 0, .int .i64 0, .int .i64 0, .int .i64 0, .int .i64 0, .string ⟨#[]⟩] 81)).alloc (.cells #[.int .i64 0, .bool false, .bool false, .int .i64 0, .int .i64 0, .int .i64 0, .int .i64 0, .int .i64 0, .int .i64 0, .string ⟨#[]⟩] 81) := ⟨_, rfl⟩
  replace b1 : Blk w0 w.heap.size 81 msg0.vals := by rw [hw0]; exact b1
  replace b2 : Blk w0 (w.heap.size + 1) 81 msg0.vals := by rw [hw0]; exact b2
  replace hB0 : Below w.heap.size w w0 := by rw [hw0]; exact hB0
  have HB := Lib.hid hB0
  have HW := Lib.hid hw0
  clear hB0 hw0
  go_enter Tryz.func25, Tryz.ntmps25
  go_upto_region 2 with fail
  rw [← HW.out]
  have hlen' : ¬ (2048 : Int) < s.length := by omega
  have K := Lib.hid (K (by omega))
  go_wp2_with fail
  refine (K.out 1 _ (by omega)).mono ?_
  rintro e wn ⟨rfl, hb⟩
  replace b1 := b1.stays hb
  replace b2 := b2.stays hb
  skip
  skip
  replace HB := Lib.hid (below_then HB.out hb)
  clear hb
  go_wp2_with fail
  refine (K.out 0 _ (by omega)).mono ?_
  rintro e wn ⟨rfl, hb⟩
  replace b1 := b1.stays hb
  replace b2 := b2.stays hb
  skip
  skip
  replace HB := Lib.hid (below_then HB.out hb)
  clear hb
  go_wp2_with fail
  obtain ⟨mb, hmbd⟩ : ∃ b, b = wn.heap.size := ⟨_, rfl⟩
  obtain ⟨wm, hwm⟩ : ∃ V, V = wn.alloc (.cells #[.int .i64 (f 0), .bool true, .bool false, .int .i64 0, .int .i64 0, .int .i64 0, .int .i64 0, .int .i64 0, .int .i64 0, .string ⟨#[]⟩] 81) := ⟨_, rfl⟩
  rw [← hwm, ← hmbd]
  have b3 : Blk wm mb 81 (Message.vals ⟨f 0, true, false, 0, cred0, 0, []⟩) := by rw [hwm, hmbd]; exact Blk.new _ _ _
  have hbm : Below wn.heap.size wn wm := by rw [hwm]; exact (Below.refl _ _).alloc (Nat.le_refl _) _
  have hmb : w.heap.size ≤ mb := by rw [hmbd]; exact HB.out.size
  have l1 := b1.lt
  have l2 := b2.lt
  have n1 : w.heap.size ≠ mb := by omega
  have n2 : w.heap.size + 1 ≠ mb := by omega
  have b1 := b1.stays hbm
  have b2 := b2.stays hbm
  have HB := Lib.hid (below_then HB.out hbm)
  clear hwm hbm hmbd l1 l2
  refine (K.out 2 _ (by omega)).mono ?_
  rintro e wn ⟨rfl, hb⟩
  replace b1 := b1.stays hb
  replace b2 := b2.stays hb
  replace b3 := b3.stays hb
  skip
  replace HB := Lib.hid (below_then HB.out hb)
  clear hb
  by_cases e2 : f 2 = 0
  case neg =>
    have r4 := b2.row 0 10 (by simp [Message.len])
    rw [show ((Message.vals msg0).drop 0).take 10 = Message.vals msg0 from rfl] at r4
    go_wp2_with (first | (refine wpList_store_whole (by rfl) 81 _ _ (by rfl) w.heap.size msg0.vals _ b1 (by rfl) (by rfl) (by rfl) (by kernel_rfl) (Message.one _) ?_) | fail)
    refine ret_cells2 w.heap.size 0 msg0.vals (.int .i64 14) Tryz.results25 Tryz.underlying81 rfl (by kernel_rfl) rfl rfl (b1.whole (by rfl)).range rfl ?_
    exact ⟨by rw [show refG s.length f (s.drop 24) (s.drop 56) = (msg0, 14) by grind [refG]]; rfl, Below.setWhole HB.out (Nat.le_refl _) _⟩
  go_wp2_with fail
  refine (K.out 3 _ (by omega)).mono ?_
  rintro e wn ⟨rfl, hb⟩
  replace b1 := b1.stays hb
  replace b2 := b2.stays hb
  replace b3 := b3.stays hb
  skip
  replace HB := Lib.hid (below_then HB.out hb)
  clear hb
  by_cases e3 : f 3 < 0
  case pos =>
    have r4 := b2.row 0 10 (by simp [Message.len])
    rw [show ((Message.vals msg0).drop 0).take 10 = Message.vals msg0 from rfl] at r4
    go_wp2_with (first | (refine wpList_store_whole (by rfl) 81 _ _ (by rfl) w.heap.size msg0.vals _ b1 (by rfl) (by rfl) (by rfl) (by kernel_rfl) (Message.one _) ?_) | fail)
    refine ret_cells2 w.heap.size 0 msg0.vals (.int .i64 14) Tryz.results25 Tryz.underlying81 rfl (by kernel_rfl) rfl rfl (b1.whole (by rfl)).range rfl ?_
    exact ⟨by rw [show refG s.length f (s.drop 24) (s.drop 56) = (msg0, 14) by grind [refG]]; rfl, Below.setWhole HB.out (Nat.le_refl _) _⟩
  go_wp2_with fail
  refine (K.out 3 _ (by omega)).mono ?_
  rintro e wn ⟨rfl, hb⟩
  replace b1 := b1.stays hb
  replace b2 := b2.stays hb
  replace b3 := b3.stays hb
  skip
  replace HB := Lib.hid (below_then HB.out hb)
  clear hb
  by_cases e31 : 1 < f 3
  case pos =>
    have r4 := b2.row 0 10 (by simp [Message.len])
    rw [show ((Message.vals msg0).drop 0).take 10 = Message.vals msg0 from rfl] at r4
    go_wp2_with (first | (refine wpList_store_whole (by rfl) 81 _ _ (by rfl) w.heap.size msg0.vals _ b1 (by rfl) (by rfl) (by rfl) (by kernel_rfl) (Message.one _) ?_) | fail)
    refine ret_cells2 w.heap.size 0 msg0.vals (.int .i64 14) Tryz.results25 Tryz.underlying81 rfl (by kernel_rfl) rfl rfl (b1.whole (by rfl)).range rfl ?_
    exact ⟨by rw [show refG s.length f (s.drop 24) (s.drop 56) = (msg0, 14) by grind [refG]]; rfl, Below.setWhole HB.out (Nat.le_refl _) _⟩
  go_wp2_with fail
  refine (K.out 4 _ (by omega)).mono ?_
  rintro e wn ⟨rfl, hb⟩
  replace b1 := b1.stays hb
  replace b2 := b2.stays hb
  replace b3 := b3.stays hb
  skip
  replace HB := Lib.hid (below_then HB.out hb)
  clear hb
  by_cases e4 : f 4 = 0
  case neg =>
    have r4 := b2.row 0 10 (by simp [Message.len])
    rw [show ((Message.vals msg0).drop 0).take 10 = Message.vals msg0 from rfl] at r4
    go_wp2_with (first | (refine wpList_store_whole (by rfl) 81 _ _ (by rfl) w.heap.size msg0.vals _ b1 (by rfl) (by rfl) (by rfl) (by kernel_rfl) (Message.one _) ?_) | fail)
    refine ret_cells2 w.heap.size 0 msg0.vals (.int .i64 14) Tryz.results25 Tryz.underlying81 rfl (by kernel_rfl) rfl rfl (b1.whole (by rfl)).range rfl ?_
    exact ⟨by rw [show refG s.length f (s.drop 24) (s.drop 56) = (msg0, 14) by grind [refG]]; rfl, Below.setWhole HB.out (Nat.le_refl _) _⟩
  go_wp2_with fail
  refine (K.out 5 _ (by omega)).mono ?_
  rintro e wn ⟨rfl, hb⟩
  replace b1 := b1.stays hb
  replace b2 := b2.stays hb
  replace b3 := b3.stays hb
  skip
  replace HB := Lib.hid (below_then HB.out hb)
  clear hb
  by_cases e5 : f 5 < 0
  case pos =>
    have r4 := b2.row 0 10 (by simp [Message.len])
    rw [show ((Message.vals msg0).drop 0).take 10 = Message.vals msg0 from rfl] at r4
    go_wp2_with (first | (refine wpList_store_whole (by rfl) 81 _ _ (by rfl) w.heap.size msg0.vals _ b1 (by rfl) (by rfl) (by rfl) (by kernel_rfl) (Message.one _) ?_) | fail)
    refine ret_cells2 w.heap.size 0 msg0.vals (.int .i64 14) Tryz.results25 Tryz.underlying81 rfl (by kernel_rfl) rfl rfl (b1.whole (by rfl)).range rfl ?_
    exact ⟨by rw [show refG s.length f (s.drop 24) (s.drop 56) = (msg0, 14) by grind [refG]]; rfl, Below.setWhole HB.out (Nat.le_refl _) _⟩
  go_wp2_with fail
  refine (K.out 3 _ (by omega)).mono ?_
  rintro e wn ⟨rfl, hb⟩
  replace b1 := b1.stays hb
  replace b2 := b2.stays hb
  replace b3 := b3.stays hb
  skip
  replace HB := Lib.hid (below_then HB.out hb)
  clear hb
  have l24 := h24 (by omega)
  have l24' : ¬ (s.length : Int) < 24 := by omega
  have hcd : (bs s).extract 24 s.length = bs (s.drop 24) := bs_drop _ _
  have c3 : wn.cell? ⟨mb, 2, none⟩ = some (.bool false) := b3.cell 2
  have z3 := b3.frozen 2
  obtain ⟨wy, hwy⟩ : ∃ V, V = wn.setCell ⟨mb, 2, none⟩ (.bool (f 3 == 1)) := ⟨_, rfl⟩
  have b1y := b1.far (p := ⟨mb, 2, none⟩) n1 (.bool (f 3 == 1))
  have b2y := b2.far (p := ⟨mb, 2, none⟩) n2 (.bool (f 3 == 1))
  have b3y : Blk (wn.setCell ⟨mb, 2, none⟩ (.bool (f 3 == 1))) mb 81 (Message.vals ⟨f 0, true, f 3 == 1, 0, cred0, 0, []⟩) := b3.set_ 2 (.bool (f 3 == 1))
  have hBy := HB.out.setCell (p := ⟨mb, 2, none⟩) hmb (.bool (f 3 == 1))
  have HWY := Lib.hid hwy
  clear hwy b1 b2 b3
  go_wp2_with fail
  rw [← HWY.out] at b1y b2y b3y hBy ⊢
  have b1 := b1y
  have b2 := b2y
  have b3 := b3y
  have HB := Lib.hid hBy
  clear b1y b2y b3y hBy c3 z3
  refine (K.out 5 _ (by omega)).mono ?_
  rintro e wn ⟨rfl, hb⟩
  replace b1 := b1.stays hb
  replace b2 := b2.stays hb
  replace b3 := b3.stays hb
  skip
  replace HB := Lib.hid (below_then HB.out hb)
  clear hb
  obtain ⟨m, hm⟩ : ∃ m : Message, m = ⟨f 0, true, f 3 == 1, 0, cred0, f 5, s.drop 24⟩ := ⟨_, rfl⟩
  have c8 : wn.cell? ⟨mb, 8, none⟩ = some (.int .i64 0) := b3.cell 8
  have z8 := b3.frozen 8
  have c9 : wn.cell? ⟨mb, 9, none⟩ = some (.string (bs [])) := b3.cell 9
  have z9 := b3.frozen 9
  have b4 : Blk ((wn.setCell ⟨mb, 8, none⟩ (.int .i64 (f 5))).setCell ⟨mb, 9, none⟩ (.string (bs (s.drop 24)))) mb 81 m.vals := by rw [hm]; exact (b3.set_ 8 (.int .i64 (f 5))).set_ 9 (.string (bs (s.drop 24)))
  have b1 := (b1.far (p := ⟨mb, 8, none⟩) n1 (.int .i64 (f 5))).far (p := ⟨mb, 9, none⟩) n1 (.string (bs (s.drop 24)))
  have b2 := (b2.far (p := ⟨mb, 8, none⟩) n2 (.int .i64 (f 5))).far (p := ⟨mb, 9, none⟩) n2 (.string (bs (s.drop 24)))
  have hB4 := (HB.out.setCell (p := ⟨mb, 8, none⟩) hmb (.int .i64 (f 5))).setCell (p := ⟨mb, 9, none⟩) hmb (.string (bs (s.drop 24)))
  have r4 := b4.row 0 10 (by simp [Message.len])
  rw [show ((Message.vals m).drop 0).take 10 = Message.vals m from rfl] at r4
  have HM := Lib.hid hm
  clear hm
  go_wp2_with fail
  obtain ⟨wz, hwz⟩ : ∃ V, V = (wn.setCell ⟨mb, 8, none⟩ (.int .i64 (f 5))).setCell ⟨mb, 9, none⟩ (.string (bs (s.drop 24))) := ⟨_, rfl⟩
  rw [← hwz] at b1 b2 b4 hB4 ⊢
  clear hwz c8 z8 c9 z9 r4 b3
  refine (refCheck9_any m _ (by rw [HM.out]; simp; omega)).mono ?_
  rintro e wq ⟨rfl, hb⟩
  have b1 := b1.stays hb
  have b2 := b2.stays hb
  have b4 := b4.stays hb
  have HB := Lib.hid (below_then hB4 hb)
  clear hb hB4
  have HG := Lib.hid (show refG s.length f (s.drop 24) (s.drop 56) = if m.fit then (m, 0) else (msg0, 14) by rw [HM.out]; grind [refG])
  cases hfit : m.fit
  case false =>
    have r4 := b2.row 0 10 (by simp [Message.len])
    rw [show ((Message.vals msg0).drop 0).take 10 = Message.vals msg0 from rfl] at r4
    go_wp2_with (first | (refine wpList_store_whole (by rfl) 81 _ _ (by rfl) w.heap.size msg0.vals _ b1 (by rfl) (by rfl) (by rfl) (by kernel_rfl) (Message.one _) ?_) | fail)
    refine ret_cells2 w.heap.size 0 msg0.vals (.int .i64 14) Tryz.results25 Tryz.underlying81 rfl (by kernel_rfl) rfl rfl (b1.whole (by rfl)).range rfl ?_
    exact ⟨by rw [show refG s.length f (s.drop 24) (s.drop 56) = (msg0, 14) by rw [HG.out, hfit]; rfl]; rfl, Below.setWhole HB.out (Nat.le_refl _) _⟩
  have r4 := b4.row 0 10 (by simp [Message.len])
  rw [show ((Message.vals m).drop 0).take 10 = Message.vals m from rfl] at r4
  go_wp2_with (first | (refine wpList_store_whole (by rfl) 81 _ _ (by rfl) w.heap.size (Message.vals m) _ b1 (by rfl) (by rfl) (by rfl) (by kernel_rfl) (Message.one _) ?_) | fail)
  refine ret_cells2 w.heap.size 0 (Message.vals m) (.int .i64 0) Tryz.results25 Tryz.underlying81 rfl (by kernel_rfl) rfl rfl (b1.whole (by rfl)).range rfl ?_
  exact ⟨by rw [show refG s.length f (s.drop 24) (s.drop 56) = (m, 0) by rw [HG.out, hfit]; rfl]; rfl, Below.setWhole HB.out (Nat.le_refl _) _⟩
end Go.Proofs.YtfjflkmhhbhceaaGreatDoor
