/-
  Layer 9, walks: the program's Get: what is missing is a panic, which Get takes back. No condition.
-/
import Derived.Test.YtlblenojhfeboaaDoorRpcWalkF
import Derived.Defers
import Derived.Recover
namespace Go.Proofs.YtlblenojhfeboaaDoor
open Go.RowKit
attribute [local go_sem ↓] Go.wp_at_zero Go.wp_at_succ
attribute [local go_sem] rowAt_ptr rowOf_drew rowOf_drewN rowOf_alloc_past rowOf_new
attribute [local go_sem] Message.at0 Message.lat0 Message.at1 Message.lat1 Message.at2 Message.lat2 Message.at3 Message.lat3 Message.at4 Message.lat4 Message.at5 Message.lat5 Message.at6 Message.lat6 Message.at7 Message.lat7 Message.at8 Message.lat8 Message.at9 Message.lat9 Message.sub0_10 Message.lsub0_10 Message.sub4_4 Message.lsub4_4 Message.len Cred.at0 Cred.lat0 Cred.at1 Cred.lat1 Cred.at2 Cred.lat2 Cred.at3 Cred.lat3 Cred.sub0_4 Cred.lsub0_4 Cred.len

attribute [local go_sem ↓] ldMessage ldCred

theorem cell_set_far (w : World) {b b' o o' : Nat} (hn : ¬ b' = b) (v : Value) : (w.setCell ⟨b', o', none⟩ v).cell? ⟨b, o, none⟩ = w.cell? ⟨b, o, none⟩ := World.cell?_setCell_far w ⟨b', o', none⟩ ⟨b, o, none⟩ v hn
theorem cell_drew9 (w : World) (p : Addr) : w.drew.cell? p = w.cell? p := rfl
def msg0 : Message := ⟨0, false, false, 0, cred0, 0, []⟩
theorem catch9_idle (p q : Addr) (w : World) :
    CallsD Tryd.prog 49 #[.pointer (some p), .pointer (some q)] .returning w fun e u' w' => e = .returned (.tuple #[]) ∧ u' = .returning ∧ w' = w := by
  refine callsD_of_wpS Tryd.func49 rfl fun c₀ cs hu => ?_
  apply wpS_seq
  apply wpS_region
  simp [wpOpsS, go_sem, recoverD, hu, Tryd.ntmps49, Exit.thenS]
  apply wpS_seq
  apply wpS_seq
  apply wpS_region
  simp [wpOpsS, go_sem, Exit.thenS]
  refine wpS_cond (t := true) (by simp [Act.eval, Array.replicate]) ?_
  simp only [if_true]
  refine wpS_of_wp (wp_ret ?_)
  cases c₀
  simp_all [bodyPostS, results, Tryd.results49, Exit.thenS]
set_option maxRecDepth 20000 in
set_option maxHeartbeats 800000 in
theorem catch9_miss (a b : Nat) (old : Message) (y : Int) (w : World) (ha : Blk w a 42 old.vals) (hb : Blk w b 25 [.int .i64 y]) :
    CallsD Tryd.prog 49 #[.pointer (some ⟨a, 0, none⟩), .pointer (some ⟨b, 0, none⟩)] (.panicking missV) w fun e u' w' => e = .returned (.tuple #[]) ∧ u' = .panicking [{ v := .iface 72 (.agg #[.int .i64 14]), recovered := true }] ∧
      Blk w' a 42 msg0.vals ∧ Blk w' b 25 [.int .i64 14] ∧ Touch (fun k => k = a ∨ k = b) w w' := by
  refine callsD_of_wpS Tryd.func49 rfl fun c₀ cs hu => ?_
  apply wpS_seq
  apply wpS_region
  simp [wpOpsS, go_sem, recoverD, hu, Tryd.ntmps49, Exit.thenS, missV]
  apply wpS_seq
  apply wpS_seq
  apply wpS_region
  simp [wpOpsS, go_sem, Exit.thenS]
  refine wpS_cond (t := false) (by simp [Act.eval, Array.replicate]) ?_
  simp only [Bool.false_eq_true, if_false]
  refine wpS_of_wp ?_
  refine wp_skip ?_
  simp only [Exit.thenS]
  refine wpS_of_wp ?_
  generalize hQ : (fun (e : Exit) (a' : Act) (w' : World) => bodyPostS _ _ _ _ _ e a' _ w') = Q
  generalize hA : (Act.mk _ _) = A
  have hA2 : A = ⟨#[.pointer (some ⟨a, 0, none⟩), .pointer (some ⟨b, 0, none⟩), (.iface 72 (.agg #[.int .i64 14])), undef, undef, (.iface 72 (.agg #[.int .i64 14])), (.iface 72 (.agg #[.int .i64 14])), .bool false, undef, undef, undef, undef, undef, undef, undef, undef, undef, undef, undef], []⟩ := by rw [← hA]; rfl
  clear hA
  subst hA2
  have nab := ha.ne_ hb (by decide)
  have nba : ¬ b = a := fun e => nab e.symm
  have hta : ∀ w, (Instr.typeAssert (.iface 72 (.agg #[.int .i64 14])) 20 72 true).run Tryd.prog w = .ok (.tuple #[.agg #[.int .i64 14], .bool true]) w := fun w => by kernel_rfl
  have HQ := Lib.hid hQ
  clear hQ
  go_wp2_with fail
  obtain ⟨w1, hw1⟩ : ∃ V, V = w.alloc (.cells #[.int .i64 14] 72) := ⟨_, rfl⟩
  rw [← hw1]
  have hT1 : Touch (fun k => k = a ∨ k = b) w w1 := by rw [hw1]; exact (Touch.refl _ _).alloc _
  have ha1 : Blk w1 a 42 old.vals := by rw [hw1]; exact ha.alloc _
  have hb1 : Blk w1 b 25 [.int .i64 y] := by rw [hw1]; exact hb.alloc _
  have cm : w1.cell? ⟨w.heap.size, 0, none⟩ = some (.int .i64 14) := by rw [hw1]; exact (Blk.new w 72 [.int .i64 14]).cell 0
  have la := ha.lt
  have lb := hb.lt
  have na : ¬ w.heap.size = a := by omega
  have nb : ¬ w.heap.size = b := by omega
  have na' : ¬ a = w.heap.size := by omega
  have nb' : ¬ b = w.heap.size := by omega
  have cb : w1.cell? ⟨b, 0, none⟩ = some (.int .i64 y) := hb1.cell 0
  have zb := hb1.frozen 0
  have c0 : w1.cell? ⟨a, 0, none⟩ = some (.int .i64 old.xid) := ha1.cell 0
  have z0 := ha1.frozen 0
  have c1 : w1.cell? ⟨a, 1, none⟩ = some (.bool old.answer) := ha1.cell 1
  have z1 := ha1.frozen 1
  have c2 : w1.cell? ⟨a, 2, none⟩ = some (.bool old.again) := ha1.cell 2
  have z2 := ha1.frozen 2
  have c3 : w1.cell? ⟨a, 3, none⟩ = some (.int .i64 old.proc) := ha1.cell 3
  have z3 := ha1.frozen 3
  have c4 : w1.cell? ⟨a, 4, none⟩ = some (.int .i64 old.cred.client) := ha1.cell 4
  have z4 := ha1.frozen 4
  have c5 : w1.cell? ⟨a, 5, none⟩ = some (.int .i64 old.cred.seq) := ha1.cell 5
  have z5 := ha1.frozen 5
  have c6 : w1.cell? ⟨a, 6, none⟩ = some (.int .i64 old.cred.uid) := ha1.cell 6
  have z6 := ha1.frozen 6
  have c7 : w1.cell? ⟨a, 7, none⟩ = some (.int .i64 old.cred.gid) := ha1.cell 7
  have z7 := ha1.frozen 7
  have c8 : w1.cell? ⟨a, 8, none⟩ = some (.int .i64 old.accept) := ha1.cell 8
  have z8 := ha1.frozen 8
  have c9 : w1.cell? ⟨a, 9, none⟩ = some (.string (bs old.body)) := ha1.cell 9
  have z9 := ha1.frozen 9
  clear hw1 ha hb
  have HA := Lib.hid (And.intro ha1 (And.intro hb1 hT1))
  clear ha1 hb1 hT1
  go_region_held3 (fun V => V.cell? ⟨w.heap.size, 0, none⟩ = some (.int .i64 14)) (first | (with_reducible assumption) | (simp only [cell_drew9, cell_set_far _ na', cell_set_far _ nb']; with_reducible assumption)) (first | fail)
  rw [← HQ.out]
  obtain ⟨ha1, hb1, hT1⟩ := HA.out
  cases c₀
  refine ⟨rfl, _, rfl, .tuple #[], ?_, rfl, rfl, ?_, ?_, ?_⟩
  · simp [results, Tryd.results49, go_sem]
  · exact (((((((((((ha1.set_ 0 _).set_ 1 _).set_ 2 _).set_ 3 _).set_ 4 _).set_ 5 _).set_ 6 _).set_ 7 _).set_ 8 _).set_ 9 _).far (p := ⟨b, 0, none⟩) nab _).drew
  · exact (((((((((((hb1.far (p := ⟨a, 0, none⟩) nba _).far (p := ⟨a, 1, none⟩) nba _).far (p := ⟨a, 2, none⟩) nba _).far (p := ⟨a, 3, none⟩) nba _).far (p := ⟨a, 4, none⟩) nba _).far (p := ⟨a, 5, none⟩) nba _).far (p := ⟨a, 6, none⟩) nba _).far (p := ⟨a, 7, none⟩) nba _).far (p := ⟨a, 8, none⟩) nba _).far (p := ⟨a, 9, none⟩) nba _).set_ 0 _).drew
  · exact (((((((((((hT1.setCell_ (.inl (.inl rfl)) _).setCell_ (.inl (.inl rfl)) _).setCell_ (.inl (.inl rfl)) _).setCell_ (.inl (.inl rfl)) _).setCell_ (.inl (.inl rfl)) _).setCell_ (.inl (.inl rfl)) _).setCell_ (.inl (.inl rfl)) _).setCell_ (.inl (.inl rfl)) _).setCell_ (.inl (.inl rfl)) _).setCell_ (.inl (.inl rfl)) _).setCell_ (.inl (.inr rfl)) _).drew

theorem below_then_touch {w W W' : World} {g : Nat} (h : Below w.heap.size w W) (ht : Touch (fun k => k = g) W W') (hg : w.heap.size ≤ g := by omega) : Below w.heap.size w W' :=
  h.trans (ht.below (fun k _ hk => by omega) h.size)
theorem touch_below2 {w W W' : World} {a b : Nat} (h : Below w.heap.size w W) (ht : Touch (fun k => k = a ∨ k = b) W W') (ha : w.heap.size ≤ a := by omega) (hb : w.heap.size ≤ b := by omega) : Below w.heap.size w W' :=
  h.trans (ht.below (fun k _ hk => by omega) h.size)
theorem Blk.farAll {w : World} {g : Nat} {t : TypeId} {cs : List Value} (b o : Nat) (vs : List Value) (h : Blk w g t cs) (hne : ¬ g = b) : Blk (w.setCells b o vs) g t cs := by
  induction vs generalizing w o with
  | nil => exact h
  | cons v vs ih => exact ih (o + 1) (h.far (p := ⟨b, o, none⟩) hne v)
def gotV (r : Message × Int) : Value := .tuple #[.agg r.1.vals.toArray, .int .i64 r.2]
theorem results_got (tmps : Array Value) (w : World) (a b : Nat) (m : Message) (n : Int) (ha : Blk w a 42 m.vals) (hb : Blk w b 25 [.int .i64 n])
    (h2 : tmps.getD 2 undef = .pointer (some ⟨a, 0, none⟩)) (h3 : tmps.getD 3 undef = .pointer (some ⟨b, 0, none⟩)) : (results Tryd.f28 tmps).run Tryd.prog w = .ok (gotV (m, n)) w := by
  have hl := run_loadVar_mid (P := Tryd.prog) w a 0 42 m.vals _ ha.range Tryd.underlying42 rfl (by kernel_rfl)
  have hc : w.cell? ⟨b, 0, none⟩ = some (.int .i64 n) := hb.cell 0
  have hl2 : (loadVar 25 ⟨b, 0, none⟩).run Tryd.prog w = .ok (.int .i64 n) w := by simp [go_sem, hc]
  rw [Array.getD_eq_getD_getElem?] at h2 h3
  simp [results, Tryd.results28, h2, h3, asAddr, hl, hl2, gotV]
theorem leave9_miss {R : Ending → World → Prop} (tmps : Array Value) (w : World) (a b : Nat) (ha : Blk w a 42 msg0.vals) (hb : Blk w b 25 [.int .i64 0])
    (h2 : tmps.getD 2 undef = .pointer (some ⟨a, 0, none⟩)) (h3 : tmps.getD 3 undef = .pointer (some ⟨b, 0, none⟩)) (hR : ∀ w', Touch (fun k => k = a ∨ k = b) w w' → R (.returned (gotV (msg0, 14))) w') :
    Leaves Tryd.prog Tryd.f28 tmps R [{ target := .fn (.func 49) #[.pointer (some ⟨a, 0, none⟩), .pointer (some ⟨b, 0, none⟩)], args := #[] }] (.panicking missV) w := by
  refine leaves_cons (f := 49) (args := #[.pointer (some ⟨a, 0, none⟩), .pointer (some ⟨b, 0, none⟩)]) (by simp) (by simp [go_sem]) ?_
  refine (catch9_miss a b msg0 0 w ha hb).mono ?_
  rintro e u' w' ⟨rfl, rfl, ha', hb', hT⟩
  exact ⟨_, results_got tmps w' a b msg0 14 ha' hb' h2 h3, hR w' hT⟩
theorem leave9_idle {R : Ending → World → Prop} (tmps : Array Value) (w : World) (a b : Nat) (m : Message) (n : Int) (ha : Blk w a 42 m.vals) (hb : Blk w b 25 [.int .i64 n])
    (h2 : tmps.getD 2 undef = .pointer (some ⟨a, 0, none⟩)) (h3 : tmps.getD 3 undef = .pointer (some ⟨b, 0, none⟩)) (hR : R (.returned (gotV (m, n))) w) :
    Leaves Tryd.prog Tryd.f28 tmps R [{ target := .fn (.func 49) #[.pointer (some ⟨a, 0, none⟩), .pointer (some ⟨b, 0, none⟩)], args := #[] }] .returning w := by
  refine leaves_cons (f := 49) (args := #[.pointer (some ⟨a, 0, none⟩), .pointer (some ⟨b, 0, none⟩)]) (by simp) (by simp [go_sem]) ?_
  refine (catch9_idle ⟨a, 0, none⟩ ⟨b, 0, none⟩ w).mono ?_
  rintro e u' w' ⟨rfl, rfl, rfl⟩
  exact ⟨_, results_got tmps w' a b m n ha hb h2 h3, hR⟩
def gotM : Option Message → Message × Int
  | some m => (m, 0)
  | none => (msg0, 14)
/-- the message of bytes, or why there is none -/
def getM (s : List UInt8) : Message × Int :=
  if 2048 < s.length then (msg0, 4) else if s.length < 8 then (msg0, 14)
  else if wd (s.drop 4) = 0 then gotM (calledG (wd s) (s.drop 8).length (fun k => wd ((s.drop 8).drop (4 * k))) ((s.drop 8).drop 48))
  else if wd (s.drop 4) = 1 then gotM (answeredG (wd s) (s.drop 8).length (fun k => wd ((s.drop 8).drop (4 * k))) ((s.drop 8).drop 16))
  else (msg0, 14)

set_option maxRecDepth 20000 in
set_option maxHeartbeats 1600000 in
theorem get9_any (s : List UInt8) (w : World) : Calls Tryd.prog 28 #[.string (bs s)] w fun e w' => e = .returned (gotV (getM s)) ∧ Below w.heap.size w w' := by
  have hmf : ∀ (fn : Fn) (first cap : Array Value) (w : World), (Instr.makeFunc fn first cap).run Tryd.prog w = .ok (.func fn first cap) w := fun _ _ _ _ => rfl
  have hz := bs_size s
  by_cases hlen : 2048 < s.length
  · have hlen' : (2048 : Int) < s.length := by omega
    have HV := Lib.hid (show getM s = (msg0, 4) by simp [getM, hlen])
    obtain ⟨b1, b2, hB, _⟩ := chain2_blks w msg0.vals [.int .i64 4] 42 25
    have HB := Lib.hid (And.intro b1 (And.intro b2 hB))
    clear b1 b2 hB
    go_enter_defers Tryd.func28, Tryd.ntmps28
    go_wp2_with fail
    exact ⟨_, results_got _ _ w.heap.size (w.heap.size + 1) msg0 4 HB.out.1 HB.out.2.1 rfl rfl, by rw [HV.out], HB.out.2.2⟩
  · have hlen' : ¬ (2048 : Int) < s.length := by omega
    obtain ⟨b1, b2, hB0, hz0⟩ := chain2_blks w msg0.vals [.int .i64 0] 42 25
    have HB := Lib.hid (And.intro b1 (And.intro b2 (And.intro hB0 hz0)))
    clear b1 b2 hB0 hz0
    go_enter_defers Tryd.func28, Tryd.ntmps28
    go_wp2_with fail
    refine (readNew_any s _).mono ?_
    rintro e w2 ⟨rfl, hR, hB⟩
    obtain ⟨b1, b2, hB0, hz0⟩ := HB.out
    have hR0 : Rd w2 (w.heap.size + 1 + 1) ⟨s, 0⟩ := by rw [← hz0]; exact hR
    have b1 := b1.stays hB
    have b2 := b2.stays hB
    have hB2 := below_then hB0 hB
    have lt2 := hR0.lt
    clear hR hB HB hz0
    obtain ⟨w3, hw3⟩ : ∃ V, V = w2.alloc (.cells #[.pointer (some ⟨w.heap.size + 1 + 1, 0, none⟩)] 75) := ⟨_, rfl⟩
    have hB3 : Below w2.heap.size w2 w3 := by rw [hw3]; exact (Below.refl _ _).alloc (Nat.le_refl _) _
    have b4 : Blk w3 w2.heap.size 75 [.pointer (some ⟨w.heap.size + 1 + 1, 0, none⟩)] := by rw [hw3]; exact Blk.new _ _ _
    have b1 := b1.stays hB3
    have b2 := b2.stays hB3
    have hR0 := hR0.stays hB3
    have hB3 := below_then hB2 hB3
    have n4 : ¬ w2.heap.size = w.heap.size + 1 + 1 := by omega
    go_wp2_with fail
    rw [← hw3]
    refine (next_any _ s 0 _ hR0 (by omega)).mono ?_
    rintro e w4 (⟨q0, rfl, hR1, hT4⟩ | ⟨q0, rfl, hT4⟩)
    case inr =>
      have HV := Lib.hid (show getM s = (msg0, 14) by rw [getM, if_neg hlen, if_pos (by omega)])
      have b1 := b1.touch hT4 (by omega)
      have b2 := b2.touch hT4 (by omega)
      have b4 := b4.touch hT4 n4
      have hB4 := below_then_touch hB3 hT4
      refine leave9_miss _ _ w.heap.size (w.heap.size + 1) b1 b2 rfl rfl (fun w' hw => ⟨by rw [HV.out], ?_⟩)
      exact touch_below2 hB4 hw
    have b1 := b1.touch hT4 (by omega)
    have b2 := b2.touch hT4 (by omega)
    have b4 := b4.touch hT4 n4
    have hB4 := below_then_touch hB3 hT4
    clear hB3 hR0 hw3 hT4 hB2
    have hB3 := hB4
    have c4 : w4.cell? ⟨w2.heap.size, 0, none⟩ = some (.pointer (some ⟨w.heap.size + 1 + 1, 0, none⟩)) := b4.cell 0
    rw [show s.drop (4 * 0) = s from rfl]
    go_wp2_with fail
    refine (next_any _ s 1 _ hR1 (by omega)).mono ?_
    rintro e w5 (⟨q1, rfl, hR2, hT5⟩ | ⟨q1, rfl, hT5⟩)
    case inr =>
      have HV := Lib.hid (show getM s = (msg0, 14) by rw [getM, if_neg hlen, if_pos (by omega)])
      have b1 := b1.touch hT5 (by omega)
      have b2 := b2.touch hT5 (by omega)
      have b4 := b4.touch hT5 n4
      have hB5 := below_then_touch hB3 hT5
      refine leave9_miss _ _ w.heap.size (w.heap.size + 1) b1 b2 rfl rfl (fun w' hw => ⟨by rw [HV.out], ?_⟩)
      exact touch_below2 hB5 hw
    have b1 := b1.touch hT5 (by omega)
    have b2 := b2.touch hT5 (by omega)
    have b4 := b4.touch hT5 n4
    have hB5 := below_then_touch hB3 hT5
    clear hB3 hR1 hT5 c4 hB4
    have hB3 := hB5
    have c4 : w5.cell? ⟨w2.heap.size, 0, none⟩ = some (.pointer (some ⟨w.heap.size + 1 + 1, 0, none⟩)) := b4.cell 0
    rw [show s.drop (4 * 1) = s.drop 4 from rfl]
    by_cases k0 : wd (s.drop 4) = 0
    · have hC := called_any (w.heap.size + 1 + 1) (wd s) (s.drop 8) w5 hR2 (by simp; omega)
      have HVG : getM s = gotM (calledG (wd s) (s.drop 8).length (fun k => wd ((s.drop 8).drop (4 * k))) ((s.drop 8).drop 48)) := by
        unfold getM
        rw [if_neg hlen, if_neg (by omega), if_pos k0]
      generalize calledG (wd s) (s.drop 8).length (fun k => wd ((s.drop 8).drop (4 * k))) ((s.drop 8).drop 48) = r at hC HVG
      have hk' : (wd (s.drop 4) : Int) = 0 := by omega
      have hC := Lib.hid hC
      cases r with
      | none =>
        have HV := Lib.hid (show getM s = (msg0, 14) from HVG)
        clear HVG
        go_wp2_with fail
        refine hC.out.mono ?_
        rintro e w6 ⟨rfl, hT⟩
        have b1 := b1.touch hT (by omega)
        have b2 := b2.touch hT (by omega)
        have b4 := b4.touch hT n4
        have hB6 := below_then_touch hB3 hT
        refine leave9_miss _ _ w.heap.size (w.heap.size + 1) b1 b2 rfl rfl (fun w' hw => ⟨by rw [HV.out], ?_⟩)
        exact touch_below2 hB6 hw
      | some m =>
        have HV := Lib.hid (show getM s = (m, 0) from HVG)
        clear HVG
        go_wp2_with fail
        refine hC.out.mono ?_
        rintro e w6 ⟨rfl, hT⟩
        have b1 := b1.touch hT (by omega)
        have b2 := b2.touch hT (by omega)
        have b4 := b4.touch hT n4
        have hB6 := below_then_touch hB3 hT
        obtain ⟨w7, hw7⟩ : ∃ V, V = w6.setCells w.heap.size 0 m.vals := ⟨_, rfl⟩
        have d1 : Blk w7 w.heap.size 42 m.vals := by rw [hw7]; exact b1.whole (by rfl)
        have d2 : Blk w7 (w.heap.size + 1) 25 [.int .i64 0] := by rw [hw7]; exact b2.farAll _ _ _ (by omega)
        have hB7 : Below w.heap.size w w7 := by rw [hw7]; exact Below.setWhole hB6 (Nat.le_refl _) _
        have cE : w7.cell? ⟨w.heap.size + 1, 0, none⟩ = some (.int .i64 0) := d2.cell 0
        have zE := d2.frozen 0
        have d3 := (d1.far (p := ⟨w.heap.size + 1, 0, none⟩) (by simp) (.int .i64 0))
        have d4 := d2.set_ 0 (.int .i64 0)
        have hB8 := hB7.setCell (p := ⟨w.heap.size + 1, 0, none⟩) (by simp only; omega) (.int .i64 0)
        have HL := Lib.hid (And.intro d3 (And.intro d4 hB8))
        clear d1 d2 d3 d4 hB7 hB8 hB6
        have HW7 := Lib.hid hw7
        clear hw7
        go_wp2_with (first | (refine wpList_store_whole (by rfl) 42 _ _ (by rfl) w.heap.size m.vals _ b1 (by rfl) (by rfl) (by rfl) (by kernel_rfl) (Message.one _) ?_; rw [← HW7.out]) | fail)
        exact leave9_idle _ _ w.heap.size (w.heap.size + 1) m 0 HL.out.1 HL.out.2.1 rfl rfl ⟨by rw [HV.out], HL.out.2.2⟩
    by_cases k1 : wd (s.drop 4) = 1
    · have hC := answered_any (w.heap.size + 1 + 1) (wd s) (s.drop 8) w5 hR2 (by simp; omega)
      have HVG : getM s = gotM (answeredG (wd s) (s.drop 8).length (fun k => wd ((s.drop 8).drop (4 * k))) ((s.drop 8).drop 16)) := by
        unfold getM
        rw [if_neg hlen, if_neg (by omega), if_neg k0, if_pos k1]
      generalize answeredG (wd s) (s.drop 8).length (fun k => wd ((s.drop 8).drop (4 * k))) ((s.drop 8).drop 16) = r at hC HVG
      have hk' : (wd (s.drop 4) : Int) = 1 := by omega
      have hC := Lib.hid hC
      cases r with
      | none =>
        have HV := Lib.hid (show getM s = (msg0, 14) from HVG)
        clear HVG
        go_wp2_with fail
        refine hC.out.mono ?_
        rintro e w6 ⟨rfl, hT⟩
        have b1 := b1.touch hT (by omega)
        have b2 := b2.touch hT (by omega)
        have b4 := b4.touch hT n4
        have hB6 := below_then_touch hB3 hT
        refine leave9_miss _ _ w.heap.size (w.heap.size + 1) b1 b2 rfl rfl (fun w' hw => ⟨by rw [HV.out], ?_⟩)
        exact touch_below2 hB6 hw
      | some m =>
        have HV := Lib.hid (show getM s = (m, 0) from HVG)
        clear HVG
        go_wp2_with fail
        refine hC.out.mono ?_
        rintro e w6 ⟨rfl, hT⟩
        have b1 := b1.touch hT (by omega)
        have b2 := b2.touch hT (by omega)
        have b4 := b4.touch hT n4
        have hB6 := below_then_touch hB3 hT
        obtain ⟨w7, hw7⟩ : ∃ V, V = w6.setCells w.heap.size 0 m.vals := ⟨_, rfl⟩
        have d1 : Blk w7 w.heap.size 42 m.vals := by rw [hw7]; exact b1.whole (by rfl)
        have d2 : Blk w7 (w.heap.size + 1) 25 [.int .i64 0] := by rw [hw7]; exact b2.farAll _ _ _ (by omega)
        have hB7 : Below w.heap.size w w7 := by rw [hw7]; exact Below.setWhole hB6 (Nat.le_refl _) _
        have cE : w7.cell? ⟨w.heap.size + 1, 0, none⟩ = some (.int .i64 0) := d2.cell 0
        have zE := d2.frozen 0
        have d3 := (d1.far (p := ⟨w.heap.size + 1, 0, none⟩) (by simp) (.int .i64 0))
        have d4 := d2.set_ 0 (.int .i64 0)
        have hB8 := hB7.setCell (p := ⟨w.heap.size + 1, 0, none⟩) (by simp only; omega) (.int .i64 0)
        have HL := Lib.hid (And.intro d3 (And.intro d4 hB8))
        clear d1 d2 d3 d4 hB7 hB8 hB6
        have HW7 := Lib.hid hw7
        clear hw7
        go_wp2_with (first | (refine wpList_store_whole (by rfl) 42 _ _ (by rfl) w.heap.size m.vals _ b1 (by rfl) (by rfl) (by rfl) (by kernel_rfl) (Message.one _) ?_; rw [← HW7.out]) | fail)
        exact leave9_idle _ _ w.heap.size (w.heap.size + 1) m 0 HL.out.1 HL.out.2.1 rfl rfl ⟨by rw [HV.out], HL.out.2.2⟩
    have k0' : ¬ (wd (s.drop 4) : Int) = 0 := by omega
    have k1' : ¬ (wd (s.drop 4) : Int) = 1 := by omega
    have HV := Lib.hid (show getM s = (msg0, 14) by rw [getM, if_neg hlen, if_neg (by omega), if_neg k0, if_neg k1])
    obtain ⟨w7, hw7⟩ : ∃ V, V = w5.setCells w.heap.size 0 msg0.vals := ⟨_, rfl⟩
    have d1 : Blk w7 w.heap.size 42 msg0.vals := by rw [hw7]; exact b1.whole (by rfl)
    have d2 : Blk w7 (w.heap.size + 1) 25 [.int .i64 0] := by rw [hw7]; exact b2.farAll _ _ _ (by omega)
    have hB7 : Below w.heap.size w w7 := by rw [hw7]; exact Below.setWhole hB5 (Nat.le_refl _) _
    have cE : w7.cell? ⟨w.heap.size + 1, 0, none⟩ = some (.int .i64 0) := d2.cell 0
    have zE := d2.frozen 0
    have d3 := (d1.far (p := ⟨w.heap.size + 1, 0, none⟩) (by simp) (.int .i64 14))
    have d4 := d2.set_ 0 (.int .i64 14)
    have hB8 := hB7.setCell (p := ⟨w.heap.size + 1, 0, none⟩) (by simp only; omega) (.int .i64 14)
    have HL := Lib.hid (And.intro d3 (And.intro d4 hB8))
    clear d1 d2 d3 d4 hB7 hB8 hB5
    have HW7 := Lib.hid hw7
    clear hw7
    go_wp2_with (first | (refine wpList_store_whole (by rfl) 42 _ _ (by rfl) w.heap.size msg0.vals _ b1 (by rfl) (by rfl) (by rfl) (by kernel_rfl) (Message.one _) ?_; rw [← HW7.out]) | fail)
    exact leave9_idle _ _ w.heap.size (w.heap.size + 1) msg0 14 HL.out.1 HL.out.2.1 rfl rfl ⟨by rw [HV.out], HL.out.2.2⟩
end Go.Proofs.YtlblenojhfeboaaDoor
