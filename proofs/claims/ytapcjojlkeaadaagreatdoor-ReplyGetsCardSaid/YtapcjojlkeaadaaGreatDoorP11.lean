/-
  Layer 1, walks: the reference's reader takes numbers. Conditions: a reader at a block of its own; texts are machine texts.
-/
import Derived.Test.YtapcjojlkeaadaaGreatDoorP04
import Derived.Test.YtapcjojlkeaadaaGreatDoorP07
namespace Go.Proofs.YtapcjojlkeaadaaGreatDoor
open Go.RowKit
attribute [local go_sem ↓] Go.wp_at_zero Go.wp_at_succ
attribute [local go_sem] rowAt_ptr rowOf_drew rowOf_drewN rowOf_alloc_past rowOf_new
attribute [local go_sem] bs_get

/-- the reference's reader at block g -/
def RdF (w : World) (g : Nat) (r : Rs) : Prop :=
  ∃ (S : List UInt8) (at_ : Nat), Blk w g 59 [.string (bs S), .int .i64 at_, .int .i64 r.e] ∧ at_ ≤ S.length ∧ S.length ≤ 1000000000000000000 ∧ (r.e = 0 → r.s = S.drop at_) ∧ (r.e ≠ 0 → r.s = [])
def ReadsF (g : Nat) (r : Rs) (w w' : World) : Prop := RdF w' g r ∧ Touch (fun k => k = g) w w'
def GaveF (g : Nat) (r : Rs) (v : Value) (w : World) (e : Ending) (w' : World) : Prop := e = .returned v ∧ ReadsF g r w w'
theorem RdF.lt {w : World} {g : Nat} {r : Rs} (h : RdF w g r) : g < w.heap.size := by obtain ⟨_, _, h, _⟩ := h; exact h.lt
theorem RdF.touch {w w' : World} {g : Nat} {r : Rs} {F : Nat → Prop} (h : RdF w g r) (ht : Touch F w w') (hn : ¬ F g) : RdF w' g r := by
  obtain ⟨S, a, h, k⟩ := h
  exact ⟨S, a, h.touch ht hn, k⟩
theorem RdF.stays {w w' : World} {g : Nat} {r : Rs} (h : RdF w g r) (hb : Below w.heap.size w w') : RdF w' g r := h.touch (Touch.of_below hb (fun _ => False)) (fun h => h)
theorem ReadsF.refl {w : World} {g : Nat} {r : Rs} (h : RdF w g r) : ReadsF g r w w := ⟨h, Touch.refl _ _⟩
theorem ReadsF.trans {a b c : World} {g : Nat} {r r' : Rs} (h : ReadsF g r a b) (k : ReadsF g r' b c) : ReadsF g r' a c := ⟨k.1, h.2.then_ k.2⟩
theorem ReadsF.behind {a b c : World} {g : Nat} {r : Rs} (h : Below a.heap.size a b) (k : ReadsF g r b c) : ReadsF g r a c := ⟨k.1, (Touch.of_below h _).then_ k.2⟩
theorem ReadsF.new {a b c : World} {g : Nat} {r : Rs} (h : ReadsF g r a b) (k : Below b.heap.size b c) : ReadsF g r a c := ⟨h.1.stays k, h.2.then_ (Touch.of_below k _)⟩
theorem ReadsF.keeps {a b : World} {g : Nat} {r : Rs} (h : ReadsF g r a b) {k : Nat} {T : TypeId} {cs : List Value} (hb : Blk a k T cs) (hk : k ≠ g) : Blk b k T cs := hb.touch h.2 hk
theorem ReadsF.below {a b : World} {g B : Nat} {r : Rs} (h : ReadsF g r a b) (hg : B ≤ g) (hB : B ≤ a.heap.size) : Below B a b := h.2.below (fun k _ hk => by subst hk; exact hg) hB
theorem ReadsF.lay {w wx : World} {g b : Nat} {r : Rs} {T : TypeId} {old cs : List Value} (h : ReadsF g r w wx) (hb : Blk wx b T old) (hl : old.length = cs.length) (hne : b ≠ g) (hB : w.heap.size ≤ b) : ReadsF g r w (wx.setCells b 0 cs) ∧ Blk (wx.setCells b 0 cs) b T cs :=
  ⟨⟨h.1.touch (Touch.setCells (F := fun k => k = b) (.inl rfl) cs 0 wx (Touch.refl _ _)) (fun hh => hne hh.symm), Touch.setCells (.inr hB) cs 0 wx h.2⟩, hb.whole hl⟩
theorem ReadsF.err {wx : World} {g : Nat} {r : Rs} (h : RdF wx g r) : wx.cell? ⟨g, 2, none⟩ = some (.int .i64 r.e) := by
  obtain ⟨S, a, h, _⟩ := h
  rw [h.cell]; rfl

theorem beVal_take_le {l : List UInt8} {i k : Nat} (h : i ≤ k) : beVal (l.take i) ≤ beVal (l.take k) := by
  induction k with
  | zero => obtain rfl : i = 0 := by omega
            exact Nat.le_refl _
  | succ k ih =>
    rcases Nat.lt_or_ge i (k + 1) with hlt | hge
    · refine Nat.le_trans (ih (by omega)) ?_
      rcases Nat.lt_or_ge k l.length with hk | hk
      · rw [List.take_succ_eq_append_getElem hk, beVal_snoc]; omega
      · rw [List.take_of_length_le hk, List.take_of_length_le (by omega)]; exact Nat.le_refl _
    · obtain rfl : i = k + 1 := by omega
      exact Nat.le_refl _
theorem beVal_top {b : UInt8} {l : List UInt8} (h : l.length = 7) : 9223372036854775808 ≤ beVal (b :: l) ↔ 127 < b.toNat := by
  have := beVal_lt l
  rw [h] at this
  simp only [beVal, h]
  omega
theorem drop_get {S : List UInt8} {a k : Nat} (h : a + k < S.length) : (S.drop a)[k]? = some (S[a + k]'h) := by
  rw [List.getElem?_drop]; exact List.getElem?_eq_getElem h

set_option maxRecDepth 20000 in
set_option maxHeartbeats 1600000 in
theorem refU_err (g k : Nat) (r : Rs) (w : World) (hR : RdF w g r) (he : r.e ≠ 0) :
    Calls Tryz.prog 19 #[.pointer (some ⟨g, 0, none⟩), .int .i64 k] w fun e w' => e = .returned (.int .i64 0) ∧ w = w' := by
  have hc := ReadsF.err hR
  have he' : (r.e != 0) = true := by simpa using he
  clear he hR
  go_enter Tryz.func19, Tryz.ntmps19
  go_wp2
  go_ret
  exact ⟨rfl, rfl⟩

set_option maxRecDepth 20000 in
set_option maxHeartbeats 1600000 in
theorem refU_short (g k : Nat) (s : List UInt8) (w : World) (hR : RdF w g ⟨s, 0⟩) (_hk : k ≤ 8) (hs : s.length < k) :
    Calls Tryz.prog 19 #[.pointer (some ⟨g, 0, none⟩), .int .i64 k] w (GaveF g (Rs.fail 10) (.int .i64 0) w) := by
  obtain ⟨S, a, hB, ha, hS, h0, -⟩ := hR
  have h0 := h0 rfl
  simp only at h0
  subst h0
  simp only [List.length_drop] at hs
  have hc := hB.cell
  have hf := hB.frozen
  have hsz := bs_size S
  have hw1 : IntKind.i64.wrap ((S.length : Int) - (a : Int)) = (S.length : Int) - a := IntWalk.i64_in _ (by omega)
  have HB := Lib.hid hB
  clear hB
  go_enter Tryz.func19, Tryz.ntmps19
  go_wp2
  go_quiet (fail)
  go_wp2
  go_ret
  exact ⟨rfl, ⟨S, a, (HB.out.drewN nq).set_ 2 (.int .i64 10), ha, hS, (fun h => by cases h), fun _ => rfl⟩, ((Touch.refl (fun k => k = g) w).drewN nq).setCell_ (g := g) (o := 2) (.inl rfl) (.int .i64 10)⟩

set_option maxRecDepth 20000 in
set_option maxHeartbeats 1600000 in
theorem refU_range (g : Nat) (s : List UInt8) (w : World) (hR : RdF w g ⟨s, 0⟩) (hs : 8 ≤ s.length) (hv : 9223372036854775808 ≤ beVal (s.take 8)) :
    Calls Tryz.prog 19 #[.pointer (some ⟨g, 0, none⟩), .int .i64 8] w (GaveF g (Rs.fail 3) (.int .i64 0) w) := by
  obtain ⟨S, a, hB, ha, hS, h0, -⟩ := hR
  have h0 := h0 rfl
  simp only at h0
  subst h0
  simp only [List.length_drop] at hs
  have hc := hB.cell
  have hf := hB.frozen
  have hsz := bs_size S
  have hw1 : IntKind.i64.wrap ((S.length : Int) - (a : Int)) = (S.length : Int) - a := IntWalk.i64_in _ (by omega)
  have hal : a < S.length := by omega
  have htop : 127 < ((S[a]'hal).toNat : Int) := by
    rw [List.drop_eq_getElem_cons hal, List.take_succ_cons] at hv
    have := (beVal_top (by simp; omega)).1 hv
    omega
  have HB := Lib.hid hB
  clear hB hv
  go_enter Tryz.func19, Tryz.ntmps19
  go_wp2
  go_quiet (fail)
  go_wp2
  go_quiet (fail)
  go_wp2
  go_ret
  exact ⟨rfl, ⟨S, a, (HB.out.drewN _).set_ 2 (.int .i64 3), ha, hS, (fun h => by cases h), fun _ => rfl⟩, ((Touch.refl (fun k => k = g) w).drewN _).setCell_ (g := g) (o := 2) (.inl rfl) (.int .i64 3)⟩

set_option maxRecDepth 20000 in
set_option maxHeartbeats 3200000 in
theorem refU_ok (g k : Nat) (s : List UInt8) (w : World) (hR : RdF w g ⟨s, 0⟩) (hk : k = 4 ∨ k = 8) (hs : k ≤ s.length) (hv : beVal (s.take k) < 9223372036854775808) :
    Calls Tryz.prog 19 #[.pointer (some ⟨g, 0, none⟩), .int .i64 k] w (GaveF g ⟨s.drop k, 0⟩ (.int .i64 (beVal (s.take k))) w) := by
  obtain ⟨S, a, hB, ha, hS, h0, -⟩ := hR
  have h0 := h0 rfl
  simp only at h0
  subst h0
  simp only [List.length_drop] at hs
  have hc := hB.cell
  have hf := hB.frozen
  have hsz := bs_size S
  have hw1 : IntKind.i64.wrap ((S.length : Int) - (a : Int)) = (S.length : Int) - a := IntWalk.i64_in _ (by omega)
  have hw2 : IntKind.i64.wrap ((a : Int) + (k : Int)) = ((a + k : Nat) : Int) := by rw [IntWalk.i64_in _ (by omega)]; omega
  have hal : a < S.length := by omega
  have htop : k = 8 → ¬ 127 < ((S[a]'hal).toNat : Int) := fun h8 => by
    subst h8
    rw [List.drop_eq_getElem_cons hal, List.take_succ_cons] at hv
    have := (beVal_top (b := S[a]'hal) (l := (S.drop (a + 1)).take 7) (by simp; omega))
    omega
  have HB := Lib.hid hB
  have HV := Lib.hid hv
  have HT := Lib.hid htop
  clear hB hv htop
  rcases hk with rfl | rfl
  · go_enter Tryz.func19, Tryz.ntmps19
    go_wp2
    go_quiet (fail)
    go_wp2
    go_quiet (fail)
    go_wp2
    go_loopw [5, 6] (fun n i wr => ∃ j : Nat, j ≤ 4 ∧ i = .int .i64 j ∧ n = .int .i64 (beVal ((S.drop a).take j)) ∧ Blk wr g 59 [.string (bs S), .int .i64 a, .int .i64 0] ∧ Touch (fun k => k = g) w wr) (fun _ i _ => 4 - (intOf i).toNat)
    case atStart => exact ⟨0, by omega, rfl, rfl, (HB.out.drewN _).drewN _, ((Touch.refl _ w).drewN _).drewN _⟩
    case round =>
      obtain ⟨j, hj, rfl, rfl, hB, hT⟩ := hrel
      have hc := hB.cell
      have hf := hB.frozen
      by_cases hlt : j < 4
      · have hja : a + j < S.length := by omega
        have hjd : j < (S.drop a).length := by simp; omega
        have HS := Lib.hid (show beVal ((S.drop a).take (j + 1)) = beVal ((S.drop a).take j) * 256 + (S[a + j]'hja).toNat by rw [List.take_succ_eq_append_getElem hjd, beVal_snoc]; simp)
        have hle := beVal_take_le (l := S.drop a) (i := j + 1) (k := 4) (by omega)
        have hmax : 256 * beVal ((S.drop a).take j) + (S[a + j]'hja).toNat < 9223372036854775808 := by have := HV.out; have := HS.out; omega
        generalize beVal ((S.drop a).take j) = v at *
        have hcb : (S[a + j]'hja).toNat < 256 := (S[a + j]'hja).toNat_lt
        have e1 : IntKind.i64.wrap ((a : Int) + (j : Int)) = (a : Int) + (j : Int) := IntWalk.i64_in _ (by omega)
        have e5 : (0 : Int) ≤ (a : Int) + (j : Int) := by omega
        have e6 : ((a : Int) + (j : Int)).toNat = a + j := by omega
        have e7 : (a : Int) + (j : Int) < (S.length : Int) := by omega
        have e2 : IntKind.i64.wrap (256 * (v : Int)) = 256 * (v : Int) := IntWalk.i64_in _ (by omega)
        have e4 : IntKind.i64.wrap ((S[a + j]'hja).toNat : Int) = ((S[a + j]'hja).toNat : Int) := IntWalk.i64_in _ (by omega)
        have e3 : IntKind.i64.wrap (256 * (v : Int) + ((S[a + j]'hja).toNat : Int)) = 256 * (v : Int) + ((S[a + j]'hja).toNat : Int) := IntWalk.i64_in _ (by omega)
        clear hle hmax hjd
        go_wp2
        go_quiet (fail)
        clear e1 e2 e3 e4
        go_wp2
        go_roundw
        case rel => exact ⟨j + 1, by omega, by go_num, by rw [HS.out]; exact congrArg (Value.int .i64) (by omega), hB.drewN _, hT.drewN _⟩
        case measure => simp [intOf]; omega
      · obtain rfl : j = 4 := by omega
        go_wp2
        go_ret
        refine ⟨rfl, ⟨S, a + 4, hB.set_ 1 (.int .i64 ((a + 4 : Nat) : Int)), by omega, hS, (fun _ => by simp), fun h => absurd rfl h⟩, hT.setCell_ (g := g) (o := 1) (.inl rfl) (.int .i64 ((a + 4 : Nat) : Int))⟩
  · have ht := HT.out rfl
    have ht' : ((S[a]'hal).toNat : Int) ≤ 127 := by omega
    have hd : decide (127 < ((S[a]'hal).toNat : Int)) = false := by simpa using ht
    go_enter Tryz.func19, Tryz.ntmps19
    go_wp2
    go_quiet (fail)
    go_wp2
    go_quiet (fail)
    go_wp2
    go_loopw [5, 6] (fun n i wr => ∃ j : Nat, j ≤ 8 ∧ i = .int .i64 j ∧ n = .int .i64 (beVal ((S.drop a).take j)) ∧ Blk wr g 59 [.string (bs S), .int .i64 a, .int .i64 0] ∧ Touch (fun k => k = g) w wr) (fun _ i _ => 8 - (intOf i).toNat)
    case atStart => exact ⟨0, by omega, rfl, rfl, (HB.out.drewN _).drewN _, ((Touch.refl _ w).drewN _).drewN _⟩
    case round =>
      obtain ⟨j, hj, rfl, rfl, hB, hT⟩ := hrel
      have hc := hB.cell
      have hf := hB.frozen
      by_cases hlt : j < 8
      · have hja : a + j < S.length := by omega
        have hjd : j < (S.drop a).length := by simp; omega
        have HS := Lib.hid (show beVal ((S.drop a).take (j + 1)) = beVal ((S.drop a).take j) * 256 + (S[a + j]'hja).toNat by rw [List.take_succ_eq_append_getElem hjd, beVal_snoc]; simp)
        have hle := beVal_take_le (l := S.drop a) (i := j + 1) (k := 8) (by omega)
        have hmax : 256 * beVal ((S.drop a).take j) + (S[a + j]'hja).toNat < 9223372036854775808 := by have := HV.out; have := HS.out; omega
        generalize beVal ((S.drop a).take j) = v at *
        have hcb : (S[a + j]'hja).toNat < 256 := (S[a + j]'hja).toNat_lt
        have e1 : IntKind.i64.wrap ((a : Int) + (j : Int)) = (a : Int) + (j : Int) := IntWalk.i64_in _ (by omega)
        have e5 : (0 : Int) ≤ (a : Int) + (j : Int) := by omega
        have e6 : ((a : Int) + (j : Int)).toNat = a + j := by omega
        have e7 : (a : Int) + (j : Int) < (S.length : Int) := by omega
        have e2 : IntKind.i64.wrap (256 * (v : Int)) = 256 * (v : Int) := IntWalk.i64_in _ (by omega)
        have e4 : IntKind.i64.wrap ((S[a + j]'hja).toNat : Int) = ((S[a + j]'hja).toNat : Int) := IntWalk.i64_in _ (by omega)
        have e3 : IntKind.i64.wrap (256 * (v : Int) + ((S[a + j]'hja).toNat : Int)) = 256 * (v : Int) + ((S[a + j]'hja).toNat : Int) := IntWalk.i64_in _ (by omega)
        clear hle hmax hjd
        go_wp2
        go_quiet (fail)
        clear e1 e2 e3 e4
        go_wp2
        go_roundw
        case rel => exact ⟨j + 1, by omega, by go_num, by rw [HS.out]; exact congrArg (Value.int .i64) (by omega), hB.drewN _, hT.drewN _⟩
        case measure => simp [intOf]; omega
      · obtain rfl : j = 8 := by omega
        go_wp2
        go_ret
        refine ⟨rfl, ⟨S, a + 8, hB.set_ 1 (.int .i64 ((a + 8 : Nat) : Int)), by omega, hS, (fun _ => by simp), fun h => absurd rfl h⟩, hT.setCell_ (g := g) (o := 1) (.inl rfl) (.int .i64 ((a + 8 : Nat) : Int))⟩

/-- numbers of 32 and of 64 bits -/
theorem refU4_any (g : Nat) (r : Rs) (w : World) (hR : RdF w g r) : Calls Tryz.prog 19 #[.pointer (some ⟨g, 0, none⟩), .int .i64 4] w (GaveF g (rU32 r).2 (.int .i64 (rU32 r).1) w) := by
  unfold rU32
  by_cases he : r.e = 0
  · obtain ⟨s, e⟩ := r
    simp only at he
    subst he
    by_cases hs : s.length < 4
    · have : rNum 4 ⟨s, 0⟩ = (0, Rs.fail 10) := by simp [rNum, hs]
      rw [this]
      exact refU_short g 4 s w hR (by omega) hs
    · have : rNum 4 ⟨s, 0⟩ = (beVal (s.take 4), ⟨s.drop 4, 0⟩) := by simp [rNum, hs]
      rw [this]
      have hb := beVal_lt (s.take 4)
      rw [List.length_take, Nat.min_eq_left (by omega)] at hb
      exact refU_ok g 4 s w hR (.inl rfl) (by omega) (by omega)
  · have : rNum 4 r = (0, r) := by simp [rNum, he]
    rw [this]
    exact (refU_err g 4 r w hR he).mono fun e w' ⟨h1, h2⟩ => ⟨h1, by subst h2; exact ReadsF.refl hR⟩
theorem refU8_any (g : Nat) (r : Rs) (w : World) (hR : RdF w g r) : Calls Tryz.prog 19 #[.pointer (some ⟨g, 0, none⟩), .int .i64 8] w (GaveF g (rU64 r).2 (.int .i64 (rU64 r).1) w) := by
  by_cases he : r.e = 0
  · obtain ⟨s, e⟩ := r
    simp only at he
    subst he
    by_cases hs : s.length < 8
    · have : rU64 ⟨s, 0⟩ = (0, Rs.fail 10) := by simp [rU64, rNum, hs]
      rw [this]
      exact refU_short g 8 s w hR (by omega) hs
    · have h8 : rNum 8 ⟨s, 0⟩ = (beVal (s.take 8), ⟨s.drop 8, 0⟩) := by simp [rNum, hs]
      by_cases hv : 9223372036854775808 ≤ beVal (s.take 8)
      · have : rU64 ⟨s, 0⟩ = (0, Rs.fail 3) := by simp [rU64, h8, hv]
        rw [this]
        exact refU_range g s w hR (by omega) hv
      · have : rU64 ⟨s, 0⟩ = (beVal (s.take 8), ⟨s.drop 8, 0⟩) := by simp [rU64, h8, hv]
        rw [this]
        exact refU_ok g 8 s w hR (.inr rfl) (by omega) (by omega)
  · have : rU64 r = (0, r) := by simp [rU64, rNum, he]
    rw [this]
    exact (refU_err g 8 r w hR he).mono fun e w' ⟨h1, h2⟩ => ⟨h1, by subst h2; exact ReadsF.refl hR⟩

/-- the reference notes an error -/
theorem RdF.fail {w wx : World} {g : Nat} {r r' : Rs} (h : ReadsF g r w wx) (n : Int) (hn : n ≠ 0) (hr : r' = Rs.fail n) : ReadsF g r' w (wx.setCell ⟨g, 2, none⟩ (.int .i64 n)) := by
  subst hr
  obtain ⟨⟨S, a, hB, ha, hS, -, -⟩, hT⟩ := h
  exact ⟨⟨S, a, hB.set_ 2 (.int .i64 n), ha, hS, (fun h => absurd h hn), fun _ => rfl⟩, hT.setCell_ (.inl rfl) _⟩
theorem rU32_e {r : Rs} (h : (rU32 r).2.e ≠ 0) : (rU32 r).1 = 0 := by
  unfold rU32 rNum at *
  split at h <;> rename_i h1
  · simp [h1]
  · split at h <;> rename_i h2
    · simp [h1, h2]
    · exact absurd rfl h

set_option maxHeartbeats 1600000 in
theorem refTruthR_any (g : Nat) (r : Rs) (w : World) (hR : RdF w g r) : Calls Tryz.prog 48 #[.pointer (some ⟨g, 0, none⟩)] w (GaveF g (rBool r).2 (.bool (rBool r).1) w) := by
  by_cases hb : 1 < (rU32 r).1
  · have HN := Lib.hid (show rBool r = (false, Rs.fail 13) by simp [rBool, hb])
    have he : (rU32 r).2.e = 0 := Classical.byContradiction fun h => by have := rU32_e h; omega
    go_enter Tryz.func48, Tryz.ntmps48
    go_wp2_with fail
    refine (refU4_any g r _ hR).mono ?_
    rintro e w1 ⟨rfl, hQ⟩
    have hc : w1.cell? ⟨g, 2, none⟩ = some (.int .i64 0) := by have := ReadsF.err hQ.1; rw [he] at this; exact this
    have hf : w1.frozen? ⟨g, 2, none⟩ = false := by obtain ⟨_, _, h, _⟩ := hQ.1; exact h.frozen 2
    have HQ := Lib.hid (RdF.fail hQ 13 (by decide) (r' := Rs.fail 13) rfl)
    clear hQ he
    go_wp2
    go_ret
    rw [HN.out]
    exact ⟨rfl, HQ.out⟩
  · have HN := Lib.hid (show rBool r = ((rU32 r).1 == 1, (rU32 r).2) by simp [rBool, hb])
    go_enter Tryz.func48, Tryz.ntmps48
    go_wp2_with fail
    refine (refU4_any g r _ hR).mono ?_
    rintro e w1 ⟨rfl, hQ⟩
    have hc := ReadsF.err hQ.1
    go_wp2
    all_goals
      go_ret
      rw [HN.out]
      refine ⟨ret_bool ?_, hQ⟩
      go_light
      grind
end Go.Proofs.YtapcjojlkeaadaaGreatDoor
