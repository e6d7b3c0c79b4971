/-
  Layer 5, walks: whether attributes, or none, and what was ahead and behind, may be. No condition.
-/
import Derived.Test.YthfhdighniiodaaDoorC12
import Derived.Test.YthfhdighniiodaaDoorC04
import Derived.Test.YthfhdighniiodaaDoorC10
import Derived.Test.YthfhdighniiodaaDoorC09
import Derived.Test.YthfhdighniiodaaDoorC03
namespace Go.Proofs.YthfhdighniiodaaDoor
open Go.RowKit
attribute [local go_sem ↓] Go.wp_at_zero Go.wp_at_succ
attribute [local go_sem] rowAt_ptr rowOf_drew rowOf_drewN rowOf_alloc_past rowOf_new
attribute [local go_sem ↓] ldAttrR ldOpt ldSet

attribute [local go_sem] Attr.at0 Attr.lat0 Attr.at1 Attr.lat1 Attr.at2 Attr.lat2 Attr.at3 Attr.lat3 Attr.at4 Attr.lat4 Attr.at5 Attr.lat5 Attr.at6 Attr.lat6 Attr.at7 Attr.lat7 Attr.at8 Attr.lat8 Attr.at9 Attr.lat9 Attr.sub0_10 Attr.lsub0_10 Attr.len Opt.at0 Opt.lat0 Opt.at1 Opt.lat1 Opt.sub0_2 Opt.lsub0_2 Opt.len Sett.at0 Sett.lat0 Sett.at1 Sett.lat1 Sett.at2 Sett.lat2 Sett.at3 Sett.lat3 Sett.at4 Sett.lat4 Sett.at5 Sett.lat5 Sett.at6 Sett.lat6 Sett.at7 Sett.lat7 Sett.at8 Sett.lat8 Sett.at9 Sett.lat9 Sett.sub0_10 Sett.lsub0_10 Sett.sub0_2 Sett.lsub0_2 Sett.sub2_2 Sett.lsub2_2 Sett.sub4_2 Sett.lsub4_2 Sett.sub6_2 Sett.lsub6_2 Sett.sub8_2 Sett.lsub8_2 Sett.len Post.at0 Post.lat0 Post.at1 Post.lat1 Post.at2 Post.lat2 Post.at3 Post.lat3 Post.at4 Post.lat4 Post.at5 Post.lat5 Post.at6 Post.lat6 Post.at7 Post.lat7 Post.at8 Post.lat8 Post.at9 Post.lat9 Post.at10 Post.lat10 Post.sub0_11 Post.lsub0_11 Post.sub1_10 Post.lsub1_10 Post.len Wcc.at0 Wcc.lat0 Wcc.at1 Wcc.lat1 Wcc.at2 Wcc.lat2 Wcc.at3 Wcc.lat3 Wcc.at4 Wcc.lat4 Wcc.at5 Wcc.lat5 Wcc.at6 Wcc.lat6 Wcc.at7 Wcc.lat7 Wcc.at8 Wcc.lat8 Wcc.at9 Wcc.lat9 Wcc.at10 Wcc.lat10 Wcc.at11 Wcc.lat11 Wcc.at12 Wcc.lat12 Wcc.sub0_13 Wcc.lsub0_13 Wcc.sub0_2 Wcc.lsub0_2 Wcc.sub2_11 Wcc.lsub2_11 Wcc.sub3_10 Wcc.lsub3_10 Wcc.len

def limits (a : Attr) : List (Int × Int) := [(a.type, 7), (a.mode, 4095), (a.nlink, 4294967295), (a.uid, 4294967295), (a.gid, 4294967295), (a.id, 4294967295), (a.size, 9223372036854775807), (a.gen, 9223372036854775807), (a.change, 9223372036854775807), (a.time, 9223372036854775807)]
theorem limits_ok (a : Attr) (hg : a.good) (h1 : 1 ≤ a.type) : (limits a).all inLim = a.ok := by
  obtain ⟨-, -, -, -, -, g5, -, g7, g8, g9⟩ := hg
  have g5 := (Go.bounds_i64 g5).2
  have g7 := (Go.bounds_i64 g7).2
  have g8 := (Go.bounds_i64 g8).2
  have g9 := (Go.bounds_i64 g9).2
  simp [limits, inLim, okN, Attr.ok]
  grind
theorem free5_any (n : Int) (w : World) : Calls Tryd.prog 123 #[.int .i64 n] w fun e w' => e = .returned (.agg #[.int .i64 n, .int .i64 9223372036854775807]) ∧ Below w.heap.size w w' := by
  go_enter Tryd.func123, Tryd.ntmps123
  go_wp2
  exact ret_cells w.heap.size 0 (limV (n, 9223372036854775807)) Tryd.results123 Tryd.underlying147 rfl (by kernel_rfl) rfl (range_new _ _ _) rfl ⟨rfl, (Below.refl _ _).alloc (Nat.le_refl _) _⟩

set_option maxRecDepth 20000 in
set_option maxHeartbeats 1000000 in
theorem check5_any (a : Attr) (w : World) (hg : a.good) : Calls Tryd.prog 99 #[.agg a.vals.toArray] w fun e w' => e = .returned (.int .i64 (form a.ok)) ∧ Below w.heap.size w w' := by
  have hB0 : Below w.heap.size w (w.alloc (.cells a.vals.toArray 42)) := (Below.refl _ _).alloc (Nat.le_refl _) _
  have hz : w.heap.size < (w.alloc (.cells a.vals.toArray 42)).heap.size := by simp
  by_cases h1 : a.type < 1
  · have HS := Lib.hid (show a.ok = false by simp [Attr.ok]; omega)
    have hd : decide (a.type < 1) = true := by simpa using h1
    go_enter Tryd.func99, Tryd.ntmps99
    go_wp2
    go_quiet (fail)
    go_wp2
    go_ret
    exact ⟨ret_int (by rw [HS.out]; rfl), hB0.trans (bdN (Below.refl _ _) _)⟩
  · have hd : decide (a.type < 1) = false := by simpa using h1
    have HL := Lib.hid (limits_ok a hg (by omega))
    have c0 := (Blk.new w 42 a.vals).cell
    go_enter Tryd.func99, Tryd.ntmps99
    go_wp2
    generalize w.alloc (.cells a.vals.toArray 42) = w1 at *
    go_region_held3 (fun W => Stb w1 W) (first | exact Stb.start | assumption | (exact Stb.alloc (by assumption) _) | (exact Stb.call (by assumption) (by assumption))) (first
      | (go_at_call 123; refine (free5_any _ _).mono ?_; rintro e w2 ⟨rfl, hb⟩)
      | (go_at_call 122; refine (within_any (some ⟨_, 0, none⟩) 10 (limits a) _ (show (10 : Nat) ≤ 1000000 by omega) (by exact At.fresh _ _ _ _ ((limits a).map limV) (by simp [limits, limV]) rfl)).mono ?_; rintro e w3 ⟨rfl, hb⟩))
    have hs := (by assumption : Stb w1 w3)
    have HB := Lib.hid (below_then hB0 hs.below)
    rw [HL.out]
    clear hs
    cases ho : a.ok
    all_goals
      have HO := Lib.hid ho
      clear ho
      go_wp2
      go_ret
      exact ⟨ret_int (by rw [HO.out]; rfl), HB.out⟩
end Go.Proofs.YthfhdighniiodaaDoor

/-
  Layer 1, walks: the reference's reader takes numbers. Conditions: a reader at a block of its own; texts are machine texts.
-/
namespace Go.Proofs.YthfhdighniiodaaDoor
open Go.RowKit
attribute [local go_sem ↓] Go.wp_at_zero Go.wp_at_succ
attribute [local go_sem] rowAt_ptr rowOf_drew rowOf_drewN rowOf_alloc_past rowOf_new
attribute [local go_sem] bs_get

/-- the reference's reader at block g -/
def RdF (w : World) (g : Nat) (r : Rs) : Prop :=
  ∃ (S : List UInt8) (at_ : Nat), Blk w g 105 [.string (bs S), .int .i64 at_, .int .i64 r.e] ∧ at_ ≤ S.length ∧ S.length ≤ 1000000000000000000 ∧ (r.e = 0 → r.s = S.drop at_) ∧ (r.e ≠ 0 → r.s = [])
def ReadsF (g : Nat) (r : Rs) (w w' : World) : Prop := RdF w' g r ∧ Touch (fun k => k = g) w w'
def GaveF (g : Nat) (r : Rs) (v : Value) (w : World) (e : Ending) (w' : World) : Prop := e = .returned v ∧ ReadsF g r w w'
theorem RdF.lt {w : World} {g : Nat} {r : Rs} (h : RdF w g r) : g < w.heap.size := by obtain ⟨_, _, h, _⟩ := h; exact h.lt
theorem RdF.touch {w w' : World} {g : Nat} {r : Rs} {F : Nat → Prop} (h : RdF w g r) (ht : Touch F w w') (hn : ¬ F g) : RdF w' g r := by
  obtain ⟨S, a, h, k⟩ := h
  exact ⟨S, a, h.touch ht hn, k⟩
theorem RdF.stays {w w' : World} {g : Nat} {r : Rs} (h : RdF w g r) (hb : Below w.heap.size w w') : RdF w' g r := h.touch (Touch.of_below hb (fun _ => False)) (fun h => h)
theorem ReadsF.refl {w : World} {g : Nat} {r : Rs} (h : RdF w g r) : ReadsF g r w w := ⟨h, Touch.refl _ _⟩
theorem ReadsF.trans {a b c : World} {g : Nat} {r r' : Rs} (h : ReadsF g r a b) (k : ReadsF g r' b c) : ReadsF g r' a c := ⟨k.1, h.2.then_ k.2⟩
theorem ReadsF.behind {a b c : World} {g : Nat} {r : Rs} (h : Below a.heap.size a b) (k : ReadsF g r b c) : ReadsF g r a c := ⟨k.1, (Touch.of_below h _).then_ k.2⟩
theorem ReadsF.new {a b c : World} {g : Nat} {r : Rs} (h : ReadsF g r a b) (k : Below b.heap.size b c) : ReadsF g r a c := ⟨h.1.stays k, h.2.then_ (Touch.of_below k _)⟩
theorem ReadsF.keeps {a b : World} {g : Nat} {r : Rs} (h : ReadsF g r a b) {k : Nat} {T : TypeId} {cs : List Value} (hb : Blk a k T cs) (hk : k ≠ g) : Blk b k T cs := hb.touch h.2 hk
theorem ReadsF.below {a b : World} {g B : Nat} {r : Rs} (h : ReadsF g r a b) (hg : B ≤ g) (hB : B ≤ a.heap.size) : Below B a b := h.2.below (fun k _ hk => by subst hk; exact hg) hB
theorem ReadsF.lay {w wx : World} {g b : Nat} {r : Rs} {T : TypeId} {old cs : List Value} (h : ReadsF g r w wx) (hb : Blk wx b T old) (hl : old.length = cs.length) (hne : b ≠ g) (hB : w.heap.size ≤ b) : ReadsF g r w (wx.setCells b 0 cs) ∧ Blk (wx.setCells b 0 cs) b T cs :=
  ⟨⟨h.1.touch (Touch.setCells (F := fun k => k = b) (.inl rfl) cs 0 wx (Touch.refl _ _)) (fun hh => hne hh.symm), Touch.setCells (.inr hB) cs 0 wx h.2⟩, hb.whole hl⟩
theorem ReadsF.err {wx : World} {g : Nat} {r : Rs} (h : RdF wx g r) : wx.cell? ⟨g, 2, none⟩ = some (.int .i64 r.e) := by
  obtain ⟨S, a, h, _⟩ := h
  rw [h.cell]; rfl

theorem beVal_take_le {l : List UInt8} {i k : Nat} (h : i ≤ k) : beVal (l.take i) ≤ beVal (l.take k) := by
  induction k with
  | zero => obtain rfl : i = 0 := by omega
            exact Nat.le_refl _
  | succ k ih =>
    rcases Nat.lt_or_ge i (k + 1) with hlt | hge
    · refine Nat.le_trans (ih (by omega)) ?_
      rcases Nat.lt_or_ge k l.length with hk | hk
      · rw [List.take_succ_eq_append_getElem hk, beVal_snoc]; omega
      · rw [List.take_of_length_le hk, List.take_of_length_le (by omega)]; exact Nat.le_refl _
    · obtain rfl : i = k + 1 := by omega
      exact Nat.le_refl _
theorem beVal_top {b : UInt8} {l : List UInt8} (h : l.length = 7) : 9223372036854775808 ≤ beVal (b :: l) ↔ 127 < b.toNat := by
  have := beVal_lt l
  rw [h] at this
  simp only [beVal, h]
  omega
theorem drop_get {S : List UInt8} {a k : Nat} (h : a + k < S.length) : (S.drop a)[k]? = some (S[a + k]'h) := by
  rw [List.getElem?_drop]; exact List.getElem?_eq_getElem h

set_option maxRecDepth 20000 in
set_option maxHeartbeats 1600000 in
theorem refU_err (g k : Nat) (r : Rs) (w : World) (hR : RdF w g r) (he : r.e ≠ 0) :
    Calls Tryd.prog 65 #[.pointer (some ⟨g, 0, none⟩), .int .i64 k] w fun e w' => e = .returned (.int .i64 0) ∧ w = w' := by
  have hc := ReadsF.err hR
  have he' : (r.e != 0) = true := by simpa using he
  clear he hR
  go_enter Tryd.func65, Tryd.ntmps65
  go_wp2
  go_ret
  exact ⟨rfl, rfl⟩

set_option maxRecDepth 20000 in
set_option maxHeartbeats 1600000 in
theorem refU_short (g k : Nat) (s : List UInt8) (w : World) (hR : RdF w g ⟨s, 0⟩) (_hk : k ≤ 8) (hs : s.length < k) :
    Calls Tryd.prog 65 #[.pointer (some ⟨g, 0, none⟩), .int .i64 k] w (GaveF g (Rs.fail 10) (.int .i64 0) w) := by
  obtain ⟨S, a, hB, ha, hS, h0, -⟩ := hR
  have h0 := h0 rfl
  simp only at h0
  subst h0
  simp only [List.length_drop] at hs
  have hc := hB.cell
  have hf := hB.frozen
  have hsz := bs_size S
  have hw1 : IntKind.i64.wrap ((S.length : Int) - (a : Int)) = (S.length : Int) - a := IntWalk.i64_in _ (by omega)
  have HB := Lib.hid hB
  clear hB
  go_enter Tryd.func65, Tryd.ntmps65
  go_wp2
  go_quiet (fail)
  go_wp2
  go_ret
  exact ⟨rfl, ⟨S, a, (HB.out.drewN nq).set_ 2 (.int .i64 10), ha, hS, (fun h => by cases h), fun _ => rfl⟩, ((Touch.refl (fun k => k = g) w).drewN nq).setCell_ (g := g) (o := 2) (.inl rfl) (.int .i64 10)⟩

set_option maxRecDepth 20000 in
set_option maxHeartbeats 1600000 in
theorem refU_range (g : Nat) (s : List UInt8) (w : World) (hR : RdF w g ⟨s, 0⟩) (hs : 8 ≤ s.length) (hv : 9223372036854775808 ≤ beVal (s.take 8)) :
    Calls Tryd.prog 65 #[.pointer (some ⟨g, 0, none⟩), .int .i64 8] w (GaveF g (Rs.fail 3) (.int .i64 0) w) := by
  obtain ⟨S, a, hB, ha, hS, h0, -⟩ := hR
  have h0 := h0 rfl
  simp only at h0
  subst h0
  simp only [List.length_drop] at hs
  have hc := hB.cell
  have hf := hB.frozen
  have hsz := bs_size S
  have hw1 : IntKind.i64.wrap ((S.length : Int) - (a : Int)) = (S.length : Int) - a := IntWalk.i64_in _ (by omega)
  have hal : a < S.length := by omega
  have htop : 127 < ((S[a]'hal).toNat : Int) := by
    rw [List.drop_eq_getElem_cons hal, List.take_succ_cons] at hv
    have := (beVal_top (by simp; omega)).1 hv
    omega
  have HB := Lib.hid hB
  clear hB hv
  go_enter Tryd.func65, Tryd.ntmps65
  go_wp2
  go_quiet (fail)
  go_wp2
  go_quiet (fail)
  go_wp2
  go_ret
  exact ⟨rfl, ⟨S, a, (HB.out.drewN _).set_ 2 (.int .i64 3), ha, hS, (fun h => by cases h), fun _ => rfl⟩, ((Touch.refl (fun k => k = g) w).drewN _).setCell_ (g := g) (o := 2) (.inl rfl) (.int .i64 3)⟩

set_option maxRecDepth 20000 in
set_option maxHeartbeats 3200000 in
theorem refU_ok (g k : Nat) (s : List UInt8) (w : World) (hR : RdF w g ⟨s, 0⟩) (hk : k = 4 ∨ k = 8) (hs : k ≤ s.length) (hv : beVal (s.take k) < 9223372036854775808) :
    Calls Tryd.prog 65 #[.pointer (some ⟨g, 0, none⟩), .int .i64 k] w (GaveF g ⟨s.drop k, 0⟩ (.int .i64 (beVal (s.take k))) w) := by
  obtain ⟨S, a, hB, ha, hS, h0, -⟩ := hR
  have h0 := h0 rfl
  simp only at h0
  subst h0
  simp only [List.length_drop] at hs
  have hc := hB.cell
  have hf := hB.frozen
  have hsz := bs_size S
  have hw1 : IntKind.i64.wrap ((S.length : Int) - (a : Int)) = (S.length : Int) - a := IntWalk.i64_in _ (by omega)
  have hw2 : IntKind.i64.wrap ((a : Int) + (k : Int)) = ((a + k : Nat) : Int) := by rw [IntWalk.i64_in _ (by omega)]; omega
  have hal : a < S.length := by omega
  have htop : k = 8 → ¬ 127 < ((S[a]'hal).toNat : Int) := fun h8 => by
    subst h8
    rw [List.drop_eq_getElem_cons hal, List.take_succ_cons] at hv
    have := (beVal_top (b := S[a]'hal) (l := (S.drop (a + 1)).take 7) (by simp; omega))
    omega
  have HB := Lib.hid hB
  have HV := Lib.hid hv
  have HT := Lib.hid htop
  clear hB hv htop
  rcases hk with rfl | rfl
  · go_enter Tryd.func65, Tryd.ntmps65
    go_wp2
    go_quiet (fail)
    go_wp2
    go_quiet (fail)
    go_wp2
    go_loopw [5, 6] (fun n i wr => ∃ j : Nat, j ≤ 4 ∧ i = .int .i64 j ∧ n = .int .i64 (beVal ((S.drop a).take j)) ∧ Blk wr g 105 [.string (bs S), .int .i64 a, .int .i64 0] ∧ Touch (fun k => k = g) w wr) (fun _ i _ => 4 - (intOf i).toNat)
    case atStart => exact ⟨0, by omega, rfl, rfl, (HB.out.drewN _).drewN _, ((Touch.refl _ w).drewN _).drewN _⟩
    case round =>
      obtain ⟨j, hj, rfl, rfl, hB, hT⟩ := hrel
      have hc := hB.cell
      have hf := hB.frozen
      by_cases hlt : j < 4
      · have hja : a + j < S.length := by omega
        have hjd : j < (S.drop a).length := by simp; omega
        have HS := Lib.hid (show beVal ((S.drop a).take (j + 1)) = beVal ((S.drop a).take j) * 256 + (S[a + j]'hja).toNat by rw [List.take_succ_eq_append_getElem hjd, beVal_snoc]; simp)
        have hle := beVal_take_le (l := S.drop a) (i := j + 1) (k := 4) (by omega)
        have hmax : 256 * beVal ((S.drop a).take j) + (S[a + j]'hja).toNat < 9223372036854775808 := by have := HV.out; have := HS.out; omega
        generalize beVal ((S.drop a).take j) = v at *
        have hcb : (S[a + j]'hja).toNat < 256 := (S[a + j]'hja).toNat_lt
        have e1 : IntKind.i64.wrap ((a : Int) + (j : Int)) = (a : Int) + (j : Int) := IntWalk.i64_in _ (by omega)
        have e5 : (0 : Int) ≤ (a : Int) + (j : Int) := by omega
        have e6 : ((a : Int) + (j : Int)).toNat = a + j := by omega
        have e7 : (a : Int) + (j : Int) < (S.length : Int) := by omega
        have e2 : IntKind.i64.wrap (256 * (v : Int)) = 256 * (v : Int) := IntWalk.i64_in _ (by omega)
        have e4 : IntKind.i64.wrap ((S[a + j]'hja).toNat : Int) = ((S[a + j]'hja).toNat : Int) := IntWalk.i64_in _ (by omega)
        have e3 : IntKind.i64.wrap (256 * (v : Int) + ((S[a + j]'hja).toNat : Int)) = 256 * (v : Int) + ((S[a + j]'hja).toNat : Int) := IntWalk.i64_in _ (by omega)
        clear hle hmax hjd
        go_wp2
        go_quiet (fail)
        clear e1 e2 e3 e4
        go_wp2
        go_roundw
        case rel => exact ⟨j + 1, by omega, by go_num, by rw [HS.out]; exact congrArg (Value.int .i64) (by omega), hB.drewN _, hT.drewN _⟩
        case measure => simp [intOf]; omega
      · obtain rfl : j = 4 := by omega
        go_wp2
        go_ret
        refine ⟨rfl, ⟨S, a + 4, hB.set_ 1 (.int .i64 ((a + 4 : Nat) : Int)), by omega, hS, (fun _ => by simp), fun h => absurd rfl h⟩, hT.setCell_ (g := g) (o := 1) (.inl rfl) (.int .i64 ((a + 4 : Nat) : Int))⟩
  · have ht := HT.out rfl
    have ht' : ((S[a]'hal).toNat : Int) ≤ 127 := by omega
    have hd : decide (127 < ((S[a]'hal).toNat : Int)) = false := by simpa using ht
    go_enter Tryd.func65, Tryd.ntmps65
    go_wp2
    go_quiet (fail)
    go_wp2
    go_quiet (fail)
    go_wp2
    go_loopw [5, 6] (fun n i wr => ∃ j : Nat, j ≤ 8 ∧ i = .int .i64 j ∧ n = .int .i64 (beVal ((S.drop a).take j)) ∧ Blk wr g 105 [.string (bs S), .int .i64 a, .int .i64 0] ∧ Touch (fun k => k = g) w wr) (fun _ i _ => 8 - (intOf i).toNat)
    case atStart => exact ⟨0, by omega, rfl, rfl, (HB.out.drewN _).drewN _, ((Touch.refl _ w).drewN _).drewN _⟩
    case round =>
      obtain ⟨j, hj, rfl, rfl, hB, hT⟩ := hrel
      have hc := hB.cell
      have hf := hB.frozen
      by_cases hlt : j < 8
      · have hja : a + j < S.length := by omega
        have hjd : j < (S.drop a).length := by simp; omega
        have HS := Lib.hid (show beVal ((S.drop a).take (j + 1)) = beVal ((S.drop a).take j) * 256 + (S[a + j]'hja).toNat by rw [List.take_succ_eq_append_getElem hjd, beVal_snoc]; simp)
        have hle := beVal_take_le (l := S.drop a) (i := j + 1) (k := 8) (by omega)
        have hmax : 256 * beVal ((S.drop a).take j) + (S[a + j]'hja).toNat < 9223372036854775808 := by have := HV.out; have := HS.out; omega
        generalize beVal ((S.drop a).take j) = v at *
        have hcb : (S[a + j]'hja).toNat < 256 := (S[a + j]'hja).toNat_lt
        have e1 : IntKind.i64.wrap ((a : Int) + (j : Int)) = (a : Int) + (j : Int) := IntWalk.i64_in _ (by omega)
        have e5 : (0 : Int) ≤ (a : Int) + (j : Int) := by omega
        have e6 : ((a : Int) + (j : Int)).toNat = a + j := by omega
        have e7 : (a : Int) + (j : Int) < (S.length : Int) := by omega
        have e2 : IntKind.i64.wrap (256 * (v : Int)) = 256 * (v : Int) := IntWalk.i64_in _ (by omega)
        have e4 : IntKind.i64.wrap ((S[a + j]'hja).toNat : Int) = ((S[a + j]'hja).toNat : Int) := IntWalk.i64_in _ (by omega)
        have e3 : IntKind.i64.wrap (256 * (v : Int) + ((S[a + j]'hja).toNat : Int)) = 256 * (v : Int) + ((S[a + j]'hja).toNat : Int) := IntWalk.i64_in _ (by omega)
        clear hle hmax hjd
        go_wp2
        go_quiet (fail)
        clear e1 e2 e3 e4
        go_wp2
        go_roundw
        case rel => exact ⟨j + 1, by omega, by go_num, by rw [HS.out]; exact congrArg (Value.int .i64) (by omega), hB.drewN _, hT.drewN _⟩
        case measure => simp [intOf]; omega
      · obtain rfl : j = 8 := by omega
        go_wp2
        go_ret
        refine ⟨rfl, ⟨S, a + 8, hB.set_ 1 (.int .i64 ((a + 8 : Nat) : Int)), by omega, hS, (fun _ => by simp), fun h => absurd rfl h⟩, hT.setCell_ (g := g) (o := 1) (.inl rfl) (.int .i64 ((a + 8 : Nat) : Int))⟩

/-- numbers of 32 and of 64 bits -/
theorem refU4_any (g : Nat) (r : Rs) (w : World) (hR : RdF w g r) : Calls Tryd.prog 65 #[.pointer (some ⟨g, 0, none⟩), .int .i64 4] w (GaveF g (rU32 r).2 (.int .i64 (rU32 r).1) w) := by
  unfold rU32
  by_cases he : r.e = 0
  · obtain ⟨s, e⟩ := r
    simp only at he
    subst he
    by_cases hs : s.length < 4
    · have : rNum 4 ⟨s, 0⟩ = (0, Rs.fail 10) := by simp [rNum, hs]
      rw [this]
      exact refU_short g 4 s w hR (by omega) hs
    · have : rNum 4 ⟨s, 0⟩ = (beVal (s.take 4), ⟨s.drop 4, 0⟩) := by simp [rNum, hs]
      rw [this]
      have hb := beVal_lt (s.take 4)
      rw [List.length_take, Nat.min_eq_left (by omega)] at hb
      exact refU_ok g 4 s w hR (.inl rfl) (by omega) (by omega)
  · have : rNum 4 r = (0, r) := by simp [rNum, he]
    rw [this]
    exact (refU_err g 4 r w hR he).mono fun e w' ⟨h1, h2⟩ => ⟨h1, by subst h2; exact ReadsF.refl hR⟩
theorem refU8_any (g : Nat) (r : Rs) (w : World) (hR : RdF w g r) : Calls Tryd.prog 65 #[.pointer (some ⟨g, 0, none⟩), .int .i64 8] w (GaveF g (rU64 r).2 (.int .i64 (rU64 r).1) w) := by
  by_cases he : r.e = 0
  · obtain ⟨s, e⟩ := r
    simp only at he
    subst he
    by_cases hs : s.length < 8
    · have : rU64 ⟨s, 0⟩ = (0, Rs.fail 10) := by simp [rU64, rNum, hs]
      rw [this]
      exact refU_short g 8 s w hR (by omega) hs
    · have h8 : rNum 8 ⟨s, 0⟩ = (beVal (s.take 8), ⟨s.drop 8, 0⟩) := by simp [rNum, hs]
      by_cases hv : 9223372036854775808 ≤ beVal (s.take 8)
      · have : rU64 ⟨s, 0⟩ = (0, Rs.fail 3) := by simp [rU64, h8, hv]
        rw [this]
        exact refU_range g s w hR (by omega) hv
      · have : rU64 ⟨s, 0⟩ = (beVal (s.take 8), ⟨s.drop 8, 0⟩) := by simp [rU64, h8, hv]
        rw [this]
        exact refU_ok g 8 s w hR (.inr rfl) (by omega) (by omega)
  · have : rU64 r = (0, r) := by simp [rU64, rNum, he]
    rw [this]
    exact (refU_err g 8 r w hR he).mono fun e w' ⟨h1, h2⟩ => ⟨h1, by subst h2; exact ReadsF.refl hR⟩

/-- the reference notes an error -/
theorem RdF.fail {w wx : World} {g : Nat} {r r' : Rs} (h : ReadsF g r w wx) (n : Int) (hn : n ≠ 0) (hr : r' = Rs.fail n) : ReadsF g r' w (wx.setCell ⟨g, 2, none⟩ (.int .i64 n)) := by
  subst hr
  obtain ⟨⟨S, a, hB, ha, hS, -, -⟩, hT⟩ := h
  exact ⟨⟨S, a, hB.set_ 2 (.int .i64 n), ha, hS, (fun h => absurd h hn), fun _ => rfl⟩, hT.setCell_ (.inl rfl) _⟩
theorem rU32_e {r : Rs} (h : (rU32 r).2.e ≠ 0) : (rU32 r).1 = 0 := by
  unfold rU32 rNum at *
  split at h <;> rename_i h1
  · simp [h1]
  · split at h <;> rename_i h2
    · simp [h1, h2]
    · exact absurd rfl h

set_option maxHeartbeats 1600000 in
theorem refTruthR_any (g : Nat) (r : Rs) (w : World) (hR : RdF w g r) : Calls Tryd.prog 119 #[.pointer (some ⟨g, 0, none⟩)] w (GaveF g (rBool r).2 (.bool (rBool r).1) w) := by
  by_cases hb : 1 < (rU32 r).1
  · have HN := Lib.hid (show rBool r = (false, Rs.fail 13) by simp [rBool, hb])
    have he : (rU32 r).2.e = 0 := Classical.byContradiction fun h => by have := rU32_e h; omega
    go_enter Tryd.func119, Tryd.ntmps119
    go_wp2_with fail
    refine (refU4_any g r _ hR).mono ?_
    rintro e w1 ⟨rfl, hQ⟩
    have hc : w1.cell? ⟨g, 2, none⟩ = some (.int .i64 0) := by have := ReadsF.err hQ.1; rw [he] at this; exact this
    have hf : w1.frozen? ⟨g, 2, none⟩ = false := by obtain ⟨_, _, h, _⟩ := hQ.1; exact h.frozen 2
    have HQ := Lib.hid (RdF.fail hQ 13 (by decide) (r' := Rs.fail 13) rfl)
    clear hQ he
    go_wp2
    go_ret
    rw [HN.out]
    exact ⟨rfl, HQ.out⟩
  · have HN := Lib.hid (show rBool r = ((rU32 r).1 == 1, (rU32 r).2) by simp [rBool, hb])
    go_enter Tryd.func119, Tryd.ntmps119
    go_wp2_with fail
    refine (refU4_any g r _ hR).mono ?_
    rintro e w1 ⟨rfl, hQ⟩
    have hc := ReadsF.err hQ.1
    go_wp2
    all_goals
      go_ret
      rw [HN.out]
      refine ⟨ret_bool ?_, hQ⟩
      go_light
      grind
end Go.Proofs.YthfhdighniiodaaDoor
