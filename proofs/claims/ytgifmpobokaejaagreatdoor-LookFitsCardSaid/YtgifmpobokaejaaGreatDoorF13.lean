/-
  Layer 5, walks: whether attributes, or none, and what was ahead and behind, may be. No condition.
-/
import Derived.Test.YtgifmpobokaejaaGreatDoorF11
import Derived.Test.YtgifmpobokaejaaGreatDoorF12
import Derived.Test.YtgifmpobokaejaaGreatDoorF04
import Derived.Test.YtgifmpobokaejaaGreatDoorF03
namespace Go.Proofs.YtgifmpobokaejaaGreatDoor
open Go.RowKit
attribute [local go_sem ↓] Go.wp_at_zero Go.wp_at_succ
attribute [local go_sem] rowAt_ptr rowOf_drew rowOf_drewN rowOf_alloc_past rowOf_new
theorem ldPost {ρ : Operand → Value} {w : World} {dst : Option Tmp} {ty : TypeId} {pos : String} {after : Array Edge} {g : Option (Nat × Bool)} {x : Operand} (h : (rowAt w 11 (ρ x)).isSome = true) :
    (execOp ρ ⟨dst, .load 42 x, ty, pos, after, g⟩).run Tryz.prog w = .ok (.value (.agg ((rowAt w 11 (ρ x)).getD #[]))) w := ex_load 42 11 Tryz.underlying42 rfl (by kernel_rfl) h
theorem ldWcc {ρ : Operand → Value} {w : World} {dst : Option Tmp} {ty : TypeId} {pos : String} {after : Array Edge} {g : Option (Nat × Bool)} {x : Operand} (h : (rowAt w 13 (ρ x)).isSome = true) :
    (execOp ρ ⟨dst, .load 44 x, ty, pos, after, g⟩).run Tryz.prog w = .ok (.value (.agg ((rowAt w 13 (ρ x)).getD #[]))) w := ex_load 44 13 Tryz.underlying44 rfl (by kernel_rfl) h
attribute [local go_sem ↓] ldAttrR ldOpt ldSet ldPost ldWcc

attribute [local go_sem] Attr.at0 Attr.lat0 Attr.at1 Attr.lat1 Attr.at2 Attr.lat2 Attr.at3 Attr.lat3 Attr.at4 Attr.lat4 Attr.at5 Attr.lat5 Attr.at6 Attr.lat6 Attr.at7 Attr.lat7 Attr.at8 Attr.lat8 Attr.at9 Attr.lat9 Attr.sub0_10 Attr.lsub0_10 Attr.len Opt.at0 Opt.lat0 Opt.at1 Opt.lat1 Opt.sub0_2 Opt.lsub0_2 Opt.len Sett.at0 Sett.lat0 Sett.at1 Sett.lat1 Sett.at2 Sett.lat2 Sett.at3 Sett.lat3 Sett.at4 Sett.lat4 Sett.at5 Sett.lat5 Sett.at6 Sett.lat6 Sett.at7 Sett.lat7 Sett.at8 Sett.lat8 Sett.at9 Sett.lat9 Sett.sub0_10 Sett.lsub0_10 Sett.sub0_2 Sett.lsub0_2 Sett.sub2_2 Sett.lsub2_2 Sett.sub4_2 Sett.lsub4_2 Sett.sub6_2 Sett.lsub6_2 Sett.sub8_2 Sett.lsub8_2 Sett.len Post.at0 Post.lat0 Post.at1 Post.lat1 Post.at2 Post.lat2 Post.at3 Post.lat3 Post.at4 Post.lat4 Post.at5 Post.lat5 Post.at6 Post.lat6 Post.at7 Post.lat7 Post.at8 Post.lat8 Post.at9 Post.lat9 Post.at10 Post.lat10 Post.sub0_11 Post.lsub0_11 Post.sub1_10 Post.lsub1_10 Post.len Wcc.at0 Wcc.lat0 Wcc.at1 Wcc.lat1 Wcc.at2 Wcc.lat2 Wcc.at3 Wcc.lat3 Wcc.at4 Wcc.lat4 Wcc.at5 Wcc.lat5 Wcc.at6 Wcc.lat6 Wcc.at7 Wcc.lat7 Wcc.at8 Wcc.lat8 Wcc.at9 Wcc.lat9 Wcc.at10 Wcc.lat10 Wcc.at11 Wcc.lat11 Wcc.at12 Wcc.lat12 Wcc.sub0_13 Wcc.lsub0_13 Wcc.sub0_2 Wcc.lsub0_2 Wcc.sub2_11 Wcc.lsub2_11 Wcc.sub3_10 Wcc.lsub3_10 Wcc.len

def limits (a : Attr) : List (Int × Int) := [(a.type, 7), (a.mode, 4095), (a.nlink, 4294967295), (a.uid, 4294967295), (a.gid, 4294967295), (a.id, 4294967295), (a.size, 9223372036854775807), (a.gen, 9223372036854775807), (a.change, 9223372036854775807), (a.time, 9223372036854775807)]
theorem limits_ok (a : Attr) (hg : a.good) (h1 : 1 ≤ a.type) : (limits a).all inLim = a.ok := by
  obtain ⟨-, -, -, -, -, g5, -, g7, g8, g9⟩ := hg
  have g5 := (Go.bounds_i64 g5).2
  have g7 := (Go.bounds_i64 g7).2
  have g8 := (Go.bounds_i64 g8).2
  have g9 := (Go.bounds_i64 g9).2
  simp [limits, inLim, okN, Attr.ok]
  grind
theorem free5_any (n : Int) (w : World) : Calls Tryz.prog 119 #[.int .i64 n] w fun e w' => e = .returned (.agg #[.int .i64 n, .int .i64 9223372036854775807]) ∧ Below w.heap.size w w' := by
  go_enter Tryz.func119, Tryz.ntmps119
  go_wp2
  exact ret_cells w.heap.size 0 (limV (n, 9223372036854775807)) Tryz.results119 Tryz.underlying142 rfl (by kernel_rfl) rfl (range_new _ _ _) rfl ⟨rfl, (Below.refl _ _).alloc (Nat.le_refl _) _⟩

set_option maxRecDepth 20000 in
set_option maxHeartbeats 1000000 in
theorem check5_any (a : Attr) (w : World) (hg : a.good) : Calls Tryz.prog 94 #[.agg a.vals.toArray] w fun e w' => e = .returned (.int .i64 (form a.ok)) ∧ Below w.heap.size w w' := by
  have hB0 : Below w.heap.size w (w.alloc (.cells a.vals.toArray 40)) := (Below.refl _ _).alloc (Nat.le_refl _) _
  have hz : w.heap.size < (w.alloc (.cells a.vals.toArray 40)).heap.size := by simp
  by_cases h1 : a.type < 1
  · have HS := Lib.hid (show a.ok = false by simp [Attr.ok]; omega)
    have hd : decide (a.type < 1) = true := by simpa using h1
    go_enter Tryz.func94, Tryz.ntmps94
    go_wp2
    go_quiet (fail)
    go_wp2
    go_ret
    exact ⟨ret_int (by rw [HS.out]; rfl), hB0.trans (bdN (Below.refl _ _) _)⟩
  · have hd : decide (a.type < 1) = false := by simpa using h1
    have HL := Lib.hid (limits_ok a hg (by omega))
    have c0 := (Blk.new w 40 a.vals).cell
    go_enter Tryz.func94, Tryz.ntmps94
    go_wp2
    generalize w.alloc (.cells a.vals.toArray 40) = w1 at *
    go_region_held3 (fun W => Stb w1 W) (first | exact Stb.start | assumption | (exact Stb.alloc (by assumption) _) | (exact Stb.call (by assumption) (by assumption))) (first
      | (go_at_call 119; refine (free5_any _ _).mono ?_; rintro e w2 ⟨rfl, hb⟩)
      | (go_at_call 118; refine (within_any (some ⟨_, 0, none⟩) 10 (limits a) _ (show (10 : Nat) ≤ 1000000 by omega) (by exact At.fresh _ _ _ _ ((limits a).map limV) (by simp [limits, limV]) rfl)).mono ?_; rintro e w3 ⟨rfl, hb⟩))
    have hs := (by assumption : Stb w1 w3)
    have HB := Lib.hid (below_then hB0 hs.below)
    rw [HL.out]
    clear hs
    cases ho : a.ok
    all_goals
      have HO := Lib.hid ho
      clear ho
      go_wp2
      go_ret
      exact ⟨ret_int (by rw [HO.out]; rfl), HB.out⟩
end Go.Proofs.YtgifmpobokaejaaGreatDoor

/-
  Layer 5, walks: whether attributes, or none, and what was ahead and behind, may be, by the program and by the reference. No condition but machine numbers.
-/
namespace Go.Proofs.YtgifmpobokaejaaGreatDoor
open Go.RowKit
attribute [local go_sem ↓] Go.wp_at_zero Go.wp_at_succ
attribute [local go_sem] rowAt_ptr rowOf_drew rowOf_drewN rowOf_alloc_past rowOf_new
attribute [local go_sem ↓] ldAttrR ldOpt ldSet ldPost ldWcc

attribute [local go_sem] Attr.at0 Attr.lat0 Attr.at1 Attr.lat1 Attr.at2 Attr.lat2 Attr.at3 Attr.lat3 Attr.at4 Attr.lat4 Attr.at5 Attr.lat5 Attr.at6 Attr.lat6 Attr.at7 Attr.lat7 Attr.at8 Attr.lat8 Attr.at9 Attr.lat9 Attr.sub0_10 Attr.lsub0_10 Attr.len Opt.at0 Opt.lat0 Opt.at1 Opt.lat1 Opt.sub0_2 Opt.lsub0_2 Opt.len Sett.at0 Sett.lat0 Sett.at1 Sett.lat1 Sett.at2 Sett.lat2 Sett.at3 Sett.lat3 Sett.at4 Sett.lat4 Sett.at5 Sett.lat5 Sett.at6 Sett.lat6 Sett.at7 Sett.lat7 Sett.at8 Sett.lat8 Sett.at9 Sett.lat9 Sett.sub0_10 Sett.lsub0_10 Sett.sub0_2 Sett.lsub0_2 Sett.sub2_2 Sett.lsub2_2 Sett.sub4_2 Sett.lsub4_2 Sett.sub6_2 Sett.lsub6_2 Sett.sub8_2 Sett.lsub8_2 Sett.len Post.at0 Post.lat0 Post.at1 Post.lat1 Post.at2 Post.lat2 Post.at3 Post.lat3 Post.at4 Post.lat4 Post.at5 Post.lat5 Post.at6 Post.lat6 Post.at7 Post.lat7 Post.at8 Post.lat8 Post.at9 Post.lat9 Post.at10 Post.lat10 Post.sub0_11 Post.lsub0_11 Post.sub1_10 Post.lsub1_10 Post.len Wcc.at0 Wcc.lat0 Wcc.at1 Wcc.lat1 Wcc.at2 Wcc.lat2 Wcc.at3 Wcc.lat3 Wcc.at4 Wcc.lat4 Wcc.at5 Wcc.lat5 Wcc.at6 Wcc.lat6 Wcc.at7 Wcc.lat7 Wcc.at8 Wcc.lat8 Wcc.at9 Wcc.lat9 Wcc.at10 Wcc.lat10 Wcc.at11 Wcc.lat11 Wcc.at12 Wcc.lat12 Wcc.sub0_13 Wcc.lsub0_13 Wcc.sub0_2 Wcc.lsub0_2 Wcc.sub2_11 Wcc.lsub2_11 Wcc.sub3_10 Wcc.lsub3_10 Wcc.len

def attrZ : Attr := ⟨0, 0, 0, 0, 0, 0, 0, 0, 0, 0⟩
theorem guardAttrR : Tryz.prog.eqGuardType Tryz.prog.depth 40 = false := by kernel_rfl
theorem leafsAttrR : leafs Tryz.prog 8 40 = some (List.replicate 10 (.i .i64)) := by kernel_rfl
theorem fitsAttrR (a : Attr) : fits (List.replicate 10 (.i .i64)) a.vals = true := by rfl
theorem valsAttr {a b : Attr} (h : a.vals = b.vals) : a = b := by
  cases a; cases b; simp_all [Attr.vals]
theorem eqAttrZ (a : Attr) (w : World) : (binOp .eql 40 (.agg a.vals.toArray) (.agg #[.int .i64 0, .int .i64 0, .int .i64 0, .int .i64 0, .int .i64 0, .int .i64 0, .int .i64 0, .int .i64 0, .int .i64 0, .int .i64 0])).run Tryz.prog w = .ok (.bool (decide (a = attrZ))) w := by
  show (binOp .eql 40 (.agg a.vals.toArray) (.agg attrZ.vals.toArray)).run Tryz.prog w = _
  by_cases h : a = attrZ
  · subst h
    rw [eql_same leafsAttrR (by kernel_rfl) w _ _ (fitsAttrR attrZ) rfl]
    simp
  · rw [eql_other leafsAttrR (by kernel_rfl) w _ _ (fitsAttrR a) (fitsAttrR attrZ) fun hh => h (valsAttr hh)]
    simp [h]
attribute [local go_sem ↓] eqAttrZ

attribute [local go_sem] guardAttrR

def Post.ok (p : Post) : Bool := if p.is then p.attr.ok else decide (p.attr = attrZ)
def Wcc.ok (c : Wcc) : Bool := c.before.ok 9223372036854775807 && c.after.ok

set_option maxRecDepth 20000 in
set_option maxHeartbeats 1600000 in
theorem refCheck5_any (a : Attr) (w : World) : Calls Tryz.prog 28 #[.agg a.vals.toArray] w fun e w' => e = .returned (.bool a.ok) ∧ Below w.heap.size w w' := by
  have hB0 : Below w.heap.size w (w.alloc (.cells a.vals.toArray 40)) := (Below.refl _ _).alloc (Nat.le_refl _) _
  go_enter Tryz.func28, Tryz.ntmps28
  go_wp2_with (first | (go_at_call 65; refine (refIn_any _ _ _).mono ?_; rintro e w' ⟨rfl, rfl⟩) | fail)
  all_goals
    go_ret
    refine ⟨ret_bool ?_, hB0⟩
    go_light
    grind [Attr.ok, okN]

set_option maxHeartbeats 1600000 in
theorem refPost5_any (p : Post) (w : World) : Calls Tryz.prog 47 #[.agg p.vals.toArray] w fun e w' => e = .returned (.bool p.ok) ∧ Below w.heap.size w w' := by
  have hB0 : Below w.heap.size w (w.alloc (.cells p.vals.toArray 42)) := (Below.refl _ _).alloc (Nat.le_refl _) _
  cases hi : p.is
  · have HS := Lib.hid (show p.ok = decide (p.attr = attrZ) by simp [Post.ok, hi])
    go_enter Tryz.func47, Tryz.ntmps47
    go_wp2
    go_ret
    exact ⟨ret_bool HS.out.symm, hB0⟩
  · have HS := Lib.hid (show p.ok = p.attr.ok by simp [Post.ok, hi])
    go_enter Tryz.func47, Tryz.ntmps47
    go_wp2_with fail
    refine (refCheck5_any p.attr _).mono ?_
    rintro e w1 ⟨rfl, hb⟩
    have HB := Lib.hid (below_then hB0 hb)
    clear hb hB0
    go_wp2
    go_ret
    exact ⟨ret_bool HS.out.symm, HB.out⟩

set_option maxHeartbeats 1600000 in
theorem refWcc5_any (c : Wcc) (w : World) : Calls Tryz.prog 48 #[.agg c.vals.toArray] w fun e w' => e = .returned (.bool c.ok) ∧ Below w.heap.size w w' := by
  have hB0 : Below w.heap.size w (w.alloc (.cells c.vals.toArray 44)) := (Below.refl _ _).alloc (Nat.le_refl _) _
  have hz : w.heap.size < (w.alloc (.cells c.vals.toArray 44)).heap.size := by simp
  go_enter Tryz.func48, Tryz.ntmps48
  go_wp2_with fail
  refine (refOption_any c.before 9223372036854775807 _).mono ?_
  rintro e w1 ⟨rfl, hb⟩
  have hs := Stb.of hb
  have hB1 := below_then hB0 hb
  clear hb
  cases hk : c.before.ok 9223372036854775807
  · have HS := Lib.hid (show c.ok = false by simp [Wcc.ok, hk])
    go_wp2
    go_ret
    exact ⟨ret_bool HS.out.symm, hB1⟩
  · have HS := Lib.hid (show c.ok = c.after.ok by simp [Wcc.ok, hk])
    clear hk
    go_wp2_with fail
    refine (refPost5_any c.after _).mono ?_
    rintro e w2 ⟨rfl, hb⟩
    have HB := Lib.hid (below_then hB1 hb)
    clear hb
    go_wp2
    go_ret
    exact ⟨ret_bool HS.out.symm, HB.out⟩

/-- what was read, or none -/
def gotR {α : Type} (ok : α → Bool) (none : α) (x : α × Rs) : α × Int := if x.2.e ≠ 0 then (none, x.2.e) else if ok x.1 then (x.1, 0) else (none, 14)
def postZ : Post := ⟨false, attrZ⟩
def rPost (r : Rs) : Post × Rs := if (rBool r).1 then (⟨true, (rAttr (rBool r).2).1⟩, (rAttr (rBool r).2).2) else (postZ, (rBool r).2)
theorem rPost_len {r : Rs} (h : r.s.length ≤ 9223372036854775807) : (rPost r).2.s.length ≤ r.s.length := by
  have h1 := rBool_len h
  unfold rPost
  split
  · have := rAttr_len (r := (rBool r).2) (by omega)
    simp only
    omega
  · exact h1
theorem setAt_post (a : Attr) : setAt (Post.vals ⟨true, attrZ⟩) 1 a.vals = Post.vals ⟨true, a⟩ := rfl
end Go.Proofs.YtgifmpobokaejaaGreatDoor


/-
  Layer 6, walks: who may do what, by both. No condition.
-/
namespace Go.Proofs.YtgifmpobokaejaaGreatDoor
open Go.RowKit
attribute [local go_sem ↓] Go.wp_at_zero Go.wp_at_succ
attribute [local go_sem] rowAt_ptr rowOf_drew rowOf_drewN rowOf_alloc_past rowOf_new
attribute [local go_sem] Attr.at0 Attr.lat0 Attr.at1 Attr.lat1 Attr.at2 Attr.lat2 Attr.at3 Attr.lat3 Attr.at4 Attr.lat4 Attr.at5 Attr.lat5 Attr.at6 Attr.lat6 Attr.at7 Attr.lat7 Attr.at8 Attr.lat8 Attr.at9 Attr.lat9 Attr.sub0_10 Attr.lsub0_10 Attr.len Cred.at0 Cred.lat0 Cred.at1 Cred.lat1 Cred.at2 Cred.lat2 Cred.at3 Cred.lat3 Cred.sub0_4 Cred.lsub0_4 Cred.len

def band6 (x y : Int) : Int := IntKind.i64.wrap ((BitVec.ofInt 64 x &&& BitVec.ofInt 64 y).toNat)
def bor6 (x y : Int) : Int := IntKind.i64.wrap ((BitVec.ofInt 64 x ||| BitVec.ofInt 64 y).toNat)
def bandn6 (x y : Int) : Int := IntKind.i64.wrap ((BitVec.ofInt 64 x &&& ~~~ BitVec.ofInt 64 y).toNat)
theorem run_band6 (x y : Int) : Op.intBits .and .i64 x y = pure (.int .i64 (band6 x y)) := rfl
theorem run_bor6 (x y : Int) : Op.intBits .or .i64 x y = pure (.int .i64 (bor6 x y)) := rfl
theorem run_bandn6 (x y : Int) : Op.intBits .andNot .i64 x y = pure (.int .i64 (bandn6 x y)) := rfl
theorem band6_seven (x : Int) : 0 ≤ band6 x 7 ∧ band6 x 7 ≤ 7 := by
  unfold band6
  have h : (BitVec.ofInt 64 x &&& BitVec.ofInt 64 7).toNat ≤ 7 := by
    rw [BitVec.toNat_and]
    exact Nat.and_le_right
  generalize (BitVec.ofInt 64 x &&& BitVec.ofInt 64 7).toNat = n at *
  rw [IntWalk.i64_in _ (by omega)]
  omega
/-- what somebody may do at a node -/
def bitsP (a : Attr) (uid gid : Int) : Int :=
  if uid = 0 then 7 else if uid = a.uid then band6 (a.mode / 64) 7 else if gid = a.gid then band6 (a.mode / 8) 7 else band6 a.mode 7
theorem bitsP_le (a : Attr) (uid gid : Int) : 0 ≤ bitsP a uid gid ∧ bitsP a uid gid ≤ 7 := by
  unfold bitsP
  split
  · omega
  · split
    · exact band6_seven _
    · split
      · exact band6_seven _
      · exact band6_seven _
/-- all of these bits -/
def mayB (b want : Int) : Bool := bandn6 (band6 want 7) b == 0
def mayR (b want : Int) : Bool := !((band6 want 1 != 0) && (band6 b 1 == 0)) && (!((band6 want 2 != 0) && (band6 b 2 == 0)) && !((band6 want 4 != 0) && (band6 b 4 == 0)))
theorem may_eq {b want : Int} (hb : 0 ≤ b ∧ b ≤ 7) (hw : want = 1 ∨ want = 2 ∨ want = 3 ∨ want = 4) : mayR b want = mayB b want := by
  obtain ⟨n, rfl⟩ : ∃ n : Nat, b = n := ⟨b.toNat, by omega⟩
  have hn : n < 8 := by omega
  have key : ∀ n : Fin 8, ∀ w ∈ [(1 : Int), 2, 3, 4], mayR (n : Nat) w = mayB (n : Nat) w := by decide
  exact key ⟨n, hn⟩ want (by rcases hw with rfl | rfl | rfl | rfl <;> simp)
section
attribute [local go_sem ↓] run_band6 run_bor6 run_bandn6

set_option maxRecDepth 20000 in
theorem bits6_any (a : Attr) (c : Cred) (w : World) : Calls Tryz.prog 141 #[.agg a.vals.toArray, .agg c.vals.toArray] w fun e w' => e = .returned (.int .i64 (bitsP a c.uid c.gid)) ∧ Below w.heap.size w w' := by
  have hB : Below w.heap.size w ((w.alloc (.cells a.vals.toArray 40)).alloc (.cells c.vals.toArray 28)) := ((Below.refl _ _).alloc (Nat.le_refl _) _).alloc (by simp) _
  have HP := Lib.hid (show bitsP a c.uid c.gid = if c.uid = 0 then 7 else if c.uid = a.uid then band6 (a.mode / 64) 7 else if c.gid = a.gid then band6 (a.mode / 8) 7 else band6 a.mode 7 from rfl)
  have hcx : c.vals[2]? = some (.int .i64 c.uid) := rfl
  by_cases h0 : c.uid = 0
  · have HQ := Lib.hid (HP.out.trans (if_pos h0))
    clear HP
    go_enter Tryz.func141, Tryz.ntmps141
    go_wp2
    all_goals
      go_ret
      exact ⟨ret_int (by rw [HQ.out]), hB⟩
  have HQ := Lib.hid (HP.out.trans (if_neg h0))
  by_cases h1 : c.uid = a.uid
  · have HR := Lib.hid (HQ.out.trans (if_pos h1))
    clear HP HQ
    go_enter Tryz.func141, Tryz.ntmps141
    go_wp2
    all_goals
      go_ret
      exact ⟨ret_int (by rw [HR.out]), hB⟩
  have HR := Lib.hid (HQ.out.trans (if_neg h1))
  by_cases h2 : c.gid = a.gid
  · have HS := Lib.hid (HR.out.trans (if_pos h2))
    clear HP HQ HR
    go_enter Tryz.func141, Tryz.ntmps141
    go_wp2
    all_goals
      go_ret
      exact ⟨ret_int (by rw [HS.out]), hB⟩
  · have HS := Lib.hid (HR.out.trans (if_neg h2))
    clear HP HQ HR
    go_enter Tryz.func141, Tryz.ntmps141
    go_wp2
    all_goals
      go_ret
      exact ⟨ret_int (by rw [HS.out]; try rfl), hB⟩
set_option maxRecDepth 20000 in
theorem refBits6_any (a : Attr) (c : Cred) (w : World) : Calls Tryz.prog 139 #[.agg a.vals.toArray, .agg c.vals.toArray] w fun e w' => e = .returned (.int .i64 (bitsP a c.uid c.gid)) ∧ Below w.heap.size w w' := by
  have hB : Below w.heap.size w ((w.alloc (.cells a.vals.toArray 40)).alloc (.cells c.vals.toArray 28)) := ((Below.refl _ _).alloc (Nat.le_refl _) _).alloc (by simp) _
  have HP := Lib.hid (show bitsP a c.uid c.gid = if c.uid = 0 then 7 else if c.uid = a.uid then band6 (a.mode / 64) 7 else if c.gid = a.gid then band6 (a.mode / 8) 7 else band6 a.mode 7 from rfl)
  by_cases h0 : c.uid = 0
  · have HQ := Lib.hid (HP.out.trans (if_pos h0))
    clear HP
    go_enter Tryz.func139, Tryz.ntmps139
    go_wp2
    all_goals
      go_ret
      exact ⟨ret_int (by rw [HQ.out]), hB⟩
  have HQ := Lib.hid (HP.out.trans (if_neg h0))
  by_cases h1 : c.uid = a.uid
  · have HR := Lib.hid (HQ.out.trans (if_pos h1))
    clear HP HQ
    go_enter Tryz.func139, Tryz.ntmps139
    go_wp2
    all_goals
      go_ret
      exact ⟨ret_int (by rw [HR.out]), hB⟩
  have HR := Lib.hid (HQ.out.trans (if_neg h1))
  by_cases h2 : c.gid = a.gid
  · have HS := Lib.hid (HR.out.trans (if_pos h2))
    clear HP HQ HR
    go_enter Tryz.func139, Tryz.ntmps139
    go_wp2
    all_goals
      go_ret
      exact ⟨ret_int (by rw [HS.out]), hB⟩
  · have HS := Lib.hid (HR.out.trans (if_neg h2))
    clear HP HQ HR
    go_enter Tryz.func139, Tryz.ntmps139
    go_wp2
    all_goals
      go_ret
      exact ⟨ret_int (by rw [HS.out]), hB⟩
theorem ldCred6 {ρ : Operand → Value} {w : World} {dst : Option Tmp} {ty : TypeId} {pos : String} {after : Array Edge} {g : Option (Nat × Bool)} {x : Operand} (h : (rowAt w 4 (ρ x)).isSome = true) :
    (execOp ρ ⟨dst, .load 28 x, ty, pos, after, g⟩).run Tryz.prog w = .ok (.value (.agg ((rowAt w 4 (ρ x)).getD #[]))) w := ex_load 28 4 Tryz.underlying28 rfl (by kernel_rfl) h
attribute [local go_sem ↓] ldCred6 ldAttrR

set_option maxRecDepth 20000 in
theorem may6_any (a : Attr) (c : Cred) (want : Int) (w : World) : Calls Tryz.prog 126 #[.agg a.vals.toArray, .agg c.vals.toArray, .int .i64 want] w fun e w' => e = .returned (.bool (mayB (bitsP a c.uid c.gid) want)) ∧ Below w.heap.size w w' := by
  obtain ⟨bA, bC, hB, hs⟩ := chain2_blks w a.vals c.vals 40 28
  have rA := bA.row 0 10 (by simp [Attr.len])
  have rC := bC.row 0 4 (by simp [Cred.len])
  rw [show (a.vals.drop 0).take 10 = a.vals from rfl] at rA
  rw [show (c.vals.drop 0).take 4 = c.vals from rfl] at rC
  have K := Lib.hid (fun W => bits6_any a c W)
  have HM := Lib.hid (show (bandn6 (band6 want 7) (bitsP a c.uid c.gid) == 0) = mayB (bitsP a c.uid c.gid) want from rfl)
  go_enter Tryz.func126, Tryz.ntmps126
  go_wp2_with fail
  refine (K.out _).mono ?_
  rintro e w1 ⟨rfl, hb⟩
  have HB := Lib.hid (below_then hB hb)
  clear hb hB
  go_wp2
  go_ret
  exact ⟨ret_bool (by rw [← HM.out]), HB.out⟩
set_option maxRecDepth 20000 in
set_option maxHeartbeats 800000 in
theorem refMay6_any (a : Attr) (c : Cred) (want : Int) (w : World) : Calls Tryz.prog 113 #[.agg a.vals.toArray, .agg c.vals.toArray, .int .i64 want] w fun e w' => e = .returned (.bool (mayR (bitsP a c.uid c.gid) want)) ∧ Below w.heap.size w w' := by
  obtain ⟨bA, bC, hB, hs⟩ := chain2_blks w a.vals c.vals 40 28
  have rA := bA.row 0 10 (by simp [Attr.len])
  have rC := bC.row 0 4 (by simp [Cred.len])
  rw [show (a.vals.drop 0).take 10 = a.vals from rfl] at rA
  rw [show (c.vals.drop 0).take 4 = c.vals from rfl] at rC
  have K := Lib.hid (fun W => refBits6_any a c W)
  generalize bitsP a c.uid c.gid = b at *
  have HM := Lib.hid (show mayR b want = (!((band6 want 1 != 0) && (band6 b 1 == 0)) && (!((band6 want 2 != 0) && (band6 b 2 == 0)) && !((band6 want 4 != 0) && (band6 b 4 == 0)))) from rfl)
  go_enter Tryz.func113, Tryz.ntmps113
  go_wp2_with fail
  refine (K.out _).mono ?_
  rintro e w1 ⟨rfl, hb⟩
  have HB := Lib.hid (below_then hB hb)
  clear hb hB K rA rC
  go_wp2
  go_loopw [8] (fun kv wr => wr = w1 ∧ ((kv = .int .i64 1) ∨ (kv = .int .i64 2 ∧ ((band6 want 1 != 0) && (band6 b 1 == 0)) = false) ∨ (kv = .int .i64 4 ∧ ((band6 want 1 != 0) && (band6 b 1 == 0)) = false ∧ ((band6 want 2 != 0) && (band6 b 2 == 0)) = false) ∨ (kv = .int .i64 8 ∧ mayR b want = true))) (fun kv _ => 8 - (intOf kv).toNat)
  case atStart => exact ⟨rfl, .inl rfl⟩
  case round =>
    obtain ⟨rfl, hk⟩ := hrel
    rcases hk with rfl | ⟨rfl, h1⟩ | ⟨rfl, h1, h2⟩ | ⟨rfl, hm⟩
    · by_cases hp : band6 want 1 = 0
      · have hx : ((band6 want 1 != 0) && (band6 b 1 == 0)) = false := by simp [hp]
        have HX := Lib.hid hx
        clear hx
        have hp2 : (band6 want 1 != 0) = false := by simp [hp]
        go_wp2
        go_roundw
        case rel => first | exact ⟨rfl, .inr (.inl ⟨rfl, HX.out⟩)⟩ | exact ⟨trivial, .inr (.inl ⟨rfl, HX.out⟩)⟩ | exact .inr (.inl ⟨rfl, HX.out⟩)
        case measure => simp [intOf]
      · have hp2 : (band6 want 1 != 0) = true := by simp [hp]
        by_cases hq : band6 b 1 = 0
        · have hq2 : (band6 b 1 == 0) = true := by simp [hq]
          have HF := Lib.hid (HM.out.trans (show _ = false by rw [hp2, hq2] <;> simp))
          go_wp2
          go_ret
          exact ⟨ret_bool (by rw [HF.out]), HB.out⟩
        · have hx : ((band6 want 1 != 0) && (band6 b 1 == 0)) = false := by simp [hq]
          have HX := Lib.hid hx
          clear hx
          have hq2 : (band6 b 1 == 0) = false := by simp [hq]
          go_wp2
          go_roundw
          case rel => first | exact ⟨rfl, .inr (.inl ⟨rfl, HX.out⟩)⟩ | exact ⟨trivial, .inr (.inl ⟨rfl, HX.out⟩)⟩ | exact .inr (.inl ⟨rfl, HX.out⟩)
          case measure => simp [intOf]
    · have H1 := Lib.hid h1
      clear h1
      by_cases hp : band6 want 2 = 0
      · have hx : ((band6 want 2 != 0) && (band6 b 2 == 0)) = false := by simp [hp]
        have HX := Lib.hid hx
        clear hx
        have hp2 : (band6 want 2 != 0) = false := by simp [hp]
        go_wp2
        go_roundw
        case rel => first | exact ⟨rfl, .inr (.inr (.inl ⟨rfl, H1.out, HX.out⟩))⟩ | exact ⟨trivial, .inr (.inr (.inl ⟨rfl, H1.out, HX.out⟩))⟩ | exact .inr (.inr (.inl ⟨rfl, H1.out, HX.out⟩))
        case measure => simp [intOf]
      · have hp2 : (band6 want 2 != 0) = true := by simp [hp]
        by_cases hq : band6 b 2 = 0
        · have hq2 : (band6 b 2 == 0) = true := by simp [hq]
          have HF := Lib.hid (HM.out.trans (show _ = false by rw [H1.out, hp2, hq2] <;> simp))
          go_wp2
          go_ret
          exact ⟨ret_bool (by rw [HF.out]), HB.out⟩
        · have hx : ((band6 want 2 != 0) && (band6 b 2 == 0)) = false := by simp [hq]
          have HX := Lib.hid hx
          clear hx
          have hq2 : (band6 b 2 == 0) = false := by simp [hq]
          go_wp2
          go_roundw
          case rel => first | exact ⟨rfl, .inr (.inr (.inl ⟨rfl, H1.out, HX.out⟩))⟩ | exact ⟨trivial, .inr (.inr (.inl ⟨rfl, H1.out, HX.out⟩))⟩ | exact .inr (.inr (.inl ⟨rfl, H1.out, HX.out⟩))
          case measure => simp [intOf]
    · have H1 := Lib.hid h1
      clear h1
      have H2 := Lib.hid h2
      clear h2
      by_cases hp : band6 want 4 = 0
      · have hx : ((band6 want 4 != 0) && (band6 b 4 == 0)) = false := by simp [hp]
        have HR := Lib.hid (HM.out.trans (by rw [H1.out, H2.out, hx] <;> rfl))
        clear hx
        have hp2 : (band6 want 4 != 0) = false := by simp [hp]
        go_wp2
        go_roundw
        case rel => first | exact ⟨rfl, .inr (.inr (.inr ⟨rfl, HR.out⟩))⟩ | exact ⟨trivial, .inr (.inr (.inr ⟨rfl, HR.out⟩))⟩ | exact .inr (.inr (.inr ⟨rfl, HR.out⟩))
        case measure => simp [intOf]
      · have hp2 : (band6 want 4 != 0) = true := by simp [hp]
        by_cases hq : band6 b 4 = 0
        · have hq2 : (band6 b 4 == 0) = true := by simp [hq]
          have HF := Lib.hid (HM.out.trans (show _ = false by rw [H1.out, H2.out, hp2, hq2] <;> simp))
          go_wp2
          go_ret
          exact ⟨ret_bool (by rw [HF.out]), HB.out⟩
        · have hx : ((band6 want 4 != 0) && (band6 b 4 == 0)) = false := by simp [hq]
          have HR := Lib.hid (HM.out.trans (by rw [H1.out, H2.out, hx] <;> rfl))
          clear hx
          have hq2 : (band6 b 4 == 0) = false := by simp [hq]
          go_wp2
          go_roundw
          case rel => first | exact ⟨rfl, .inr (.inr (.inr ⟨rfl, HR.out⟩))⟩ | exact ⟨trivial, .inr (.inr (.inr ⟨rfl, HR.out⟩))⟩ | exact .inr (.inr (.inr ⟨rfl, HR.out⟩))
          case measure => simp [intOf]
    · have HF := Lib.hid hm
      clear hm
      go_wp2
      go_ret
      exact ⟨ret_bool (by rw [HF.out]), HB.out⟩
/-- what is given, if one may -/
theorem give6_any (bA bC bH : Nat) (a : Attr) (c : Cred) (bit what h : Int) (w : World) (hA : Blk w bA 40 a.vals) (hC : Blk w bC 28 c.vals) (hH : Blk w bH 3 [.int .i64 h]) :
    Calls Tryz.prog 129 #[.int .i64 bit, .int .i64 what, .pointer (some ⟨bA, 0, none⟩), .pointer (some ⟨bC, 0, none⟩), .pointer (some ⟨bH, 0, none⟩)] w fun e w' => e = .returned undef ∧
      Blk w' bH 3 [.int .i64 (if mayB (bitsP a c.uid c.gid) bit then bor6 h what else h)] ∧ Touch (fun k => k = bH) w w' := by
  have rA := hA.row 0 10 (by simp [Attr.len])
  have rC := hC.row 0 4 (by simp [Cred.len])
  rw [show (a.vals.drop 0).take 10 = a.vals from rfl] at rA
  rw [show (c.vals.drop 0).take 4 = c.vals from rfl] at rC
  have K := Lib.hid (fun W => may6_any a c bit W)
  generalize mayB (bitsP a c.uid c.gid) bit = m at *
  have HH := Lib.hid hH
  have hlA := hA.lt
  clear hA hC hH
  go_enter Tryz.func129, Tryz.ntmps129
  go_wp2_with fail
  refine (K.out _).mono ?_
  rintro e w1 ⟨rfl, hb⟩
  have hH1 := HH.out.stays hb
  have hT1 := Touch.of_below hb (fun k => k = bH)
  have c0 := hH1.cell 0
  have z0 := hH1.frozen 0
  have hH2 : Blk (w1.setCell ⟨bH, 0, none⟩ (.int .i64 (bor6 h what))) bH 3 [.int .i64 (bor6 h what)] := hH1.set_ 0 (.int .i64 (bor6 h what))
  have hT2 := hT1.setCell_ (g := bH) (o := 0) (.inl rfl) (.int .i64 (bor6 h what))
  clear hb
  cases m
  · have HL := Lib.hid (And.intro hH1 hT1)
    clear hH1 hT1 hH2 hT2
    go_wp2
    go_end0
    exact ⟨rfl, HL.out.1, HL.out.2⟩
  · have HL := Lib.hid (And.intro hH2 hT2)
    clear hH1 hT1 hH2 hT2
    go_wp2
    go_end0
    exact ⟨rfl, HL.out.1, HL.out.2⟩
/-- what somebody has of what is asked -/
def accP (a : Attr) (uid gid asked : Int) : Int :=
  band6 ((if mayB (bitsP a uid gid) 4 then 1 else 0) + ((if mayB (bitsP a uid gid) 2 then 12 else 0) + (if a.type = 2 then (if mayB (bitsP a uid gid) 1 then 2 else 0) + (if mayB (bitsP a uid gid) 2 then 16 else 0) else (if mayB (bitsP a uid gid) 1 then 32 else 0)))) asked
set_option maxRecDepth 20000 in
set_option maxHeartbeats 1600000 in
theorem access6_any (a : Attr) (c : Cred) (asked : Int) (w : World) : Calls Tryz.prog 105 #[.agg a.vals.toArray, .agg c.vals.toArray, .int .i64 asked] w fun e w' => e = .returned (.int .i64 (accP a c.uid c.gid asked)) ∧ Below w.heap.size w w' := by
  obtain ⟨bA, bC, hB, hs⟩ := chain2_blks w a.vals c.vals 40 28
  obtain ⟨w1, hw1⟩ : ∃ V, V = (w.alloc (.cells a.vals.toArray 40)).alloc (.cells c.vals.toArray 28) := ⟨_, rfl⟩
  rw [← hw1] at bA bC hB hs
  have hx := (Below.refl w1.heap.size w1).alloc (Nat.le_refl _) (.cells (#[.int .i64 0] : Array Value) 3)
  have bH := Blk.new w1 3 [.int .i64 0]
  rw [show w1.heap.size = w.heap.size + 1 + 1 by omega] at bH
  have b0 := And.intro (bA.stays hx) (And.intro (bC.stays hx) (And.intro bH (below_then hB hx)))
  obtain ⟨w2, hw2⟩ : ∃ V, V = w1.alloc (.cells (#[.int .i64 0] : Array Value) 3) := ⟨_, rfl⟩
  rw [← hw2] at b0
  have hca : w2.cell? ⟨w.heap.size, 0, none⟩ = some (.int .i64 a.type) := b0.1.cell 0
  have K := Lib.hid (fun W bit what h (hA : Blk W w.heap.size 40 a.vals) (hC : Blk W (w.heap.size + 1) 28 c.vals) (hH : Blk W (w.heap.size + 1 + 1) 3 [.int .i64 h]) => give6_any w.heap.size (w.heap.size + 1) (w.heap.size + 1 + 1) a c bit what h W hA hC hH)
  have hrun : ∀ args W, (callFunc 129 args).run Tryz.prog W = .ok (.enter 129 args) W := Tryz.call129
  have HP := Lib.hid (show accP a c.uid c.gid asked = band6 ((if mayB (bitsP a c.uid c.gid) 4 then 1 else 0) + ((if mayB (bitsP a c.uid c.gid) 2 then 12 else 0) + (if a.type = 2 then (if mayB (bitsP a c.uid c.gid) 1 then 2 else 0) + (if mayB (bitsP a c.uid c.gid) 2 then 16 else 0) else (if mayB (bitsP a c.uid c.gid) 1 then 32 else 0)))) asked from rfl)
  have HW1 := Lib.hid hw1
  have HW2 := Lib.hid hw2
  clear bA bC hB hx bH hw1 hw2
  by_cases hd : a.type = 2
  · rw [if_pos hd] at HP
    rw [hd] at hca
    go_enter Tryz.func105, Tryz.ntmps105
    go_wp2_with fail
    change Calls _ _ _ ((((w.alloc (.cells a.vals.toArray 40)).alloc (.cells c.vals.toArray 28)).alloc (.cells (#[.int .i64 0] : Array Value) 3))) _
    rw [← HW1.out, ← HW2.out]
    refine (K.out _ 1 2 0 b0.1 b0.2.1 b0.2.2.1).mono ?_
    rintro e w3 ⟨rfl, hH3, hT3⟩
    replace b0 := And.intro (b0.1.touch hT3 (by omega)) (And.intro (b0.2.1.touch hT3 (by omega)) (And.intro hH3 (b0.2.2.2.trans (hT3.below (B := w.heap.size) (fun k _ hk => by omega) b0.2.2.2.size))))
    have cH := hH3.cell 0
    have cT : w3.cell? ⟨w.heap.size, 0, none⟩ = some (.int .i64 a.type) := b0.1.cell 0
    rw [hd] at cT
    clear hH3 hT3
    obtain ⟨h1, hh1⟩ : ∃ h, h = (if mayB (bitsP a c.uid c.gid) 1 then bor6 0 2 else 0) := ⟨_, rfl⟩
    rw [← hh1] at b0 cH
    have HH1 := Lib.hid hh1
    clear hh1
    go_wp2_with fail
    refine (K.out _ 2 16 h1 b0.1 b0.2.1 b0.2.2.1).mono ?_
    rintro e w3 ⟨rfl, hH3, hT3⟩
    replace b0 := And.intro (b0.1.touch hT3 (by omega)) (And.intro (b0.2.1.touch hT3 (by omega)) (And.intro hH3 (b0.2.2.2.trans (hT3.below (B := w.heap.size) (fun k _ hk => by omega) b0.2.2.2.size))))
    have cH := hH3.cell 0
    have cT : w3.cell? ⟨w.heap.size, 0, none⟩ = some (.int .i64 a.type) := b0.1.cell 0
    rw [hd] at cT
    clear hH3 hT3
    obtain ⟨h2, hh2⟩ : ∃ h, h = (if mayB (bitsP a c.uid c.gid) 2 then bor6 h1 16 else h1) := ⟨_, rfl⟩
    rw [← hh2] at b0 cH
    have HH2 := Lib.hid hh2
    clear hh2
    go_wp2_with fail
    refine (K.out _ 4 1 h2 b0.1 b0.2.1 b0.2.2.1).mono ?_
    rintro e w3 ⟨rfl, hH3, hT3⟩
    replace b0 := And.intro (b0.1.touch hT3 (by omega)) (And.intro (b0.2.1.touch hT3 (by omega)) (And.intro hH3 (b0.2.2.2.trans (hT3.below (B := w.heap.size) (fun k _ hk => by omega) b0.2.2.2.size))))
    have cH := hH3.cell 0
    have cT : w3.cell? ⟨w.heap.size, 0, none⟩ = some (.int .i64 a.type) := b0.1.cell 0
    rw [hd] at cT
    clear hH3 hT3
    obtain ⟨h3, hh3⟩ : ∃ h, h = (if mayB (bitsP a c.uid c.gid) 4 then bor6 h2 1 else h2) := ⟨_, rfl⟩
    rw [← hh3] at b0 cH
    have HH3 := Lib.hid hh3
    clear hh3
    go_wp2_with fail
    refine (K.out _ 2 12 h3 b0.1 b0.2.1 b0.2.2.1).mono ?_
    rintro e w3 ⟨rfl, hH3, hT3⟩
    replace b0 := And.intro (b0.1.touch hT3 (by omega)) (And.intro (b0.2.1.touch hT3 (by omega)) (And.intro hH3 (b0.2.2.2.trans (hT3.below (B := w.heap.size) (fun k _ hk => by omega) b0.2.2.2.size))))
    have cH := hH3.cell 0
    have cT : w3.cell? ⟨w.heap.size, 0, none⟩ = some (.int .i64 a.type) := b0.1.cell 0
    rw [hd] at cT
    clear hH3 hT3
    obtain ⟨h4, hh4⟩ : ∃ h, h = (if mayB (bitsP a c.uid c.gid) 2 then bor6 h3 12 else h3) := ⟨_, rfl⟩
    rw [← hh4] at b0 cH
    have HH4 := Lib.hid hh4
    clear hh4
    go_wp2
    go_ret
    refine ⟨ret_int ?_, b0.2.2.2⟩
    rw [HP.out, HH4.out, HH3.out, HH2.out, HH1.out]
    cases mayB (bitsP a c.uid c.gid) 1 <;> cases mayB (bitsP a c.uid c.gid) 2 <;> cases mayB (bitsP a c.uid c.gid) 4 <;> rfl
  · rw [if_neg hd] at HP
    have hd2 : (a.type == 2) = false := by simpa using hd
    go_enter Tryz.func105, Tryz.ntmps105
    go_wp2_with fail
    change Calls _ _ _ ((((w.alloc (.cells a.vals.toArray 40)).alloc (.cells c.vals.toArray 28)).alloc (.cells (#[.int .i64 0] : Array Value) 3))) _
    rw [← HW1.out, ← HW2.out]
    refine (K.out _ 1 32 0 b0.1 b0.2.1 b0.2.2.1).mono ?_
    rintro e w3 ⟨rfl, hH3, hT3⟩
    replace b0 := And.intro (b0.1.touch hT3 (by omega)) (And.intro (b0.2.1.touch hT3 (by omega)) (And.intro hH3 (b0.2.2.2.trans (hT3.below (B := w.heap.size) (fun k _ hk => by omega) b0.2.2.2.size))))
    have cH := hH3.cell 0
    have cT : w3.cell? ⟨w.heap.size, 0, none⟩ = some (.int .i64 a.type) := b0.1.cell 0
    clear hH3 hT3
    obtain ⟨h1, hh1⟩ : ∃ h, h = (if mayB (bitsP a c.uid c.gid) 1 then bor6 0 32 else 0) := ⟨_, rfl⟩
    rw [← hh1] at b0 cH
    have HH1 := Lib.hid hh1
    clear hh1
    go_wp2_with fail
    refine (K.out _ 4 1 h1 b0.1 b0.2.1 b0.2.2.1).mono ?_
    rintro e w3 ⟨rfl, hH3, hT3⟩
    replace b0 := And.intro (b0.1.touch hT3 (by omega)) (And.intro (b0.2.1.touch hT3 (by omega)) (And.intro hH3 (b0.2.2.2.trans (hT3.below (B := w.heap.size) (fun k _ hk => by omega) b0.2.2.2.size))))
    have cH := hH3.cell 0
    have cT : w3.cell? ⟨w.heap.size, 0, none⟩ = some (.int .i64 a.type) := b0.1.cell 0
    clear hH3 hT3
    obtain ⟨h2, hh2⟩ : ∃ h, h = (if mayB (bitsP a c.uid c.gid) 4 then bor6 h1 1 else h1) := ⟨_, rfl⟩
    rw [← hh2] at b0 cH
    have HH2 := Lib.hid hh2
    clear hh2
    go_wp2_with fail
    refine (K.out _ 2 12 h2 b0.1 b0.2.1 b0.2.2.1).mono ?_
    rintro e w3 ⟨rfl, hH3, hT3⟩
    replace b0 := And.intro (b0.1.touch hT3 (by omega)) (And.intro (b0.2.1.touch hT3 (by omega)) (And.intro hH3 (b0.2.2.2.trans (hT3.below (B := w.heap.size) (fun k _ hk => by omega) b0.2.2.2.size))))
    have cH := hH3.cell 0
    have cT : w3.cell? ⟨w.heap.size, 0, none⟩ = some (.int .i64 a.type) := b0.1.cell 0
    clear hH3 hT3
    obtain ⟨h3, hh3⟩ : ∃ h, h = (if mayB (bitsP a c.uid c.gid) 2 then bor6 h2 12 else h2) := ⟨_, rfl⟩
    rw [← hh3] at b0 cH
    have HH3 := Lib.hid hh3
    clear hh3
    go_wp2
    go_ret
    refine ⟨ret_int ?_, b0.2.2.2⟩
    rw [HP.out, HH3.out, HH2.out, HH1.out]
    cases mayB (bitsP a c.uid c.gid) 1 <;> cases mayB (bitsP a c.uid c.gid) 2 <;> cases mayB (bitsP a c.uid c.gid) 4 <;> rfl
theorem refMayB6_any (a : Attr) (c : Cred) (want : Int) (w : World) (hw : want = 1 ∨ want = 2 ∨ want = 3 ∨ want = 4) : Calls Tryz.prog 113 #[.agg a.vals.toArray, .agg c.vals.toArray, .int .i64 want] w fun e w' => e = .returned (.bool (mayB (bitsP a c.uid c.gid) want)) ∧ Below w.heap.size w w' := by
  rw [← may_eq (bitsP_le a c.uid c.gid) hw]
  exact refMay6_any a c want w
set_option maxRecDepth 20000 in
set_option maxHeartbeats 3200000 in
theorem refAccess6_any (a : Attr) (c : Cred) (asked : Int) (w : World) : Calls Tryz.prog 85 #[.agg a.vals.toArray, .agg c.vals.toArray, .int .i64 asked] w fun e w' => e = .returned (.int .i64 (accP a c.uid c.gid asked)) ∧ Below w.heap.size w w' := by
  obtain ⟨bA, bC, hB, hs⟩ := chain2_blks w a.vals c.vals 40 28
  obtain ⟨w1, hw1⟩ : ∃ V, V = (w.alloc (.cells a.vals.toArray 40)).alloc (.cells c.vals.toArray 28) := ⟨_, rfl⟩
  rw [← hw1] at bA bC hB hs
  have rA := bA.row 0 10 (by simp [Attr.len])
  have rC := bC.row 0 4 (by simp [Cred.len])
  rw [show (a.vals.drop 0).take 10 = a.vals from rfl] at rA
  rw [show (c.vals.drop 0).take 4 = c.vals from rfl] at rC
  have hca : w1.cell? ⟨w.heap.size, 0, none⟩ = some (.int .i64 a.type) := bA.cell 0
  have K1 := Lib.hid (fun W => refMayB6_any a c 1 W (by decide))
  have K2 := Lib.hid (fun W => refMayB6_any a c 2 W (by decide))
  have K4 := Lib.hid (fun W => refMayB6_any a c 4 W (by decide))
  have HP := Lib.hid (show accP a c.uid c.gid asked = band6 ((if mayB (bitsP a c.uid c.gid) 4 then 1 else 0) + ((if mayB (bitsP a c.uid c.gid) 2 then 12 else 0) + (if a.type = 2 then (if mayB (bitsP a c.uid c.gid) 1 then 2 else 0) + (if mayB (bitsP a c.uid c.gid) 2 then 16 else 0) else (if mayB (bitsP a c.uid c.gid) 1 then 32 else 0)))) asked from rfl)
  have lA := bA.lt
  have lC := bC.lt
  have HW1 := Lib.hid hw1
  generalize mayB (bitsP a c.uid c.gid) 1 = m1 at *
  generalize mayB (bitsP a c.uid c.gid) 2 = m2 at *
  generalize mayB (bitsP a c.uid c.gid) 4 = m4 at *
  clear bA bC hw1
  go_enter Tryz.func85, Tryz.ntmps85
  go_wp2_with fail
  change Calls _ _ _ ((w.alloc (.cells a.vals.toArray 40)).alloc (.cells c.vals.toArray 28)) _
  rw [← HW1.out]
  refine (K4.out _).mono ?_
  rintro e w2 ⟨rfl, hb2⟩
  have hs2 := Stb.of hb2
  have rA2 := (hs2.2.1 _ 0 10 lA).trans rA
  have rC2 := (hs2.2.1 _ 0 4 lC).trans rC
  have ca2 := (hs2.1 _ 0 lA).trans hca
  cases m4 <;> (
    go_wp2_with fail
    refine (K2.out _).mono ?_
    rintro e w3 ⟨rfl, hb3⟩
    have hs3 := Stb.call hs2 hb3
    have rA2 := (hs3.2.1 _ 0 10 lA).trans rA
    have rC2 := (hs3.2.1 _ 0 4 lC).trans rC
    have ca2 := (hs3.1 _ 0 lA).trans hca
    cases m2 <;> (
      by_cases hd : a.type = 2
      · rw [if_pos hd] at HP
        rw [hd] at ca2
        go_wp2_with fail
        refine (K1.out _).mono ?_
        rintro e w4 ⟨rfl, hb4⟩
        have hs4 := Stb.call hs3 hb4
        have rA2 := (hs4.2.1 _ 0 10 lA).trans rA
        have rC2 := (hs4.2.1 _ 0 4 lC).trans rC
        cases m1 <;> (
          go_wp2_with fail
          refine (K2.out _).mono ?_
          rintro e w5 ⟨rfl, hb5⟩
          have HB5 := Lib.hid (below_then hB (Stb.call hs4 hb5).below)
          go_wp2
          go_ret
          exact ⟨ret_int (by rw [HP.out]; rfl), HB5.out⟩)
      · rw [if_neg hd] at HP
        have hd2 : (a.type == 2) = false := by simpa using hd
        go_wp2_with fail
        refine (K1.out _).mono ?_
        rintro e w4 ⟨rfl, hb4⟩
        have HB4 := Lib.hid (below_then hB (Stb.call hs3 hb4).below)
        cases m1 <;> (
          go_wp2
          go_ret
          exact ⟨ret_int (by rw [HP.out]; rfl), HB4.out⟩)))
end
end Go.Proofs.YtgifmpobokaejaaGreatDoor


/-
  Layer 5, walks: attributes, or none, as they come; what was read, if it may be. Conditions: a reader at a block of its own; texts are machine texts.
-/
namespace Go.Proofs.YtgifmpobokaejaaGreatDoor
open Go.RowKit
attribute [local go_sem ↓] Go.wp_at_zero Go.wp_at_succ
attribute [local go_sem] rowAt_ptr rowOf_drew rowOf_drewN rowOf_alloc_past rowOf_new
attribute [local go_sem ↓] ldAttrR ldOpt ldSet ldPost ldWcc

attribute [local go_sem] Attr.at0 Attr.lat0 Attr.at1 Attr.lat1 Attr.at2 Attr.lat2 Attr.at3 Attr.lat3 Attr.at4 Attr.lat4 Attr.at5 Attr.lat5 Attr.at6 Attr.lat6 Attr.at7 Attr.lat7 Attr.at8 Attr.lat8 Attr.at9 Attr.lat9 Attr.sub0_10 Attr.lsub0_10 Attr.len Opt.at0 Opt.lat0 Opt.at1 Opt.lat1 Opt.sub0_2 Opt.lsub0_2 Opt.len Sett.at0 Sett.lat0 Sett.at1 Sett.lat1 Sett.at2 Sett.lat2 Sett.at3 Sett.lat3 Sett.at4 Sett.lat4 Sett.at5 Sett.lat5 Sett.at6 Sett.lat6 Sett.at7 Sett.lat7 Sett.at8 Sett.lat8 Sett.at9 Sett.lat9 Sett.sub0_10 Sett.lsub0_10 Sett.sub0_2 Sett.lsub0_2 Sett.sub2_2 Sett.lsub2_2 Sett.sub4_2 Sett.lsub4_2 Sett.sub6_2 Sett.lsub6_2 Sett.sub8_2 Sett.lsub8_2 Sett.len Post.at0 Post.lat0 Post.at1 Post.lat1 Post.at2 Post.lat2 Post.at3 Post.lat3 Post.at4 Post.lat4 Post.at5 Post.lat5 Post.at6 Post.lat6 Post.at7 Post.lat7 Post.at8 Post.lat8 Post.at9 Post.lat9 Post.at10 Post.lat10 Post.sub0_11 Post.lsub0_11 Post.sub1_10 Post.lsub1_10 Post.len Wcc.at0 Wcc.lat0 Wcc.at1 Wcc.lat1 Wcc.at2 Wcc.lat2 Wcc.at3 Wcc.lat3 Wcc.at4 Wcc.lat4 Wcc.at5 Wcc.lat5 Wcc.at6 Wcc.lat6 Wcc.at7 Wcc.lat7 Wcc.at8 Wcc.lat8 Wcc.at9 Wcc.lat9 Wcc.at10 Wcc.lat10 Wcc.at11 Wcc.lat11 Wcc.at12 Wcc.lat12 Wcc.sub0_13 Wcc.lsub0_13 Wcc.sub0_2 Wcc.lsub0_2 Wcc.sub2_11 Wcc.lsub2_11 Wcc.sub3_10 Wcc.lsub3_10 Wcc.len

def wccZ : Wcc := ⟨⟨false, 0⟩, postZ⟩
def settZ : Sett := ⟨⟨false, 0⟩, ⟨false, 0⟩, ⟨false, 0⟩, ⟨false, 0⟩, ⟨false, 0⟩⟩
/-- both results of 'got' -/
def gotV (cs : List Value) (n : Int) : Value := .tuple #[.agg cs.toArray, .int .i64 n]

end Go.Proofs.YtgifmpobokaejaaGreatDoor
