/-
  Layer 5, walks: whether attributes, or none, and what was ahead and behind, may be. No condition.
-/
import Derived.Test.YtfjflkmhhbhceaaGreatDoorW08
import Derived.Test.YtfjflkmhhbhceaaGreatDoorW09
import Derived.Test.YtfjflkmhhbhceaaGreatDoorW06
import Derived.WalkArith
import Derived.Test.YtfjflkmhhbhceaaGreatDoorW10
namespace Go.Proofs.YtfjflkmhhbhceaaGreatDoor
open Go.RowKit
attribute [local go_sem ↓] Go.wp_at_zero Go.wp_at_succ
attribute [local go_sem] rowAt_ptr rowOf_drew rowOf_drewN rowOf_alloc_past rowOf_new
theorem ldPost {ρ : Operand → Value} {w : World} {dst : Option Tmp} {ty : TypeId} {pos : String} {after : Array Edge} {g : Option (Nat × Bool)} {x : Operand} (h : (rowAt w 11 (ρ x)).isSome = true) :
    (execOp ρ ⟨dst, .load 45 x, ty, pos, after, g⟩).run Tryz.prog w = .ok (.value (.agg ((rowAt w 11 (ρ x)).getD #[]))) w := ex_load 45 11 Tryz.underlying45 rfl (by kernel_rfl) h
theorem ldWcc {ρ : Operand → Value} {w : World} {dst : Option Tmp} {ty : TypeId} {pos : String} {after : Array Edge} {g : Option (Nat × Bool)} {x : Operand} (h : (rowAt w 13 (ρ x)).isSome = true) :
    (execOp ρ ⟨dst, .load 47 x, ty, pos, after, g⟩).run Tryz.prog w = .ok (.value (.agg ((rowAt w 13 (ρ x)).getD #[]))) w := ex_load 47 13 Tryz.underlying47 rfl (by kernel_rfl) h
attribute [local go_sem ↓] ldAttrR ldOpt ldSet ldPost ldWcc

attribute [local go_sem] Attr.at0 Attr.lat0 Attr.at1 Attr.lat1 Attr.at2 Attr.lat2 Attr.at3 Attr.lat3 Attr.at4 Attr.lat4 Attr.at5 Attr.lat5 Attr.at6 Attr.lat6 Attr.at7 Attr.lat7 Attr.at8 Attr.lat8 Attr.at9 Attr.lat9 Attr.sub0_10 Attr.lsub0_10 Attr.len Opt.at0 Opt.lat0 Opt.at1 Opt.lat1 Opt.sub0_2 Opt.lsub0_2 Opt.len Sett.at0 Sett.lat0 Sett.at1 Sett.lat1 Sett.at2 Sett.lat2 Sett.at3 Sett.lat3 Sett.at4 Sett.lat4 Sett.at5 Sett.lat5 Sett.at6 Sett.lat6 Sett.at7 Sett.lat7 Sett.at8 Sett.lat8 Sett.at9 Sett.lat9 Sett.sub0_10 Sett.lsub0_10 Sett.sub0_2 Sett.lsub0_2 Sett.sub2_2 Sett.lsub2_2 Sett.sub4_2 Sett.lsub4_2 Sett.sub6_2 Sett.lsub6_2 Sett.sub8_2 Sett.lsub8_2 Sett.len Post.at0 Post.lat0 Post.at1 Post.lat1 Post.at2 Post.lat2 Post.at3 Post.lat3 Post.at4 Post.lat4 Post.at5 Post.lat5 Post.at6 Post.lat6 Post.at7 Post.lat7 Post.at8 Post.lat8 Post.at9 Post.lat9 Post.at10 Post.lat10 Post.sub0_11 Post.lsub0_11 Post.sub1_10 Post.lsub1_10 Post.len Wcc.at0 Wcc.lat0 Wcc.at1 Wcc.lat1 Wcc.at2 Wcc.lat2 Wcc.at3 Wcc.lat3 Wcc.at4 Wcc.lat4 Wcc.at5 Wcc.lat5 Wcc.at6 Wcc.lat6 Wcc.at7 Wcc.lat7 Wcc.at8 Wcc.lat8 Wcc.at9 Wcc.lat9 Wcc.at10 Wcc.lat10 Wcc.at11 Wcc.lat11 Wcc.at12 Wcc.lat12 Wcc.sub0_13 Wcc.lsub0_13 Wcc.sub0_2 Wcc.lsub0_2 Wcc.sub2_11 Wcc.lsub2_11 Wcc.sub3_10 Wcc.lsub3_10 Wcc.len

def limits (a : Attr) : List (Int × Int) := [(a.type, 7), (a.mode, 4095), (a.nlink, 4294967295), (a.uid, 4294967295), (a.gid, 4294967295), (a.id, 4294967295), (a.size, 9223372036854775807), (a.gen, 9223372036854775807), (a.change, 9223372036854775807), (a.time, 9223372036854775807)]
theorem limits_ok (a : Attr) (hg : a.good) (h1 : 1 ≤ a.type) : (limits a).all inLim = a.ok := by
  obtain ⟨-, -, -, -, -, g5, -, g7, g8, g9⟩ := hg
  have g5 := (Go.bounds_i64 g5).2
  have g7 := (Go.bounds_i64 g7).2
  have g8 := (Go.bounds_i64 g8).2
  have g9 := (Go.bounds_i64 g9).2
  simp [limits, inLim, okN, Attr.ok]
  grind
theorem free5_any (n : Int) (w : World) : Calls Tryz.prog 218 #[.int .i64 n] w fun e w' => e = .returned (.agg #[.int .i64 n, .int .i64 9223372036854775807]) ∧ Below w.heap.size w w' := by
  go_enter Tryz.func218, Tryz.ntmps218
  go_wp2
  exact ret_cells w.heap.size 0 (limV (n, 9223372036854775807)) Tryz.results218 Tryz.underlying252 rfl (by kernel_rfl) rfl (range_new _ _ _) rfl ⟨rfl, (Below.refl _ _).alloc (Nat.le_refl _) _⟩

set_option maxRecDepth 20000 in
set_option maxHeartbeats 1000000 in
theorem check5_any (a : Attr) (w : World) (hg : a.good) : Calls Tryz.prog 208 #[.agg a.vals.toArray] w fun e w' => e = .returned (.int .i64 (form a.ok)) ∧ Below w.heap.size w w' := by
  have hB0 : Below w.heap.size w (w.alloc (.cells a.vals.toArray 43)) := (Below.refl _ _).alloc (Nat.le_refl _) _
  have hz : w.heap.size < (w.alloc (.cells a.vals.toArray 43)).heap.size := by simp
  by_cases h1 : a.type < 1
  · have HS := Lib.hid (show a.ok = false by simp [Attr.ok]; omega)
    have hd : decide (a.type < 1) = true := by simpa using h1
    go_enter Tryz.func208, Tryz.ntmps208
    go_wp2
    go_quiet (fail)
    go_wp2
    go_ret
    exact ⟨ret_int (by rw [HS.out]; rfl), hB0.trans (bdN (Below.refl _ _) _)⟩
  · have hd : decide (a.type < 1) = false := by simpa using h1
    have HL := Lib.hid (limits_ok a hg (by omega))
    have c0 := (Blk.new w 43 a.vals).cell
    go_enter Tryz.func208, Tryz.ntmps208
    go_wp2
    generalize w.alloc (.cells a.vals.toArray 43) = w1 at *
    go_region_held3 (fun W => Stb w1 W) (first | exact Stb.start | assumption | (exact Stb.alloc (by assumption) _) | (exact Stb.call (by assumption) (by assumption))) (first
      | (go_at_call 218; refine (free5_any _ _).mono ?_; rintro e w2 ⟨rfl, hb⟩)
      | (go_at_call 195; refine (within_any (some ⟨_, 0, none⟩) 10 (limits a) _ (show (10 : Nat) ≤ 1000000 by omega) (by exact At.fresh _ _ _ _ ((limits a).map limV) (by simp [limits, limV]) rfl)).mono ?_; rintro e w3 ⟨rfl, hb⟩))
    have hs := (by assumption : Stb w1 w3)
    have HB := Lib.hid (below_then hB0 hs.below)
    rw [HL.out]
    clear hs
    cases ho : a.ok
    all_goals
      have HO := Lib.hid ho
      clear ho
      go_wp2
      go_ret
      exact ⟨ret_int (by rw [HO.out]; rfl), HB.out⟩
end Go.Proofs.YtfjflkmhhbhceaaGreatDoor

/-
  Layer 5, walks: whether attributes, or none, and what was ahead and behind, may be, by the program and by the reference. No condition but machine numbers.
-/
namespace Go.Proofs.YtfjflkmhhbhceaaGreatDoor
open Go.RowKit
attribute [local go_sem ↓] Go.wp_at_zero Go.wp_at_succ
attribute [local go_sem] rowAt_ptr rowOf_drew rowOf_drewN rowOf_alloc_past rowOf_new
attribute [local go_sem ↓] ldAttrR ldOpt ldSet ldPost ldWcc

attribute [local go_sem] Attr.at0 Attr.lat0 Attr.at1 Attr.lat1 Attr.at2 Attr.lat2 Attr.at3 Attr.lat3 Attr.at4 Attr.lat4 Attr.at5 Attr.lat5 Attr.at6 Attr.lat6 Attr.at7 Attr.lat7 Attr.at8 Attr.lat8 Attr.at9 Attr.lat9 Attr.sub0_10 Attr.lsub0_10 Attr.len Opt.at0 Opt.lat0 Opt.at1 Opt.lat1 Opt.sub0_2 Opt.lsub0_2 Opt.len Sett.at0 Sett.lat0 Sett.at1 Sett.lat1 Sett.at2 Sett.lat2 Sett.at3 Sett.lat3 Sett.at4 Sett.lat4 Sett.at5 Sett.lat5 Sett.at6 Sett.lat6 Sett.at7 Sett.lat7 Sett.at8 Sett.lat8 Sett.at9 Sett.lat9 Sett.sub0_10 Sett.lsub0_10 Sett.sub0_2 Sett.lsub0_2 Sett.sub2_2 Sett.lsub2_2 Sett.sub4_2 Sett.lsub4_2 Sett.sub6_2 Sett.lsub6_2 Sett.sub8_2 Sett.lsub8_2 Sett.len Post.at0 Post.lat0 Post.at1 Post.lat1 Post.at2 Post.lat2 Post.at3 Post.lat3 Post.at4 Post.lat4 Post.at5 Post.lat5 Post.at6 Post.lat6 Post.at7 Post.lat7 Post.at8 Post.lat8 Post.at9 Post.lat9 Post.at10 Post.lat10 Post.sub0_11 Post.lsub0_11 Post.sub1_10 Post.lsub1_10 Post.len Wcc.at0 Wcc.lat0 Wcc.at1 Wcc.lat1 Wcc.at2 Wcc.lat2 Wcc.at3 Wcc.lat3 Wcc.at4 Wcc.lat4 Wcc.at5 Wcc.lat5 Wcc.at6 Wcc.lat6 Wcc.at7 Wcc.lat7 Wcc.at8 Wcc.lat8 Wcc.at9 Wcc.lat9 Wcc.at10 Wcc.lat10 Wcc.at11 Wcc.lat11 Wcc.at12 Wcc.lat12 Wcc.sub0_13 Wcc.lsub0_13 Wcc.sub0_2 Wcc.lsub0_2 Wcc.sub2_11 Wcc.lsub2_11 Wcc.sub3_10 Wcc.lsub3_10 Wcc.len

def attrZ : Attr := ⟨0, 0, 0, 0, 0, 0, 0, 0, 0, 0⟩
theorem guardAttrR : Tryz.prog.eqGuardType Tryz.prog.depth 43 = false := by kernel_rfl
theorem leafsAttrR : leafs Tryz.prog 8 43 = some (List.replicate 10 (.i .i64)) := by kernel_rfl
theorem fitsAttrR (a : Attr) : fits (List.replicate 10 (.i .i64)) a.vals = true := by rfl
theorem valsAttr {a b : Attr} (h : a.vals = b.vals) : a = b := by
  cases a; cases b; simp_all [Attr.vals]
theorem eqAttrZ (a : Attr) (w : World) : (binOp .eql 43 (.agg a.vals.toArray) (.agg #[.int .i64 0, .int .i64 0, .int .i64 0, .int .i64 0, .int .i64 0, .int .i64 0, .int .i64 0, .int .i64 0, .int .i64 0, .int .i64 0])).run Tryz.prog w = .ok (.bool (decide (a = attrZ))) w := by
  show (binOp .eql 43 (.agg a.vals.toArray) (.agg attrZ.vals.toArray)).run Tryz.prog w = _
  by_cases h : a = attrZ
  · subst h
    rw [eql_same leafsAttrR (by kernel_rfl) w _ _ (fitsAttrR attrZ) rfl]
    simp
  · rw [eql_other leafsAttrR (by kernel_rfl) w _ _ (fitsAttrR a) (fitsAttrR attrZ) fun hh => h (valsAttr hh)]
    simp [h]
attribute [local go_sem ↓] eqAttrZ

attribute [local go_sem] guardAttrR

def Post.ok (p : Post) : Bool := if p.is then p.attr.ok else decide (p.attr = attrZ)
def Wcc.ok (c : Wcc) : Bool := c.before.ok 9223372036854775807 && c.after.ok

set_option maxHeartbeats 1600000 in
theorem post5_any (p : Post) (w : World) (hg : p.good) : Calls Tryz.prog 190 #[.agg p.vals.toArray] w fun e w' => e = .returned (.bool p.ok) ∧ Below w.heap.size w w' := by
  have hB0 : Below w.heap.size w (w.alloc (.cells p.vals.toArray 45)) := (Below.refl _ _).alloc (Nat.le_refl _) _
  cases hi : p.is
  · have HS := Lib.hid (show p.ok = decide (p.attr = attrZ) by simp [Post.ok, hi])
    go_enter Tryz.func190, Tryz.ntmps190
    go_wp2
    go_ret
    exact ⟨ret_bool HS.out.symm, hB0⟩
  · have HS := Lib.hid (show p.ok = p.attr.ok by simp [Post.ok, hi])
    go_enter Tryz.func190, Tryz.ntmps190
    go_wp2_with fail
    refine (check5_any p.attr _ hg).mono ?_
    rintro e w1 ⟨rfl, hb⟩
    have HB := Lib.hid (below_then hB0 hb)
    clear hb hB0
    cases ho : p.attr.ok
    all_goals
      have HO := Lib.hid ho
      clear ho
      go_wp2
      go_ret
      exact ⟨ret_bool (by rw [HS.out, HO.out]; rfl), HB.out⟩

set_option maxHeartbeats 1600000 in
theorem wcc5_any (c : Wcc) (w : World) (hg : c.good) : Calls Tryz.prog 193 #[.agg c.vals.toArray] w fun e w' => e = .returned (.bool c.ok) ∧ Below w.heap.size w w' := by
  have hB0 : Below w.heap.size w (w.alloc (.cells c.vals.toArray 47)) := (Below.refl _ _).alloc (Nat.le_refl _) _
  have hz : w.heap.size < (w.alloc (.cells c.vals.toArray 47)).heap.size := by simp
  go_enter Tryz.func193, Tryz.ntmps193
  go_wp2_with fail
  refine (option_any c.before 9223372036854775807 _).mono ?_
  rintro e w1 ⟨rfl, hb⟩
  have hs := Stb.of hb
  have hB1 := below_then hB0 hb
  clear hb
  cases hk : c.before.ok 9223372036854775807
  · have HS := Lib.hid (show c.ok = false by simp [Wcc.ok, hk])
    go_wp2
    go_ret
    exact ⟨ret_bool HS.out.symm, hB1⟩
  · have HS := Lib.hid (show c.ok = c.after.ok by simp [Wcc.ok, hk])
    clear hk
    go_wp2_with fail
    refine (post5_any c.after _ hg.2).mono ?_
    rintro e w2 ⟨rfl, hb⟩
    have HB := Lib.hid (below_then hB1 hb)
    clear hb
    go_wp2
    go_ret
    exact ⟨ret_bool HS.out.symm, HB.out⟩
/-- what was read, or none -/
def gotR {α : Type} (ok : α → Bool) (none : α) (x : α × Rs) : α × Int := if x.2.e ≠ 0 then (none, x.2.e) else if ok x.1 then (x.1, 0) else (none, 14)
def postZ : Post := ⟨false, attrZ⟩
def rPost (r : Rs) : Post × Rs := if (rBool r).1 then (⟨true, (rAttr (rBool r).2).1⟩, (rAttr (rBool r).2).2) else (postZ, (rBool r).2)
theorem rPost_len {r : Rs} (h : r.s.length ≤ 9223372036854775807) : (rPost r).2.s.length ≤ r.s.length := by
  have h1 := rBool_len h
  unfold rPost
  split
  · have := rAttr_len (r := (rBool r).2) (by omega)
    simp only
    omega
  · exact h1
theorem setAt_post (a : Attr) : setAt (Post.vals ⟨true, attrZ⟩) 1 a.vals = Post.vals ⟨true, a⟩ := rfl
end Go.Proofs.YtfjflkmhhbhceaaGreatDoor


/-
  Layer 5, walks: attributes, or none, as they come; what was read, if it may be. Conditions: a reader at a block of its own; texts are machine texts.
-/
namespace Go.Proofs.YtfjflkmhhbhceaaGreatDoor
open Go.RowKit
attribute [local go_sem ↓] Go.wp_at_zero Go.wp_at_succ
attribute [local go_sem] rowAt_ptr rowOf_drew rowOf_drewN rowOf_alloc_past rowOf_new
attribute [local go_sem ↓] ldAttrR ldOpt ldSet ldPost ldWcc

attribute [local go_sem] Attr.at0 Attr.lat0 Attr.at1 Attr.lat1 Attr.at2 Attr.lat2 Attr.at3 Attr.lat3 Attr.at4 Attr.lat4 Attr.at5 Attr.lat5 Attr.at6 Attr.lat6 Attr.at7 Attr.lat7 Attr.at8 Attr.lat8 Attr.at9 Attr.lat9 Attr.sub0_10 Attr.lsub0_10 Attr.len Opt.at0 Opt.lat0 Opt.at1 Opt.lat1 Opt.sub0_2 Opt.lsub0_2 Opt.len Sett.at0 Sett.lat0 Sett.at1 Sett.lat1 Sett.at2 Sett.lat2 Sett.at3 Sett.lat3 Sett.at4 Sett.lat4 Sett.at5 Sett.lat5 Sett.at6 Sett.lat6 Sett.at7 Sett.lat7 Sett.at8 Sett.lat8 Sett.at9 Sett.lat9 Sett.sub0_10 Sett.lsub0_10 Sett.sub0_2 Sett.lsub0_2 Sett.sub2_2 Sett.lsub2_2 Sett.sub4_2 Sett.lsub4_2 Sett.sub6_2 Sett.lsub6_2 Sett.sub8_2 Sett.lsub8_2 Sett.len Post.at0 Post.lat0 Post.at1 Post.lat1 Post.at2 Post.lat2 Post.at3 Post.lat3 Post.at4 Post.lat4 Post.at5 Post.lat5 Post.at6 Post.lat6 Post.at7 Post.lat7 Post.at8 Post.lat8 Post.at9 Post.lat9 Post.at10 Post.lat10 Post.sub0_11 Post.lsub0_11 Post.sub1_10 Post.lsub1_10 Post.len Wcc.at0 Wcc.lat0 Wcc.at1 Wcc.lat1 Wcc.at2 Wcc.lat2 Wcc.at3 Wcc.lat3 Wcc.at4 Wcc.lat4 Wcc.at5 Wcc.lat5 Wcc.at6 Wcc.lat6 Wcc.at7 Wcc.lat7 Wcc.at8 Wcc.lat8 Wcc.at9 Wcc.lat9 Wcc.at10 Wcc.lat10 Wcc.at11 Wcc.lat11 Wcc.at12 Wcc.lat12 Wcc.sub0_13 Wcc.lsub0_13 Wcc.sub0_2 Wcc.lsub0_2 Wcc.sub2_11 Wcc.lsub2_11 Wcc.sub3_10 Wcc.lsub3_10 Wcc.len

set_option maxHeartbeats 1600000 in
theorem posted_any (g : Nat) (r : Rs) (w : World) (hR : Rd w g r) (hl : r.s.length ≤ 9223372036854775807) :
    Calls Tryz.prog 189 #[.pointer (some ⟨g, 0, none⟩)] w (Gave g (rPost r).2 (.agg (rPost r).1.vals.toArray) w) := by
  have hb := Blk.new w 45 postZ.vals
  have hB : Below w.heap.size w (w.alloc (.cells postZ.vals.toArray 45)) := (Below.refl _ _).alloc (Nat.le_refl _) _
  have hR1 := hR.stays hB
  have hne : w.heap.size ≠ g := Nat.ne_of_gt hR.lt
  have hgl := hR.lt
  have hl1 := rBool_len hl
  clear hR
  cases hq : (rBool r).1
  · have HN := Lib.hid (show rPost r = (postZ, (rBool r).2) by simp [rPost, hq])
    go_enter Tryz.func189, Tryz.ntmps189
    go_wp2_with fail
    change Calls _ _ _ (w.alloc (.cells postZ.vals.toArray 45)) _
    generalize w.alloc (.cells postZ.vals.toArray 45) = w0 at *
    refine (rBool_any g r _ hR1 hl).mono ?_
    rintro e w1 ⟨rfl, hQ⟩
    have hb1 := (hQ.keeps hb hne).alloc (.cells postZ.vals.toArray 45)
    have hQ1 := (Reads.behind hB hQ).new ((Below.refl _ _).alloc (Nat.le_refl _) (.cells postZ.vals.toArray 45))
    have HQ := Lib.hid (Reads.lay (cs := postZ.vals) hQ1 hb1 rfl hne (Nat.le_refl _))
    clear hQ hb hQ1
    go_wp2_with (first | (refine wpList_store_whole (by rfl) 45 _ _ (by rfl) w.heap.size postZ.vals _ hb1 (by rfl) (by rfl) (by rfl) (by kernel_rfl) (Post.one _) ?_) | fail)
    refine ret_cells w.heap.size 0 postZ.vals Tryz.results189 Tryz.underlying45 rfl (by kernel_rfl) rfl HQ.out.2.range rfl ?_
    rw [HN.out]
    exact ⟨rfl, HQ.out.1⟩
  · obtain ⟨x, hx⟩ : ∃ x, x = rAttr (rBool r).2 := ⟨_, rfl⟩
    have HN := Lib.hid (show rPost r = (⟨true, x.1⟩, x.2) by rw [hx]; simp [rPost, hq])
    have HX := Lib.hid hx
    clear hx
    go_enter Tryz.func189, Tryz.ntmps189
    go_wp2_with fail
    change Calls _ _ _ (w.alloc (.cells postZ.vals.toArray 45)) _
    generalize w.alloc (.cells postZ.vals.toArray 45) = w0 at *
    refine (rBool_any g r _ hR1 hl).mono ?_
    rintro e w1 ⟨rfl, hQ⟩
    have hb1 := (hQ.keeps hb hne).alloc (.cells (Post.vals ⟨true, attrZ⟩).toArray 45)
    have hp1 := Blk.new w1 45 (Post.vals ⟨true, attrZ⟩)
    have hQ1 := (Reads.behind hB hQ).new ((Below.refl _ _).alloc (Nat.le_refl _) (.cells (Post.vals ⟨true, attrZ⟩).toArray 45))
    have hR2 := hQ1.1
    have hne1 : w1.heap.size ≠ g := by have := hQ.1.lt; omega
    have hlt2 : w.heap.size < w1.heap.size := (hQ.keeps hb hne).lt
    have hne2 : w.heap.size ≠ w1.heap.size := by omega
    clear hQ hb
    go_wp2_with fail
    change Calls _ _ _ (w1.alloc (.cells (Post.vals ⟨true, attrZ⟩).toArray 45)) _
    generalize w1.alloc (.cells (Post.vals ⟨true, attrZ⟩).toArray 45) = w2 at *
    refine (attrRead_any g (rBool r).2 _ hR2 (by omega)).mono ?_
    rintro e w3 ⟨he, hQ3⟩
    rw [← HX.out] at he hQ3
    subst he
    obtain ⟨av, rr⟩ := x
    simp only at hQ3 HN
    have hb3 := hQ3.keeps hb1 hne
    have hp3 := hQ3.keeps hp1 hne1
    have hQ4 := hQ1.trans hQ3
    have hp4 := hp3.sets av.vals _ 1
    rw [setAt_post] at hp4
    have hb4 := Blk.farCells (g := w.heap.size) hne2 av.vals 1 _ hb3
    have hQ5 : Reads g rr w (w3.setCells w1.heap.size 1 av.vals) := ⟨hQ4.1.touch (Touch.setCells (F := fun k => k = w1.heap.size) (.inl rfl) _ 1 w3 (Touch.refl _ _)) (fun hh => hne1 hh.symm), Touch.setCells (.inr (by omega)) _ 1 w3 hQ4.2⟩
    have rp : rowOf (w3.setCells w1.heap.size 1 av.vals) w1.heap.size 0 11 = some (Post.vals ⟨true, av⟩).toArray := hp4.row 0 11 (by simp [Post.len])
    have HQ := Lib.hid (Reads.lay (cs := Post.vals ⟨true, av⟩) hQ5 hb4 rfl hne (Nat.le_refl _))
    obtain ⟨w4, hw4⟩ : ∃ w4, w4 = w3.setCells w1.heap.size 1 av.vals := ⟨_, rfl⟩
    rw [← hw4] at rp HQ hb4
    have HW4 := Lib.hid hw4
    clear hQ1 hQ3 hQ4 hQ5 hp4 hb1 hb3 hp1 hR2 hw4
    go_wp2_with (first | (refine wpList_store_part (by rfl) 43 _ _ (by rfl) w1.heap.size 1 av.vals _ hp3 (by simp [Attr.len, Post.len]) (by rfl) (by rfl) (by kernel_rfl) (Attr.one _) ?_; rw [← HW4.out]) | (refine wpList_store_whole (by rfl) 45 _ _ (by rfl) w.heap.size (Post.vals ⟨true, av⟩) _ hb4 (by rfl) (by rfl) (by rfl) (by kernel_rfl) (Post.one _) ?_) | fail)
    refine ret_cells w.heap.size 0 (Post.vals ⟨true, av⟩) Tryz.results189 Tryz.underlying45 rfl (by kernel_rfl) rfl HQ.out.2.range rfl ?_
    rw [HN.out]
    exact ⟨rfl, HQ.out.1⟩

def wccZ : Wcc := ⟨⟨false, 0⟩, postZ⟩
def settZ : Sett := ⟨⟨false, 0⟩, ⟨false, 0⟩, ⟨false, 0⟩, ⟨false, 0⟩, ⟨false, 0⟩⟩
/-- both results of 'got' -/
def gotV (cs : List Value) (n : Int) : Value := .tuple #[.agg cs.toArray, .int .i64 n]

set_option maxHeartbeats 1600000 in
theorem gotPost_any (g : Nat) (r : Rs) (v : Post) (w : World) (hR : Rd w g r) (hg : v.good) :
    Calls Tryz.prog 188 #[.pointer (some ⟨g, 0, none⟩), .agg v.vals.toArray, .func (.func 190) #[] #[]] w fun e w' => e = .returned (gotV (gotR Post.ok postZ (v, r)).1.vals (gotR Post.ok postZ (v, r)).2) ∧ Below w.heap.size w w' := by
  obtain ⟨bv, br, bz, hB, hsz⟩ := chain3_blks w v.vals postZ.vals postZ.vals 45 45 45
  have hR1 := hR.stays hB
  have rz : rowOf (((w.alloc (.cells v.vals.toArray 45)).alloc (.cells postZ.vals.toArray 45)).alloc (.cells postZ.vals.toArray 45)) (w.heap.size + 1 + 1) 0 11 = some postZ.vals.toArray := bz.row 0 11 (by simp [Post.len])
  have rv : rowOf (((w.alloc (.cells v.vals.toArray 45)).alloc (.cells postZ.vals.toArray 45)).alloc (.cells postZ.vals.toArray 45)) w.heap.size 0 11 = some v.vals.toArray := bv.row 0 11 (by simp [Post.len])
  have l0 : w.heap.size < (((w.alloc (.cells v.vals.toArray 45)).alloc (.cells postZ.vals.toArray 45)).alloc (.cells postZ.vals.toArray 45)).heap.size := by omega
  have l2 : w.heap.size + 1 + 1 < (((w.alloc (.cells v.vals.toArray 45)).alloc (.cells postZ.vals.toArray 45)).alloc (.cells postZ.vals.toArray 45)).heap.size := by omega
  clear hsz bv bz hR
  by_cases he : r.e = 0
  · have he' : (r.e != 0) = false := by simpa using he
    have HE := Lib.hid he
    clear he
    go_enter Tryz.func188, Tryz.ntmps188
    go_wp2_with fail
    change Calls _ _ _ (((w.alloc (.cells v.vals.toArray 45)).alloc (.cells postZ.vals.toArray 45)).alloc (.cells postZ.vals.toArray 45)) _
    generalize ((w.alloc (.cells v.vals.toArray 45)).alloc (.cells postZ.vals.toArray 45)).alloc (.cells postZ.vals.toArray 45) = W at *
    refine (rErr_any g r _ hR1).mono ?_
    rintro e w1 ⟨rfl, rfl⟩
    go_wp2_with fail
    refine (post5_any v _ hg).mono ?_
    rintro e w2 ⟨rfl, hb⟩
    have hs := Stb.of hb
    have br2 := br.stays hb
    have hB2 := below_then hB hb
    clear hb
    cases ho : v.ok
    · have HN := Lib.hid (show gotR Post.ok postZ (v, r) = (postZ, 14) by simp [gotR, HE.out, ho])
      clear ho
      go_wp2_with (first | (refine wpList_store_whole (by rfl) 45 _ _ (by rfl) (w.heap.size + 1) postZ.vals _ br2 (by rfl) (by rfl) (by rfl) (by kernel_rfl) (Post.one _) ?_) | fail)
      refine ret_cells2 (w.heap.size + 1) 0 postZ.vals (.int .i64 14) Tryz.results188 Tryz.underlying45 rfl (by kernel_rfl) rfl rfl (br2.whole (by rfl)).range rfl ?_
      rw [HN.out]
      exact ⟨rfl, Below.setWhole hB2 (by omega) _⟩
    · have HN := Lib.hid (show gotR Post.ok postZ (v, r) = (v, 0) by simp [gotR, HE.out, ho])
      clear ho
      go_wp2_with (first | (refine wpList_store_whole (by rfl) 45 _ _ (by rfl) (w.heap.size + 1) v.vals _ br2 (by rfl) (by rfl) (by rfl) (by kernel_rfl) (Post.one _) ?_) | fail)
      refine ret_cells2 (w.heap.size + 1) 0 v.vals (.int .i64 0) Tryz.results188 Tryz.underlying45 rfl (by kernel_rfl) rfl rfl (br2.whole (by rfl)).range rfl ?_
      rw [HN.out]
      exact ⟨rfl, Below.setWhole hB2 (by omega) _⟩
  · have he' : (r.e != 0) = true := by simpa using he
    have HN := Lib.hid (show gotR Post.ok postZ (v, r) = (postZ, r.e) by simp [gotR, he])
    clear he
    go_enter Tryz.func188, Tryz.ntmps188
    go_wp2_with fail
    change Calls _ _ _ (((w.alloc (.cells v.vals.toArray 45)).alloc (.cells postZ.vals.toArray 45)).alloc (.cells postZ.vals.toArray 45)) _
    generalize ((w.alloc (.cells v.vals.toArray 45)).alloc (.cells postZ.vals.toArray 45)).alloc (.cells postZ.vals.toArray 45) = W at *
    refine (rErr_any g r _ hR1).mono ?_
    rintro e w1 ⟨rfl, rfl⟩
    go_wp2_with (first | (refine wpList_store_whole (by rfl) 45 _ _ (by rfl) (w.heap.size + 1) postZ.vals _ br (by rfl) (by rfl) (by rfl) (by kernel_rfl) (Post.one _) ?_) | fail)
    refine ret_cells2 (w.heap.size + 1) 0 postZ.vals (.int .i64 r.e) Tryz.results188 Tryz.underlying45 rfl (by kernel_rfl) rfl rfl (br.whole (by rfl)).range rfl ?_
    rw [HN.out]
    exact ⟨rfl, Below.setWhole hB (by omega) _⟩

set_option maxHeartbeats 1600000 in
theorem gotWcc_any (g : Nat) (r : Rs) (v : Wcc) (w : World) (hR : Rd w g r) (hg : v.good) :
    Calls Tryz.prog 192 #[.pointer (some ⟨g, 0, none⟩), .agg v.vals.toArray, .func (.func 193) #[] #[]] w fun e w' => e = .returned (gotV (gotR Wcc.ok wccZ (v, r)).1.vals (gotR Wcc.ok wccZ (v, r)).2) ∧ Below w.heap.size w w' := by
  obtain ⟨bv, br, bz, hB, hsz⟩ := chain3_blks w v.vals wccZ.vals wccZ.vals 47 47 47
  have hR1 := hR.stays hB
  have rz : rowOf (((w.alloc (.cells v.vals.toArray 47)).alloc (.cells wccZ.vals.toArray 47)).alloc (.cells wccZ.vals.toArray 47)) (w.heap.size + 1 + 1) 0 13 = some wccZ.vals.toArray := bz.row 0 13 (by simp [Wcc.len])
  have rv : rowOf (((w.alloc (.cells v.vals.toArray 47)).alloc (.cells wccZ.vals.toArray 47)).alloc (.cells wccZ.vals.toArray 47)) w.heap.size 0 13 = some v.vals.toArray := bv.row 0 13 (by simp [Wcc.len])
  have l0 : w.heap.size < (((w.alloc (.cells v.vals.toArray 47)).alloc (.cells wccZ.vals.toArray 47)).alloc (.cells wccZ.vals.toArray 47)).heap.size := by omega
  have l2 : w.heap.size + 1 + 1 < (((w.alloc (.cells v.vals.toArray 47)).alloc (.cells wccZ.vals.toArray 47)).alloc (.cells wccZ.vals.toArray 47)).heap.size := by omega
  clear hsz bv bz hR
  by_cases he : r.e = 0
  · have he' : (r.e != 0) = false := by simpa using he
    have HE := Lib.hid he
    clear he
    go_enter Tryz.func192, Tryz.ntmps192
    go_wp2_with fail
    change Calls _ _ _ (((w.alloc (.cells v.vals.toArray 47)).alloc (.cells wccZ.vals.toArray 47)).alloc (.cells wccZ.vals.toArray 47)) _
    generalize ((w.alloc (.cells v.vals.toArray 47)).alloc (.cells wccZ.vals.toArray 47)).alloc (.cells wccZ.vals.toArray 47) = W at *
    refine (rErr_any g r _ hR1).mono ?_
    rintro e w1 ⟨rfl, rfl⟩
    go_wp2_with fail
    refine (wcc5_any v _ hg).mono ?_
    rintro e w2 ⟨rfl, hb⟩
    have hs := Stb.of hb
    have br2 := br.stays hb
    have hB2 := below_then hB hb
    clear hb
    cases ho : v.ok
    · have HN := Lib.hid (show gotR Wcc.ok wccZ (v, r) = (wccZ, 14) by simp [gotR, HE.out, ho])
      clear ho
      go_wp2_with (first | (refine wpList_store_whole (by rfl) 47 _ _ (by rfl) (w.heap.size + 1) wccZ.vals _ br2 (by rfl) (by rfl) (by rfl) (by kernel_rfl) (Wcc.one _) ?_) | fail)
      refine ret_cells2 (w.heap.size + 1) 0 wccZ.vals (.int .i64 14) Tryz.results192 Tryz.underlying47 rfl (by kernel_rfl) rfl rfl (br2.whole (by rfl)).range rfl ?_
      rw [HN.out]
      exact ⟨rfl, Below.setWhole hB2 (by omega) _⟩
    · have HN := Lib.hid (show gotR Wcc.ok wccZ (v, r) = (v, 0) by simp [gotR, HE.out, ho])
      clear ho
      go_wp2_with (first | (refine wpList_store_whole (by rfl) 47 _ _ (by rfl) (w.heap.size + 1) v.vals _ br2 (by rfl) (by rfl) (by rfl) (by kernel_rfl) (Wcc.one _) ?_) | fail)
      refine ret_cells2 (w.heap.size + 1) 0 v.vals (.int .i64 0) Tryz.results192 Tryz.underlying47 rfl (by kernel_rfl) rfl rfl (br2.whole (by rfl)).range rfl ?_
      rw [HN.out]
      exact ⟨rfl, Below.setWhole hB2 (by omega) _⟩
  · have he' : (r.e != 0) = true := by simpa using he
    have HN := Lib.hid (show gotR Wcc.ok wccZ (v, r) = (wccZ, r.e) by simp [gotR, he])
    clear he
    go_enter Tryz.func192, Tryz.ntmps192
    go_wp2_with fail
    change Calls _ _ _ (((w.alloc (.cells v.vals.toArray 47)).alloc (.cells wccZ.vals.toArray 47)).alloc (.cells wccZ.vals.toArray 47)) _
    generalize ((w.alloc (.cells v.vals.toArray 47)).alloc (.cells wccZ.vals.toArray 47)).alloc (.cells wccZ.vals.toArray 47) = W at *
    refine (rErr_any g r _ hR1).mono ?_
    rintro e w1 ⟨rfl, rfl⟩
    go_wp2_with (first | (refine wpList_store_whole (by rfl) 47 _ _ (by rfl) (w.heap.size + 1) wccZ.vals _ br (by rfl) (by rfl) (by rfl) (by kernel_rfl) (Wcc.one _) ?_) | fail)
    refine ret_cells2 (w.heap.size + 1) 0 wccZ.vals (.int .i64 r.e) Tryz.results192 Tryz.underlying47 rfl (by kernel_rfl) rfl rfl (br.whole (by rfl)).range rfl ?_
    rw [HN.out]
    exact ⟨rfl, Below.setWhole hB (by omega) _⟩

end Go.Proofs.YtfjflkmhhbhceaaGreatDoor


/-
  Layer 5, walks: attributes, or none, are got. Conditions: a reader at a block of its own; texts are machine texts.
-/
namespace Go.Proofs.YtfjflkmhhbhceaaGreatDoor
open Go.RowKit
attribute [local go_sem ↓] Go.wp_at_zero Go.wp_at_succ
attribute [local go_sem] rowAt_ptr rowOf_drew rowOf_drewN rowOf_alloc_past rowOf_new
attribute [local go_sem ↓] ldAttrR ldOpt ldSet ldPost ldWcc

attribute [local go_sem] Attr.at0 Attr.lat0 Attr.at1 Attr.lat1 Attr.at2 Attr.lat2 Attr.at3 Attr.lat3 Attr.at4 Attr.lat4 Attr.at5 Attr.lat5 Attr.at6 Attr.lat6 Attr.at7 Attr.lat7 Attr.at8 Attr.lat8 Attr.at9 Attr.lat9 Attr.sub0_10 Attr.lsub0_10 Attr.len Opt.at0 Opt.lat0 Opt.at1 Opt.lat1 Opt.sub0_2 Opt.lsub0_2 Opt.len Sett.at0 Sett.lat0 Sett.at1 Sett.lat1 Sett.at2 Sett.lat2 Sett.at3 Sett.lat3 Sett.at4 Sett.lat4 Sett.at5 Sett.lat5 Sett.at6 Sett.lat6 Sett.at7 Sett.lat7 Sett.at8 Sett.lat8 Sett.at9 Sett.lat9 Sett.sub0_10 Sett.lsub0_10 Sett.sub0_2 Sett.lsub0_2 Sett.sub2_2 Sett.lsub2_2 Sett.sub4_2 Sett.lsub4_2 Sett.sub6_2 Sett.lsub6_2 Sett.sub8_2 Sett.lsub8_2 Sett.len Post.at0 Post.lat0 Post.at1 Post.lat1 Post.at2 Post.lat2 Post.at3 Post.lat3 Post.at4 Post.lat4 Post.at5 Post.lat5 Post.at6 Post.lat6 Post.at7 Post.lat7 Post.at8 Post.lat8 Post.at9 Post.lat9 Post.at10 Post.lat10 Post.sub0_11 Post.lsub0_11 Post.sub1_10 Post.lsub1_10 Post.len Wcc.at0 Wcc.lat0 Wcc.at1 Wcc.lat1 Wcc.at2 Wcc.lat2 Wcc.at3 Wcc.lat3 Wcc.at4 Wcc.lat4 Wcc.at5 Wcc.lat5 Wcc.at6 Wcc.lat6 Wcc.at7 Wcc.lat7 Wcc.at8 Wcc.lat8 Wcc.at9 Wcc.lat9 Wcc.at10 Wcc.lat10 Wcc.at11 Wcc.lat11 Wcc.at12 Wcc.lat12 Wcc.sub0_13 Wcc.lsub0_13 Wcc.sub0_2 Wcc.lsub0_2 Wcc.sub2_11 Wcc.lsub2_11 Wcc.sub3_10 Wcc.lsub3_10 Wcc.len optV

theorem wf_nat {n : Nat} (h : n < 9223372036854775808) : (Lit.int .i64 (n : Int)).wf = true := by
  exact Go.WalkArith.wf_i64 (by omega)
theorem rOne_lt {b : Bool} {r : Rs} (h : r.s.length ≤ 9223372036854775807) : (rOne b r).1 < 9223372036854775808 := by
  cases b
  · have : (rU32 r).1 < 4294967296 := (rNum_lt (k := 4) h).1
    show (rU32 r).1 < _
    omega
  · show (rU64 r).1 < _
    unfold rU64
    split
    · simp only; omega
    · omega
theorem rMany_lt (l : List Bool) (r : Rs) (h : r.s.length ≤ 9223372036854775807) : ∀ n ∈ (rMany l r).1, n < 9223372036854775808 := by
  induction l generalizing r with
  | nil => simp [rMany]
  | cons b l ih =>
    intro n hn
    simp only [rMany, List.mem_cons] at hn
    rcases hn with rfl | hn
    · exact rOne_lt h
    · exact ih _ (Nat.le_trans (rOne_len h) h) n hn
theorem getD_lt {l : List Nat} (h : ∀ n ∈ l, n < 9223372036854775808) (i : Nat) : l.getD i 0 < 9223372036854775808 := by
  rw [List.getD_eq_getElem?_getD]
  cases hi : l[i]? with
  | none => simp
  | some n => exact h n (List.mem_of_getElem? hi)
theorem rAttr_good {r : Rs} (h : r.s.length ≤ 9223372036854775807) : (rAttr r).1.good := by
  have hl := getD_lt (rMany_lt attrW r h)
  exact ⟨wf_nat (hl 0), wf_nat (hl 1), wf_nat (hl 2), wf_nat (hl 3), wf_nat (hl 4), wf_nat (hl 5), wf_nat (hl 6), wf_nat (hl 7), wf_nat (hl 8), wf_nat (hl 9)⟩
theorem attrZ_good : attrZ.good := ⟨rfl, rfl, rfl, rfl, rfl, rfl, rfl, rfl, rfl, rfl⟩
theorem rPost_good {r : Rs} (h : r.s.length ≤ 9223372036854775807) : (rPost r).1.good := by
  have := rBool_len h
  unfold rPost
  split
  · exact rAttr_good (r := (rBool r).2) (by omega)
  · exact attrZ_good
def optOf (o : Bool × Nat) : Opt := ⟨o.1, o.2⟩
theorem rOpt_good {r : Rs} (h : r.s.length ≤ 9223372036854775807) : (optOf (rOpt r).1).good := by
  have h1 := rBool_len h
  have h2 := rOne_lt (b := true) (r := (rBool r).2) (by omega)
  unfold rOpt
  split
  · split
    · exact wf_nat (n := 0) (by omega)
    · exact wf_nat h2
  · exact wf_nat (n := 0) (by omega)
def rWcc (r : Rs) : Wcc × Rs := (⟨optOf (rOpt r).1, (rPost (rOpt r).2).1⟩, (rPost (rOpt r).2).2)
theorem rWcc_good {r : Rs} (h : r.s.length ≤ 9223372036854775807) : (rWcc r).1.good := ⟨rOpt_good h, rPost_good (Nat.le_trans (rOpt_len h) h)⟩

set_option maxHeartbeats 1600000 in
theorem getPost_any (g : Nat) (r : Rs) (w : World) (hR : Rd w g r) (hl : r.s.length ≤ 9223372036854775807) :
    Calls Tryz.prog 175 #[.pointer (some ⟨g, 0, none⟩)] w (Gave g (rPost r).2 (gotV (gotR Post.ok postZ (rPost r)).1.vals (gotR Post.ok postZ (rPost r)).2) w) := by
  have hb := Blk.new w 45 postZ.vals
  have hB : Below w.heap.size w (w.alloc (.cells postZ.vals.toArray 45)) := (Below.refl _ _).alloc (Nat.le_refl _) _
  have hR1 := hR.stays hB
  have hne : w.heap.size ≠ g := Nat.ne_of_gt hR.lt
  have hgl := hR.lt
  clear hR
  go_enter Tryz.func175, Tryz.ntmps175
  go_wp2_with fail
  change Calls _ _ _ (w.alloc (.cells postZ.vals.toArray 45)) _
  generalize w.alloc (.cells postZ.vals.toArray 45) = w0 at *
  refine (posted_any g r _ hR1 hl).mono ?_
  rintro e w1 ⟨he, hQ⟩
  have hg := rPost_good hl
  obtain ⟨x, hx⟩ : ∃ x, x = rPost r := ⟨_, rfl⟩
  rw [← hx] at he hQ hg
  have HX := Lib.hid hx
  clear hx
  subst he
  have hb1 := hQ.keeps hb hne
  have hQ1 := Reads.behind hB hQ
  clear hQ hb
  go_wp2_with fail
  refine (gotPost_any g x.2 x.1 _ hQ1.1 hg).mono ?_
  rintro e w2 ⟨he, hb⟩
  have hb2 := hb1.stays hb
  have hQ2 := hQ1.new hb
  obtain ⟨y, hy⟩ : ∃ y, y = gotR Post.ok postZ (x.1, x.2) := ⟨_, rfl⟩
  rw [← hy] at he
  have HY := Lib.hid hy
  clear hy hb hb1 hQ1
  subst he
  unfold gotV
  obtain ⟨y1, y2⟩ := y
  have HQ := Lib.hid (Reads.lay (cs := y1.vals) hQ2 hb2 rfl hne (Nat.le_refl _))
  clear hQ2
  go_wp2_with (first | (refine wpList_store_whole (by rfl) 45 _ _ (by rfl) w.heap.size y1.vals _ hb2 (by rfl) (by rfl) (by rfl) (by kernel_rfl) (Post.one _) ?_) | fail)
  refine ret_cells2 w.heap.size 0 y1.vals (.int .i64 y2) Tryz.results175 Tryz.underlying45 rfl (by kernel_rfl) rfl rfl HQ.out.2.range rfl ?_
  have h2 := HQ.out.1
  rw [HX.out] at h2 HY
  rw [← HY.out]
  exact ⟨rfl, h2⟩

end Go.Proofs.YtfjflkmhhbhceaaGreatDoor


/-
  Layer 1, walks: a thing of a kind is taken, by the program's reader and by the document's (written by wip/tools/gentake.py). Conditions: sizes.
-/
namespace Go.Proofs.YtfjflkmhhbhceaaGreatDoor
open Go.RowKit
end Go.Proofs.YtfjflkmhhbhceaaGreatDoor
