/-
  Layer 5, walks: whether attributes, or none, and what was ahead and behind, may be, by the program and by the reference. No condition but machine numbers.
-/
import Derived.Test.YtjepemfllgjhfaaAttrReadB
import Derived.Test.YtjepemfllgjhfaaRefReadB
namespace Go.Proofs.Ytjepemfllgjhfaa
open Go.RowKit
attribute [local go_sem ↓] Go.wp_at_zero Go.wp_at_succ
attribute [local go_sem] rowAt_ptr rowOf_drew rowOf_drewN rowOf_alloc_past rowOf_new
attribute [local go_sem ↓] ldAttrR ldOpt ldSet ldPost ldWcc

attribute [local go_sem] Attr.at0 Attr.lat0 Attr.at1 Attr.lat1 Attr.at2 Attr.lat2 Attr.at3 Attr.lat3 Attr.at4 Attr.lat4 Attr.at5 Attr.lat5 Attr.at6 Attr.lat6 Attr.at7 Attr.lat7 Attr.at8 Attr.lat8 Attr.at9 Attr.lat9 Attr.sub0_10 Attr.lsub0_10 Attr.len Opt.at0 Opt.lat0 Opt.at1 Opt.lat1 Opt.sub0_2 Opt.lsub0_2 Opt.len Sett.at0 Sett.lat0 Sett.at1 Sett.lat1 Sett.at2 Sett.lat2 Sett.at3 Sett.lat3 Sett.at4 Sett.lat4 Sett.at5 Sett.lat5 Sett.at6 Sett.lat6 Sett.at7 Sett.lat7 Sett.at8 Sett.lat8 Sett.at9 Sett.lat9 Sett.sub0_10 Sett.lsub0_10 Sett.sub0_2 Sett.lsub0_2 Sett.sub2_2 Sett.lsub2_2 Sett.sub4_2 Sett.lsub4_2 Sett.sub6_2 Sett.lsub6_2 Sett.sub8_2 Sett.lsub8_2 Sett.len Post.at0 Post.lat0 Post.at1 Post.lat1 Post.at2 Post.lat2 Post.at3 Post.lat3 Post.at4 Post.lat4 Post.at5 Post.lat5 Post.at6 Post.lat6 Post.at7 Post.lat7 Post.at8 Post.lat8 Post.at9 Post.lat9 Post.at10 Post.lat10 Post.sub0_11 Post.lsub0_11 Post.sub1_10 Post.lsub1_10 Post.len Wcc.at0 Wcc.lat0 Wcc.at1 Wcc.lat1 Wcc.at2 Wcc.lat2 Wcc.at3 Wcc.lat3 Wcc.at4 Wcc.lat4 Wcc.at5 Wcc.lat5 Wcc.at6 Wcc.lat6 Wcc.at7 Wcc.lat7 Wcc.at8 Wcc.lat8 Wcc.at9 Wcc.lat9 Wcc.at10 Wcc.lat10 Wcc.at11 Wcc.lat11 Wcc.at12 Wcc.lat12 Wcc.sub0_13 Wcc.lsub0_13 Wcc.sub0_2 Wcc.lsub0_2 Wcc.sub2_11 Wcc.lsub2_11 Wcc.sub3_10 Wcc.lsub3_10 Wcc.len

def attrZ : Attr := ⟨0, 0, 0, 0, 0, 0, 0, 0, 0, 0⟩
theorem guardAttrR : Try.prog.eqGuardType Try.prog.depth 41 = false := by kernel_rfl
theorem leafsAttrR : leafs Try.prog 8 41 = some (List.replicate 10 (.i .i64)) := by kernel_rfl
theorem fitsAttrR (a : Attr) : fits (List.replicate 10 (.i .i64)) a.vals = true := by rfl
theorem valsAttr {a b : Attr} (h : a.vals = b.vals) : a = b := by
  cases a; cases b; simp_all [Attr.vals]
theorem eqAttrZ (a : Attr) (w : World) : (binOp .eql 41 (.agg a.vals.toArray) (.agg #[.int .i64 0, .int .i64 0, .int .i64 0, .int .i64 0, .int .i64 0, .int .i64 0, .int .i64 0, .int .i64 0, .int .i64 0, .int .i64 0])).run Try.prog w = .ok (.bool (decide (a = attrZ))) w := by
  show (binOp .eql 41 (.agg a.vals.toArray) (.agg attrZ.vals.toArray)).run Try.prog w = _
  by_cases h : a = attrZ
  · subst h
    rw [eql_same leafsAttrR (by kernel_rfl) w _ _ (fitsAttrR attrZ) rfl]
    simp
  · rw [eql_other leafsAttrR (by kernel_rfl) w _ _ (fitsAttrR a) (fitsAttrR attrZ) fun hh => h (valsAttr hh)]
    simp [h]
attribute [local go_sem ↓] eqAttrZ

attribute [local go_sem] guardAttrR

def Post.ok (p : Post) : Bool := if p.is then p.attr.ok else decide (p.attr = attrZ)
def Wcc.ok (c : Wcc) : Bool := c.before.ok 9223372036854775807 && c.after.ok

set_option maxHeartbeats 1600000 in
theorem post5_any (p : Post) (w : World) (hg : p.good) : Calls Try.prog 107 #[.agg p.vals.toArray] w fun e w' => e = .returned (.bool p.ok) ∧ Below w.heap.size w w' := by
  have hB0 : Below w.heap.size w (w.alloc (.cells p.vals.toArray 43)) := (Below.refl _ _).alloc (Nat.le_refl _) _
  cases hi : p.is
  · have HS := Lib.hid (show p.ok = decide (p.attr = attrZ) by simp [Post.ok, hi])
    go_enter Try.func107, Try.ntmps107
    go_wp2
    go_ret
    exact ⟨ret_bool HS.out.symm, hB0⟩
  · have HS := Lib.hid (show p.ok = p.attr.ok by simp [Post.ok, hi])
    go_enter Try.func107, Try.ntmps107
    go_wp2_with fail
    refine (check5_any p.attr _ hg).mono ?_
    rintro e w1 ⟨rfl, hb⟩
    have HB := Lib.hid (below_then hB0 hb)
    clear hb hB0
    cases ho : p.attr.ok
    all_goals
      have HO := Lib.hid ho
      clear ho
      go_wp2
      go_ret
      exact ⟨ret_bool (by rw [HS.out, HO.out]; rfl), HB.out⟩

set_option maxHeartbeats 1600000 in
theorem wcc5_any (c : Wcc) (w : World) (hg : c.good) : Calls Try.prog 108 #[.agg c.vals.toArray] w fun e w' => e = .returned (.bool c.ok) ∧ Below w.heap.size w w' := by
  have hB0 : Below w.heap.size w (w.alloc (.cells c.vals.toArray 55)) := (Below.refl _ _).alloc (Nat.le_refl _) _
  have hz : w.heap.size < (w.alloc (.cells c.vals.toArray 55)).heap.size := by simp
  go_enter Try.func108, Try.ntmps108
  go_wp2_with fail
  refine (option_any c.before 9223372036854775807 _).mono ?_
  rintro e w1 ⟨rfl, hb⟩
  have hs := Stb.of hb
  have hB1 := below_then hB0 hb
  clear hb
  cases hk : c.before.ok 9223372036854775807
  · have HS := Lib.hid (show c.ok = false by simp [Wcc.ok, hk])
    go_wp2
    go_ret
    exact ⟨ret_bool HS.out.symm, hB1⟩
  · have HS := Lib.hid (show c.ok = c.after.ok by simp [Wcc.ok, hk])
    clear hk
    go_wp2_with fail
    refine (post5_any c.after _ hg.2).mono ?_
    rintro e w2 ⟨rfl, hb⟩
    have HB := Lib.hid (below_then hB1 hb)
    clear hb
    go_wp2
    go_ret
    exact ⟨ret_bool HS.out.symm, HB.out⟩
/-- what was read, or none -/
def gotR {α : Type} (ok : α → Bool) (none : α) (x : α × Rs) : α × Int := if x.2.e ≠ 0 then (none, x.2.e) else if ok x.1 then (x.1, 0) else (none, 14)
def postZ : Post := ⟨false, attrZ⟩
def rPost (r : Rs) : Post × Rs := if (rBool r).1 then (⟨true, (rAttr (rBool r).2).1⟩, (rAttr (rBool r).2).2) else (postZ, (rBool r).2)
theorem rPost_len {r : Rs} (h : r.s.length ≤ 9223372036854775807) : (rPost r).2.s.length ≤ r.s.length := by
  have h1 := rBool_len h
  unfold rPost
  split
  · have := rAttr_len (r := (rBool r).2) (by omega)
    simp only
    omega
  · exact h1
theorem setAt_post (a : Attr) : setAt (Post.vals ⟨true, attrZ⟩) 1 a.vals = Post.vals ⟨true, a⟩ := rfl
end Go.Proofs.Ytjepemfllgjhfaa
