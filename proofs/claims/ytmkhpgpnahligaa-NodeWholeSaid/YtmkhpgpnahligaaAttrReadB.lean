/-
  Layer 5, walks: whether attributes, or none, and what was ahead and behind, may be. No condition.
-/
import Derived.Test.YtmkhpgpnahligaaAttrReadA
import Derived.Test.YtmkhpgpnahligaaAttrWalkB
import Derived.Test.YtmkhpgpnahligaaStructEq
namespace Go.Proofs.Ytmkhpgpnahligaa
open Go.RowKit
attribute [local go_sem ↓] Go.wp_at_zero Go.wp_at_succ
attribute [local go_sem] rowAt_ptr rowOf_drew rowOf_drewN rowOf_alloc_past rowOf_new
theorem ldPost {ρ : Operand → Value} {w : World} {dst : Option Tmp} {ty : TypeId} {pos : String} {after : Array Edge} {g : Option (Nat × Bool)} {x : Operand} (h : (rowAt w 11 (ρ x)).isSome = true) :
    (execOp ρ ⟨dst, .load 33 x, ty, pos, after, g⟩).run Try.prog w = .ok (.value (.agg ((rowAt w 11 (ρ x)).getD #[]))) w := ex_load 33 11 Try.underlying33 rfl (by kernel_rfl) h
theorem ldWcc {ρ : Operand → Value} {w : World} {dst : Option Tmp} {ty : TypeId} {pos : String} {after : Array Edge} {g : Option (Nat × Bool)} {x : Operand} (h : (rowAt w 13 (ρ x)).isSome = true) :
    (execOp ρ ⟨dst, .load 43 x, ty, pos, after, g⟩).run Try.prog w = .ok (.value (.agg ((rowAt w 13 (ρ x)).getD #[]))) w := ex_load 43 13 Try.underlying43 rfl (by kernel_rfl) h
attribute [local go_sem ↓] ldAttrR ldOpt ldPost ldWcc

attribute [local go_sem] Attr.at0 Attr.lat0 Attr.at1 Attr.lat1 Attr.at2 Attr.lat2 Attr.at3 Attr.lat3 Attr.at4 Attr.lat4 Attr.at5 Attr.lat5 Attr.at6 Attr.lat6 Attr.at7 Attr.lat7 Attr.at8 Attr.lat8 Attr.at9 Attr.lat9 Attr.sub0_10 Attr.lsub0_10 Attr.len Opt.at0 Opt.lat0 Opt.at1 Opt.lat1 Opt.sub0_2 Opt.lsub0_2 Opt.len Sett.at0 Sett.lat0 Sett.at1 Sett.lat1 Sett.at2 Sett.lat2 Sett.at3 Sett.lat3 Sett.at4 Sett.lat4 Sett.at5 Sett.lat5 Sett.at6 Sett.lat6 Sett.at7 Sett.lat7 Sett.at8 Sett.lat8 Sett.at9 Sett.lat9 Sett.sub0_10 Sett.lsub0_10 Sett.sub0_2 Sett.lsub0_2 Sett.sub2_2 Sett.lsub2_2 Sett.sub4_2 Sett.lsub4_2 Sett.sub6_2 Sett.lsub6_2 Sett.sub8_2 Sett.lsub8_2 Sett.len Post.at0 Post.lat0 Post.at1 Post.lat1 Post.at2 Post.lat2 Post.at3 Post.lat3 Post.at4 Post.lat4 Post.at5 Post.lat5 Post.at6 Post.lat6 Post.at7 Post.lat7 Post.at8 Post.lat8 Post.at9 Post.lat9 Post.at10 Post.lat10 Post.sub0_11 Post.lsub0_11 Post.sub1_10 Post.lsub1_10 Post.len Wcc.at0 Wcc.lat0 Wcc.at1 Wcc.lat1 Wcc.at2 Wcc.lat2 Wcc.at3 Wcc.lat3 Wcc.at4 Wcc.lat4 Wcc.at5 Wcc.lat5 Wcc.at6 Wcc.lat6 Wcc.at7 Wcc.lat7 Wcc.at8 Wcc.lat8 Wcc.at9 Wcc.lat9 Wcc.at10 Wcc.lat10 Wcc.at11 Wcc.lat11 Wcc.at12 Wcc.lat12 Wcc.sub0_13 Wcc.lsub0_13 Wcc.sub0_2 Wcc.lsub0_2 Wcc.sub2_11 Wcc.lsub2_11 Wcc.sub3_10 Wcc.lsub3_10 Wcc.len

def limits (a : Attr) : List (Int × Int) := [(a.type, 7), (a.mode, 4095), (a.nlink, 4294967295), (a.uid, 4294967295), (a.gid, 4294967295), (a.id, 4294967295), (a.size, 9223372036854775807), (a.gen, 9223372036854775807), (a.change, 9223372036854775807), (a.time, 9223372036854775807)]
theorem limits_ok (a : Attr) (hg : a.good) (h1 : 1 ≤ a.type) : (limits a).all inLim = a.ok := by
  obtain ⟨-, -, -, -, -, g5, -, g7, g8, g9⟩ := hg
  have g5 := (Go.bounds_i64 g5).2
  have g7 := (Go.bounds_i64 g7).2
  have g8 := (Go.bounds_i64 g8).2
  have g9 := (Go.bounds_i64 g9).2
  simp [limits, inLim, okN, Attr.ok]
  grind
theorem free5_any (n : Int) (w : World) : Calls Try.prog 86 #[.int .i64 n] w fun e w' => e = .returned (.agg #[.int .i64 n, .int .i64 9223372036854775807]) ∧ Below w.heap.size w w' := by
  go_enter Try.func86, Try.ntmps86
  go_wp2
  exact ret_cells w.heap.size 0 (limV (n, 9223372036854775807)) Try.results86 Try.underlying127 rfl (by kernel_rfl) rfl (range_new _ _ _) rfl ⟨rfl, (Below.refl _ _).alloc (Nat.le_refl _) _⟩

set_option maxRecDepth 20000 in
set_option maxHeartbeats 1000000 in
theorem check5_any (a : Attr) (w : World) (hg : a.good) : Calls Try.prog 81 #[.agg a.vals.toArray] w fun e w' => e = .returned (.int .i64 (form a.ok)) ∧ Below w.heap.size w w' := by
  have hB0 : Below w.heap.size w (w.alloc (.cells a.vals.toArray 31)) := (Below.refl _ _).alloc (Nat.le_refl _) _
  have hz : w.heap.size < (w.alloc (.cells a.vals.toArray 31)).heap.size := by simp
  by_cases h1 : a.type < 1
  · have HS := Lib.hid (show a.ok = false by simp [Attr.ok]; omega)
    have hd : decide (a.type < 1) = true := by simpa using h1
    go_enter Try.func81, Try.ntmps81
    go_wp2
    go_quiet (fail)
    go_wp2
    go_ret
    exact ⟨ret_int (by rw [HS.out]; rfl), hB0.trans (bdN (Below.refl _ _) _)⟩
  · have hd : decide (a.type < 1) = false := by simpa using h1
    have HL := Lib.hid (limits_ok a hg (by omega))
    have c0 := (Blk.new w 31 a.vals).cell
    go_enter Try.func81, Try.ntmps81
    go_wp2
    generalize w.alloc (.cells a.vals.toArray 31) = w1 at *
    go_region_held3 (fun W => Stb w1 W) (first | exact Stb.start | assumption | (exact Stb.alloc (by assumption) _) | (exact Stb.call (by assumption) (by assumption))) (first
      | (go_at_call 86; refine (free5_any _ _).mono ?_; rintro e w2 ⟨rfl, hb⟩)
      | (go_at_call 85; refine (within_any (some ⟨_, 0, none⟩) 10 (limits a) _ (show (10 : Nat) ≤ 1000000 by omega) (by exact At.fresh _ _ _ _ ((limits a).map limV) (by simp [limits, limV]) rfl)).mono ?_; rintro e w3 ⟨rfl, hb⟩))
    have hs := (by assumption : Stb w1 w3)
    have HB := Lib.hid (below_then hB0 hs.below)
    rw [HL.out]
    clear hs
    cases ho : a.ok
    all_goals
      have HO := Lib.hid ho
      clear ho
      go_wp2
      go_ret
      exact ⟨ret_int (by rw [HO.out]; rfl), HB.out⟩
end Go.Proofs.Ytmkhpgpnahligaa
