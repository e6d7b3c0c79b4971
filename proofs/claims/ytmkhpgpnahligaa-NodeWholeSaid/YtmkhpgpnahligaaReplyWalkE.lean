/-
  Layer 8, walks: are results the same (with what is told of their lists); what must come of fixed calls; the law ReplyFields. No condition.
-/
import Derived.Test.YtmkhpgpnahligaaReplyWalkD
import Derived.Test.YtmkhpgpnahligaaStructEq
namespace Go.Proofs.Ytmkhpgpnahligaa
open Go.RowKit
attribute [local go_sem ↓] Go.wp_at_zero Go.wp_at_succ
attribute [local go_sem] rowAt_ptr rowOf_drew rowOf_drewN rowOf_alloc_past rowOf_new
theorem ldReply {ρ : Operand → Value} {w : World} {dst : Option Tmp} {ty : TypeId} {pos : String} {after : Array Edge} {g : Option (Nat × Bool)} {x : Operand} (h : (rowAt w 58 (ρ x)).isSome = true) :
    (execOp ρ ⟨dst, .load 46 x, ty, pos, after, g⟩).run Try.prog w = .ok (.value (.agg ((rowAt w 58 (ρ x)).getD #[]))) w := ex_load 46 58 Try.underlying46 rfl (by kernel_rfl) h
attribute [local go_sem ↓] ldReply

attribute [local go_sem] Reply.at0 Reply.lat0 Reply.at1 Reply.lat1 Reply.at2 Reply.lat2 Reply.at3 Reply.lat3 Reply.at4 Reply.lat4 Reply.at5 Reply.lat5 Reply.at6 Reply.lat6 Reply.at7 Reply.lat7 Reply.at8 Reply.lat8 Reply.at9 Reply.lat9 Reply.at10 Reply.lat10 Reply.at11 Reply.lat11 Reply.at12 Reply.lat12 Reply.at13 Reply.lat13 Reply.at14 Reply.lat14 Reply.at15 Reply.lat15 Reply.at16 Reply.lat16 Reply.at17 Reply.lat17 Reply.at18 Reply.lat18 Reply.at19 Reply.lat19 Reply.at20 Reply.lat20 Reply.at21 Reply.lat21 Reply.at22 Reply.lat22 Reply.at23 Reply.lat23 Reply.at24 Reply.lat24 Reply.at25 Reply.lat25 Reply.at26 Reply.lat26 Reply.at27 Reply.lat27 Reply.at28 Reply.lat28 Reply.at29 Reply.lat29 Reply.at30 Reply.lat30 Reply.at31 Reply.lat31 Reply.at32 Reply.lat32 Reply.at33 Reply.lat33 Reply.at34 Reply.lat34 Reply.at35 Reply.lat35 Reply.at36 Reply.lat36 Reply.at37 Reply.lat37 Reply.at38 Reply.lat38 Reply.at39 Reply.lat39 Reply.at40 Reply.lat40 Reply.at41 Reply.lat41 Reply.at42 Reply.lat42 Reply.at43 Reply.lat43 Reply.at44 Reply.lat44 Reply.at45 Reply.lat45 Reply.at46 Reply.lat46 Reply.at47 Reply.lat47 Reply.at48 Reply.lat48 Reply.at49 Reply.lat49 Reply.at50 Reply.lat50 Reply.at51 Reply.lat51 Reply.at52 Reply.lat52 Reply.at53 Reply.lat53 Reply.at54 Reply.lat54 Reply.at55 Reply.lat55 Reply.at56 Reply.lat56 Reply.at57 Reply.lat57 Reply.sub0_58 Reply.lsub0_58 Reply.sub2_11 Reply.lsub2_11 Reply.sub3_10 Reply.lsub3_10 Reply.sub13_11 Reply.lsub13_11 Reply.sub14_10 Reply.lsub14_10 Reply.sub24_13 Reply.lsub24_13 Reply.sub24_2 Reply.lsub24_2 Reply.sub26_11 Reply.lsub26_11 Reply.sub27_10 Reply.lsub27_10 Reply.sub37_13 Reply.lsub37_13 Reply.sub37_2 Reply.lsub37_2 Reply.sub39_11 Reply.lsub39_11 Reply.sub40_10 Reply.lsub40_10 Reply.len

def postZ8 : Post := ⟨false, ⟨0, 0, 0, 0, 0, 0, 0, 0, 0, 0⟩⟩
def replyZ : Reply := ⟨0, [], postZ8, postZ8, ⟨⟨false, 0⟩, postZ8⟩, ⟨⟨false, 0⟩, postZ8⟩, 0, 0, false, [], 0, 0, none, 0, 0, none, 0, 0⟩
theorem infoReply : (Try.prog.info? 46).map (fun i => (i.zero, i.size)) = some (some (.agg replyZ.vals.toArray), 58) := by kernel_rfl
theorem guardFlds : Try.prog.eqGuardType Try.prog.depth 67 = false := by kernel_rfl
def lfPost8 : List Leaf := .b :: List.replicate 10 (.i .i64)
def lfWcc8 : List Leaf := .b :: .i .i64 :: lfPost8
def lfFlds : List Leaf := [.i .i64, .s, .s] ++ lfPost8 ++ lfPost8 ++ lfWcc8 ++ lfWcc8 ++ [.i .i64, .i .i64, .i .i64, .i .i64, .b]
theorem leafsFlds : leafs Try.prog 8 67 = some lfFlds := by kernel_rfl
theorem Attr.inj8 {x y : Attr} (h : x.vals = y.vals) : x = y := by
  obtain ⟨_, _, _, _, _, _, _, _, _, _⟩ := x
  obtain ⟨_, _, _, _, _, _, _, _, _, _⟩ := y
  simp only [Attr.vals, List.cons.injEq, Value.int.injEq, true_and, and_true] at h
  obtain ⟨h0, h1, h2, h3, h4, h5, h6, h7, h8, h9⟩ := h
  subst_vars
  rfl
theorem there8_any (p : Int) (w : World) (h : 0 ≤ p ∧ p ≤ 21) : Calls Try.prog 43 #[.int .i64 p] w fun e w' => e = .returned (.bool true) ∧ w = w' := by
  obtain ⟨h1, h2⟩ := h
  go_enter Try.func43, Try.ntmps43
  go_wp2
  all_goals (go_ret; go_light; exact ⟨ret_bool (by grind), rfl⟩)
set_option maxHeartbeats 800000 in
theorem equalE_nil (w : World) : Calls Try.prog 32 #[.slice none 0 0, .slice none 0 0] w fun e w' => e = .returned (.bool true) ∧ w = w' := by
  go_enter Try.func32, Try.ntmps32
  go_wp2
  go_loopw [13] (fun iv wr => iv = .int .i64 0 ∧ wr = w) (fun _ _ => 0)
  case atStart => exact ⟨rfl, rfl⟩
  case round =>
    obtain ⟨rfl, rfl⟩ := hrel
    go_wp2
    go_ret
    exact ⟨rfl, rfl⟩
set_option maxHeartbeats 800000 in
theorem equalI_nil (w : World) : Calls Try.prog 33 #[.slice none 0 0, .slice none 0 0] w fun e w' => e = .returned (.bool true) ∧ w = w' := by
  go_enter Try.func33, Try.ntmps33
  go_wp2
  go_loopw [13] (fun iv wr => iv = .int .i64 0 ∧ wr = w) (fun _ _ => 0)
  case atStart => exact ⟨rfl, rfl⟩
  case round =>
    obtain ⟨rfl, rfl⟩ := hrel
    go_wp2
    go_ret
    exact ⟨rfl, rfl⟩
end Go.Proofs.Ytmkhpgpnahligaa
