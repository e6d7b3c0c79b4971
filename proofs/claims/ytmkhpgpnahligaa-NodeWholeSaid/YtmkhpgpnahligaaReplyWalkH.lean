/-
  Layer 8, walks: what must come of fixed calls; the law ReplyFields. No condition.
-/
import Derived.Test.YtmkhpgpnahligaaReplyWalkG
import Derived.Test.YtmkhpgpnahligaaXdrThing
namespace Go.Proofs.Ytmkhpgpnahligaa
open Go.RowKit
attribute [local go_sem ↓] Go.wp_at_zero Go.wp_at_succ
attribute [local go_sem] rowAt_ptr rowOf_drew rowOf_drewN rowOf_alloc_past rowOf_new
attribute [local go_sem ↓] ldReply

attribute [local go_sem] Reply.at0 Reply.lat0 Reply.at1 Reply.lat1 Reply.at2 Reply.lat2 Reply.at3 Reply.lat3 Reply.at4 Reply.lat4 Reply.at5 Reply.lat5 Reply.at6 Reply.lat6 Reply.at7 Reply.lat7 Reply.at8 Reply.lat8 Reply.at9 Reply.lat9 Reply.at10 Reply.lat10 Reply.at11 Reply.lat11 Reply.at12 Reply.lat12 Reply.at13 Reply.lat13 Reply.at14 Reply.lat14 Reply.at15 Reply.lat15 Reply.at16 Reply.lat16 Reply.at17 Reply.lat17 Reply.at18 Reply.lat18 Reply.at19 Reply.lat19 Reply.at20 Reply.lat20 Reply.at21 Reply.lat21 Reply.at22 Reply.lat22 Reply.at23 Reply.lat23 Reply.at24 Reply.lat24 Reply.at25 Reply.lat25 Reply.at26 Reply.lat26 Reply.at27 Reply.lat27 Reply.at28 Reply.lat28 Reply.at29 Reply.lat29 Reply.at30 Reply.lat30 Reply.at31 Reply.lat31 Reply.at32 Reply.lat32 Reply.at33 Reply.lat33 Reply.at34 Reply.lat34 Reply.at35 Reply.lat35 Reply.at36 Reply.lat36 Reply.at37 Reply.lat37 Reply.at38 Reply.lat38 Reply.at39 Reply.lat39 Reply.at40 Reply.lat40 Reply.at41 Reply.lat41 Reply.at42 Reply.lat42 Reply.at43 Reply.lat43 Reply.at44 Reply.lat44 Reply.at45 Reply.lat45 Reply.at46 Reply.lat46 Reply.at47 Reply.lat47 Reply.at48 Reply.lat48 Reply.at49 Reply.lat49 Reply.at50 Reply.lat50 Reply.at51 Reply.lat51 Reply.at52 Reply.lat52 Reply.at53 Reply.lat53 Reply.at54 Reply.lat54 Reply.at55 Reply.lat55 Reply.at56 Reply.lat56 Reply.at57 Reply.lat57 Reply.sub0_58 Reply.lsub0_58 Reply.sub2_11 Reply.lsub2_11 Reply.sub3_10 Reply.lsub3_10 Reply.sub13_11 Reply.lsub13_11 Reply.sub14_10 Reply.lsub14_10 Reply.sub24_13 Reply.lsub24_13 Reply.sub24_2 Reply.lsub24_2 Reply.sub26_11 Reply.lsub26_11 Reply.sub27_10 Reply.lsub27_10 Reply.sub37_13 Reply.lsub37_13 Reply.sub37_2 Reply.lsub37_2 Reply.sub39_11 Reply.lsub39_11 Reply.sub40_10 Reply.lsub40_10 Reply.len

theorem wrFresh8 (w : World) : Wr (w.alloc (.cells #[.slice none 0 0] 77)) w.heap.size (.slice none 0 0) [] := ⟨Blk.new _ _ _, World.ownsRow_nil _ _ _ _⟩
theorem num70 : num 70 4 = [0, 0, 0, 70] := by decide

set_option maxRecDepth 20000 in
set_option maxHeartbeats 800000 in
theorem put70_any (w : World) : Calls Try.prog 30 #[.int .i64 1, .agg r70.vals.toArray] w fun e w' => e = .returned (.tuple #[.string (bs [0, 0, 0, 70]), .int .i64 0]) ∧ Below w.heap.size w w' := by
  have hA := Blk.new w 46 r70.vals
  have hB : Below w.heap.size w (w.alloc (.cells r70.vals.toArray 46)) := (Below.refl _ _).alloc (Nat.le_refl _) _
  have hf := fun W => replyFields_any 1 false W
  rw [pFields10] at hf
  obtain ⟨r, hr⟩ : ∃ r, r = r70 := ⟨_, rfl⟩
  have hC := check70_any
  rw [← hr] at hA hB hC ⊢
  have hst0 : r.vals[0]? = some (.int .i64 70) := by rw [hr]; rfl
  clear hr
  have rA : rowOf (w.alloc (.cells r.vals.toArray 46)) w.heap.size 0 58 = some r.vals.toArray := hA.row 0 58 (by simp [Reply.len])
  go_enter Try.func30, Try.ntmps30
  go_wp2_with fail
  change Calls _ _ _ (w.alloc (.cells r.vals.toArray 46)) _
  generalize w.alloc (.cells r.vals.toArray 46) = w1 at *
  refine (hC _).mono ?_
  rintro e w2 ⟨rfl, hx⟩
  have hA2 := hA.stays hx
  have hB2 := below_then hB hx
  clear hA hB rA hx hC
  have hW3 := wrFresh8 w2
  have hA3 := hA2.alloc (.cells #[.slice none 0 0] 77)
  have hB3 := hB2.alloc hB2.size (.cells #[.slice none 0 0] 77)
  have hc3 := hA3.cell 0
  rw [hst0] at hc3
  have hsz2 : w.heap.size < w2.heap.size := hA2.lt
  clear hA2 hB2
  go_wp2_with fail
  change Calls _ _ _ (w2.alloc (.cells #[.slice none 0 0] 77)) _
  generalize w2.alloc (.cells #[.slice none 0 0] 77) = w3 at *
  refine (wU32_any w2.heap.size _ [] 70 _ hW3 (by decide) (by decide)).mono ?_
  rintro e w4 ⟨rfl, sv4, hW4, hr4, hT4⟩
  rw [List.nil_append, num70] at hW4
  have hB4 := hB3.trans (Moved.below (B := w.heap.size) ⟨sv4, hW4, hr4, hT4⟩ (by omega) (by simp [Value.ownBlock]) hB3.size)
  have hA4 := hW3.keeps hA3 (by decide) (by decide) hT4
  have hc4 := hA4.cell 0
  rw [hst0] at hc4
  clear hc3 hA3 hB3 hW3 hr4 hT4
  go_wp2_with fail
  refine (hf _).mono ?_
  rintro e w5 ⟨rfl, hx⟩
  have hW5 := hW4.stays hx
  have hB5 := below_then hB4 hx
  clear hW4 hB4 hA4 hc4 hx hf
  have hI := Itr.new w5 []
  have hx : Below w5.heap.size w5 (w5.iter (bs []) 0) := (Below.refl _ _).alloc (Nat.le_refl _) (.stringIter (bs []) 0)
  have hW6 := hW5.stays hx
  have hB6 := below_then hB5 hx
  clear hW5 hB5 hx
  go_wp2
  change Code.wp _ _ _ _ (w5.iter (bs []) 0)
  generalize w5.iter (bs []) 0 = w6 at *
  generalize w5.heap.size = ib at *
  have hn := fun ty => run_next_itr_end (P := Try.prog) hI (by simp) ty
  clear hI hst0
  go_loopw [9] (fun _ wr => wr = w6) (fun _ _ => 0)
  case atStart => rfl
  case round =>
    obtain rfl := hrel
    go_wp2_with fail
    refine (wText_any _ sv4 _ _ hW6).mono ?_
    rintro e w7 ⟨rfl, rfl⟩
    go_wp2
    go_ret2
    exact ⟨rfl, hB6⟩

set_option maxRecDepth 20000 in
set_option maxHeartbeats 800000 in
theorem known8_any (w : World) : Calls Try.prog 17 #[] w fun e w' => e = .returned (.bool true) ∧ Below w.heap.size w w' := by
  have hp := put70_any
  have hl : r70.vals.toArray = #[.int .i64 70, .string ⟨#[]⟩, .bool false, .int .i64 0, .int .i64 0, .int .i64 0, .int .i64 0, .int .i64 0, .int .i64 0, .int .i64 0, .int .i64 0, .int .i64 0, .int .i64 0, .bool false, .int .i64 0, .int .i64 0, .int .i64 0, .int .i64 0, .int .i64 0, .int .i64 0, .int .i64 0, .int .i64 0, .int .i64 0, .int .i64 0, .bool false, .int .i64 0, .bool false, .int .i64 0, .int .i64 0, .int .i64 0, .int .i64 0, .int .i64 0, .int .i64 0, .int .i64 0, .int .i64 0, .int .i64 0, .int .i64 0, .bool false, .int .i64 0, .bool false, .int .i64 0, .int .i64 0, .int .i64 0, .int .i64 0, .int .i64 0, .int .i64 0, .int .i64 0, .int .i64 0, .int .i64 0, .int .i64 0, .int .i64 0, .int .i64 0, .bool false, .string ⟨#[]⟩, .int .i64 0, .int .i64 0, .slice none 0 0, .slice none 0 0] := rfl
  rw [hl] at hp
  have hf := fun W => replyFields_any 3 true W
  rw [pFields31] at hf
  have HP := Lib.hid hp
  have HF := Lib.hid hf
  clear hp hf hl
  go_enter Try.func17, Try.ntmps17
  go_wp2_with fail
  refine (HP.out _).mono ?_
  rintro e w1 ⟨rfl, hb1⟩
  clear HP
  go_wp2_with fail
  refine (HF.out _).mono ?_
  rintro e w2 ⟨rfl, hb2⟩
  go_wp2
  go_ret
  exact ⟨rfl, below_then hb1 hb2⟩

set_option maxHeartbeats 800000 in
theorem replyFieldsLaw_any (p : Int) (fine : Bool) (s : Int) (w : World) : Calls Try.prog 5 #[.int .i64 p, .bool fine, .int .i64 s] w fun e w' => e = .returned (.bool true) ∧ Below w.heap.size w w' := by
  have h1 := fun w => replyFields_any p fine w
  have h2 := fun w => refFields8_any p fine w
  have h3 := fun w => replyKnown_any s w
  have h4 := fun w => refKnown8_any s w
  generalize pFields p fine = l at *
  generalize pKnown s = c at *
  go_enter Try.func5, Try.ntmps5
  go_wp2_with fail
  refine (h1 _).mono ?_
  rintro e w1 ⟨rfl, hb1⟩
  go_wp2_with fail
  refine (h2 _).mono ?_
  rintro e w2 ⟨rfl, hb2⟩
  have hb := below_then hb1 hb2
  clear hb1 hb2
  go_wp2_with fail
  refine (h3 _).mono ?_
  rintro e w3 ⟨rfl, hb3⟩
  have hB := below_then hb hb3
  clear hb hb3
  go_wp2_with fail
  refine (h4 _).mono ?_
  rintro e w4 ⟨rfl, hb4⟩
  have hb := below_then hB hb4
  clear hB hb4
  go_wp2_with fail
  refine (known8_any _).mono ?_
  rintro e w5 ⟨rfl, hb5⟩
  go_wp2
  go_ret
  exact ⟨rfl, below_then hb hb5⟩
end Go.Proofs.Ytmkhpgpnahligaa
