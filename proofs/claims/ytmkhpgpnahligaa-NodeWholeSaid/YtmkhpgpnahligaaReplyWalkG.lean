/-
  Layer 8, walks: what must come of fixed calls; the law ReplyFields. No condition.
-/
import Derived.Test.YtmkhpgpnahligaaReplyWalkF
import Derived.Test.YtmkhpgpnahligaaReplyWalkB
import Derived.Test.YtmkhpgpnahligaaXdrWalkB
import Derived.Test.YtmkhpgpnahligaaXdrWalkC
import Derived.Test.YtmkhpgpnahligaaIter
namespace Go.Proofs.Ytmkhpgpnahligaa
open Go.RowKit
attribute [local go_sem ↓] Go.wp_at_zero Go.wp_at_succ
attribute [local go_sem] rowAt_ptr rowOf_drew rowOf_drewN rowOf_alloc_past rowOf_new
attribute [local go_sem ↓] ldReply

attribute [local go_sem] Reply.at0 Reply.lat0 Reply.at1 Reply.lat1 Reply.at2 Reply.lat2 Reply.at3 Reply.lat3 Reply.at4 Reply.lat4 Reply.at5 Reply.lat5 Reply.at6 Reply.lat6 Reply.at7 Reply.lat7 Reply.at8 Reply.lat8 Reply.at9 Reply.lat9 Reply.at10 Reply.lat10 Reply.at11 Reply.lat11 Reply.at12 Reply.lat12 Reply.at13 Reply.lat13 Reply.at14 Reply.lat14 Reply.at15 Reply.lat15 Reply.at16 Reply.lat16 Reply.at17 Reply.lat17 Reply.at18 Reply.lat18 Reply.at19 Reply.lat19 Reply.at20 Reply.lat20 Reply.at21 Reply.lat21 Reply.at22 Reply.lat22 Reply.at23 Reply.lat23 Reply.at24 Reply.lat24 Reply.at25 Reply.lat25 Reply.at26 Reply.lat26 Reply.at27 Reply.lat27 Reply.at28 Reply.lat28 Reply.at29 Reply.lat29 Reply.at30 Reply.lat30 Reply.at31 Reply.lat31 Reply.at32 Reply.lat32 Reply.at33 Reply.lat33 Reply.at34 Reply.lat34 Reply.at35 Reply.lat35 Reply.at36 Reply.lat36 Reply.at37 Reply.lat37 Reply.at38 Reply.lat38 Reply.at39 Reply.lat39 Reply.at40 Reply.lat40 Reply.at41 Reply.lat41 Reply.at42 Reply.lat42 Reply.at43 Reply.lat43 Reply.at44 Reply.lat44 Reply.at45 Reply.lat45 Reply.at46 Reply.lat46 Reply.at47 Reply.lat47 Reply.at48 Reply.lat48 Reply.at49 Reply.lat49 Reply.at50 Reply.lat50 Reply.at51 Reply.lat51 Reply.at52 Reply.lat52 Reply.at53 Reply.lat53 Reply.at54 Reply.lat54 Reply.at55 Reply.lat55 Reply.at56 Reply.lat56 Reply.at57 Reply.lat57 Reply.sub0_58 Reply.lsub0_58 Reply.sub2_11 Reply.lsub2_11 Reply.sub3_10 Reply.lsub3_10 Reply.sub13_11 Reply.lsub13_11 Reply.sub14_10 Reply.lsub14_10 Reply.sub24_13 Reply.lsub24_13 Reply.sub24_2 Reply.lsub24_2 Reply.sub26_11 Reply.lsub26_11 Reply.sub27_10 Reply.lsub27_10 Reply.sub37_13 Reply.lsub37_13 Reply.sub37_2 Reply.lsub37_2 Reply.sub39_11 Reply.lsub39_11 Reply.sub40_10 Reply.lsub40_10 Reply.len

def r70 : Reply := ⟨70, [], postZ8, postZ8, ⟨⟨false, 0⟩, postZ8⟩, ⟨⟨false, 0⟩, postZ8⟩, 0, 0, false, [], 0, 0, none, 0, 0, none, 0, 0⟩
theorem same70_any (w : World) : Calls Try.prog 20 #[.agg r70.vals.toArray, .agg r70.vals.toArray] w fun e w' => e = .returned (.bool true) ∧ Below w.heap.size w w' := by
  have h := same8_any r70 r70 true true w (fun W _ => (equalE_nil W).mono fun e w' ⟨h1, h2⟩ => ⟨h1, h2 ▸ Below.refl _ _⟩) (fun W _ => (equalI_nil W).mono fun e w' ⟨h1, h2⟩ => ⟨h1, h2 ▸ Below.refl _ _⟩)
  rw [decide_eq_true rfl] at h
  exact h
theorem pKnown70 : pKnown 70 = true := by decide
theorem pFields10 : pFields 1 false = [] := rfl
theorem pFields31 : pFields 3 true = [104, 97, 68] := rfl

set_option maxRecDepth 20000 in
set_option maxHeartbeats 800000 in
theorem check70_any (w : World) : Calls Try.prog 38 #[.int .i64 1, .agg r70.vals.toArray] w fun e w' => e = .returned (.int .i64 0) ∧ Below w.heap.size w w' := by
  have hA := Blk.new w 46 r70.vals
  have hB : Below w.heap.size w (w.alloc (.cells r70.vals.toArray 46)) := (Below.refl _ _).alloc (Nat.le_refl _) _
  have hk := fun W => replyKnown_any 70 W
  rw [pKnown70] at hk
  have hf := fun W => replyFields_any 1 false W
  rw [pFields10] at hf
  obtain ⟨r, hr⟩ : ∃ r, r = r70 := ⟨_, rfl⟩
  have HR := Lib.hid hr
  have hS := same70_any
  rw [← hr] at hA hB hS ⊢
  have hst0 : r.vals[0]? = some (.int .i64 70) := by rw [hr]; rfl
  clear hr
  have hcA := hA.cell 0
  rw [hst0] at hcA
  go_enter Try.func38, Try.ntmps38
  go_wp2_with fail
  change Calls _ _ _ (w.alloc (.cells r.vals.toArray 46)) _
  generalize w.alloc (.cells r.vals.toArray 46) = w1 at *
  refine (there8_any 1 _ (by decide)).mono ?_
  rintro e w2 ⟨rfl, rfl⟩
  go_wp2_with fail
  refine (hk _).mono ?_
  rintro e w2 ⟨rfl, hx⟩
  have hA2 := hA.stays hx
  have hB2 := below_then hB hx
  have hcA2 := hA2.cell 0
  rw [hst0] at hcA2
  clear hA hB hcA hx hk
  have hP3 := Blk.new w2 46 r.vals
  have hA3 := hA2.alloc (.cells r.vals.toArray 46)
  have hB3 := hB2.alloc hB2.size (.cells r.vals.toArray 46)
  obtain ⟨w3, hw3⟩ : ∃ u, u = w2.alloc (.cells r.vals.toArray 46) := ⟨_, rfl⟩
  rw [← hw3] at hP3 hA3 hB3
  have HW3 := Lib.hid hw3
  have hcA3 := hA3.cell 0
  rw [hst0] at hcA3
  clear hw3 hA2 hB2
  have tok : True := trivial
  go_wp2_with (first
    | (clear tok; refine wpList_new_struct (by rfl) (by rfl) 46 (by rfl) _ _ (by rfl) r.vals infoReply (by rfl) (by rfl) (Reply.one _) (by rfl) (by rw [HR.out]; rfl) ?_; rw [← HW3.out])
    | fail)
  refine (hf _).mono ?_
  rintro e w4 ⟨rfl, hx⟩
  have hA4 := hA3.stays hx
  have hP4 := hP3.stays hx
  have hB4 := below_then hB3 hx
  clear hA3 hP3 hB3 hcA3 hcA2 hx hf
  have hI := Itr.new w4 []
  have hx : Below w4.heap.size w4 (w4.iter (bs []) 0) := (Below.refl _ _).alloc (Nat.le_refl _) (.stringIter (bs []) 0)
  have hA5 := hA4.stays hx
  have hP5 := hP4.stays hx
  have hB5 := below_then hB4 hx
  clear hA4 hP4 hB4 hx
  go_wp2
  change Code.wp _ _ _ _ (w4.iter (bs []) 0)
  generalize w4.iter (bs []) 0 = w5 at *
  generalize w4.heap.size = ib at *
  have hn := fun ty => run_next_itr_end (P := Try.prog) hI (by simp) ty
  have rA : rowOf w5 w.heap.size 0 58 = some r.vals.toArray := hA5.row 0 58 (by simp [Reply.len])
  have rP : rowOf w5 w2.heap.size 0 58 = some r.vals.toArray := hP5.row 0 58 (by simp [Reply.len])
  clear hA5 hP5 hI hst0 HR
  go_loopw [7] (fun _ wr => wr = w5) (fun _ _ => 0)
  case atStart => rfl
  case round =>
    obtain rfl := hrel
    go_wp2_with fail
    refine (hS _).mono ?_
    rintro e w6 ⟨rfl, hx⟩
    go_wp2
    go_ret
    exact ⟨rfl, below_then hB5 hx⟩
end Go.Proofs.Ytmkhpgpnahligaa
