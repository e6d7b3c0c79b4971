/-
  Layer 5, walks: attributes or none, and what was ahead of a call and behind it, are laid or refused. Conditions: at most 2^39 bytes so far.
-/
import Derived.Test.YtjepemfllgjhfaaAttrPutA
namespace Go.Proofs.Ytjepemfllgjhfaa
open Go.RowKit
attribute [local go_sem ↓] Go.wp_at_zero Go.wp_at_succ
attribute [local go_sem] rowAt_ptr rowOf_drew rowOf_drewN rowOf_alloc_past rowOf_new
attribute [local go_sem ↓] ldAttrR ldOpt ldSet ldPost ldWcc

attribute [local go_sem] Attr.at0 Attr.lat0 Attr.at1 Attr.lat1 Attr.at2 Attr.lat2 Attr.at3 Attr.lat3 Attr.at4 Attr.lat4 Attr.at5 Attr.lat5 Attr.at6 Attr.lat6 Attr.at7 Attr.lat7 Attr.at8 Attr.lat8 Attr.at9 Attr.lat9 Attr.sub0_10 Attr.lsub0_10 Attr.len Opt.at0 Opt.lat0 Opt.at1 Opt.lat1 Opt.sub0_2 Opt.lsub0_2 Opt.len Post.at0 Post.lat0 Post.at1 Post.lat1 Post.at2 Post.lat2 Post.at3 Post.lat3 Post.at4 Post.lat4 Post.at5 Post.lat5 Post.at6 Post.lat6 Post.at7 Post.lat7 Post.at8 Post.lat8 Post.at9 Post.lat9 Post.at10 Post.lat10 Post.sub0_11 Post.lsub0_11 Post.sub1_10 Post.lsub1_10 Post.len Wcc.at0 Wcc.lat0 Wcc.at1 Wcc.lat1 Wcc.at2 Wcc.lat2 Wcc.at3 Wcc.lat3 Wcc.at4 Wcc.lat4 Wcc.at5 Wcc.lat5 Wcc.at6 Wcc.lat6 Wcc.at7 Wcc.lat7 Wcc.at8 Wcc.lat8 Wcc.at9 Wcc.lat9 Wcc.at10 Wcc.lat10 Wcc.at11 Wcc.lat11 Wcc.at12 Wcc.lat12 Wcc.sub0_13 Wcc.lsub0_13 Wcc.sub0_2 Wcc.lsub0_2 Wcc.sub2_11 Wcc.lsub2_11 Wcc.sub3_10 Wcc.lsub3_10 Wcc.len

def Post.bytes (p : Post) : List UInt8 := truth p.is ++ (if p.is then p.attr.bytes else [])
def Wcc.bytes (c : Wcc) : List UInt8 := c.before.bytes ++ c.after.bytes
theorem Post.bytes_len (p : Post) : p.bytes.length ≤ 60 := by
  unfold Post.bytes; cases p.is <;> simp [truth, num_len, Attr.bytes_len]
theorem Wcc.bytes_len (c : Wcc) : c.bytes.length ≤ 72 := by
  have := c.after.bytes_len
  have := c.before.bytes_len
  simp only [Wcc.bytes, List.length_append]; omega

set_option maxHeartbeats 800000 in
theorem putPost_bad (g : Nat) (p : Post) (w : World) (hok : p.ok = false) (hg : p.good) :
    Calls Try.prog 77 #[ptr g, .agg p.vals.toArray] w fun e w' => e = .returned (.int .i64 14) ∧ Below w.heap.size w w' := by
  have hck := fun W => post5_any p W hg
  rw [hok] at hck
  have hb0 := Blk.new w 43 p.vals
  have r0 : rowOf (w.alloc (.cells p.vals.toArray 43)) w.heap.size 0 11 = some p.vals.toArray := hb0.row 0 11 (by simp [Post.len])
  have hB0 : Below w.heap.size w (w.alloc (.cells p.vals.toArray 43)) := (Below.refl _ _).alloc (Nat.le_refl _) _
  clear hok
  go_enter Try.func77, Try.ntmps77
  go_wp2_with fail
  refine (hck _).mono ?_
  rintro e w1 ⟨rfl, hb1⟩
  have HB := Lib.hid (below_then hB0 hb1)
  clear hck hb0 r0 hB0 hb1
  go_wp2
  go_ret
  exact ⟨rfl, HB.out⟩

set_option maxHeartbeats 800000 in
theorem putPost_any (g : Nat) (sv : Value) (l : List UInt8) (p : Post) (w : World) (hW : Wr w g sv l) (hok : p.ok = true) (hg : p.good) (hl : l.length ≤ 800000000000) :
    Calls Try.prog 77 #[ptr g, .agg p.vals.toArray] w (Wrote g sv (l ++ p.bytes) (.int .i64 0) w) := by
  have hck := fun W => post5_any p W hg
  have HO := Lib.hid hok
  rw [hok] at hck
  have hb0 := Blk.new w 43 p.vals
  have r0 : rowOf (w.alloc (.cells p.vals.toArray 43)) w.heap.size 0 11 = some p.vals.toArray := hb0.row 0 11 (by simp [Post.len])
  have hB0 : Below w.heap.size w (w.alloc (.cells p.vals.toArray 43)) := (Below.refl _ _).alloc (Nat.le_refl _) _
  clear hok
  go_enter Try.func77, Try.ntmps77
  go_wp2_with fail
  refine (hck _).mono ?_
  rintro e w1 ⟨rfl, hb1⟩
  have hA1 := hb0.stays hb1
  have hB1 := below_then hB0 hb1
  have hca := hA1.cell
  have hW1 := hW.stays hB1
  have hT1 : Touch (foot g sv) w w1 := Touch.of_below hB1 _
  have HT1 := Lib.hid hT1
  clear hck hb0 r0 hB0 hb1 hB1 hT1
  go_wp2_with fail
  refine (wBool_any g sv l p.is _ hW1 (by omega)).mono ?_
  rintro e w2 ⟨rfl, sv2, hM2⟩
  have hA2 := hW1.keeps hA1 (by decide) (by decide) hM2.2.2
  have HM2 := Lib.hid (MovedTo.next (fun _ h => .inl h) HT1.out hM2)
  have hW2 := hM2.1
  have hca := hA2.cell
  have r2 : rowOf w2 w.heap.size 1 10 = some p.attr.vals.toArray := hA2.row 1 10 (by simp [Post.len])
  have htl : (truth p.is).length = 4 := by simp [truth, num_len]
  clear hM2 hA1 hW1 hA2
  cases hi : p.is
  · have HF := Lib.hid (show l ++ truth false = l ++ p.bytes by simp [Post.bytes, hi])
    rw [hi] at HM2
    clear hW2 htl
    go_wp2
    go_ret
    refine ⟨rfl, sv2, ?_⟩
    have := HM2.out
    rw [HF.out] at this
    exact this
  · have HF := Lib.hid (show l ++ truth true ++ p.attr.bytes = l ++ p.bytes by simp [Post.bytes, hi])
    have hao : p.attr.ok = true := by have := HO.out; simpa [Post.ok, hi] using this
    rw [hi] at HM2 hW2 htl
    go_wp2_with fail
    refine (putAttr_any g sv2 _ p.attr _ hW2 hao hg (by rw [List.length_append]; omega)).mono ?_
    rintro e w3 ⟨rfl, sv3, hM3⟩
    have HM3 := Lib.hid (MovedTo.next HM2.out.2.1 HM2.out.2.2 hM3)
    clear hM3 hW2 hca r2
    go_wp2
    go_ret
    refine ⟨rfl, sv3, ?_⟩
    have := HM3.out
    rw [HF.out] at this
    exact this

set_option maxHeartbeats 800000 in
theorem putWcc_bad (g : Nat) (c : Wcc) (w : World) (hok : c.ok = false) (hg : c.good) :
    Calls Try.prog 78 #[ptr g, .agg c.vals.toArray] w fun e w' => e = .returned (.int .i64 14) ∧ Below w.heap.size w w' := by
  have hck := fun W => wcc5_any c W hg
  rw [hok] at hck
  have hb0 := Blk.new w 55 c.vals
  have r0 : rowOf (w.alloc (.cells c.vals.toArray 55)) w.heap.size 0 13 = some c.vals.toArray := hb0.row 0 13 (by simp [Wcc.len])
  have hB0 : Below w.heap.size w (w.alloc (.cells c.vals.toArray 55)) := (Below.refl _ _).alloc (Nat.le_refl _) _
  clear hok
  go_enter Try.func78, Try.ntmps78
  go_wp2_with fail
  refine (hck _).mono ?_
  rintro e w1 ⟨rfl, hb1⟩
  have HB := Lib.hid (below_then hB0 hb1)
  clear hck hb0 r0 hB0 hb1
  go_wp2
  go_ret
  exact ⟨rfl, HB.out⟩

set_option maxHeartbeats 800000 in
theorem putWcc_any (g : Nat) (sv : Value) (l : List UInt8) (c : Wcc) (w : World) (hW : Wr w g sv l) (hok : c.ok = true) (hg : c.good) (hl : l.length ≤ 700000000000) :
    Calls Try.prog 78 #[ptr g, .agg c.vals.toArray] w (Wrote g sv (l ++ c.bytes) (.int .i64 0) w) := by
  have hck := fun W => wcc5_any c W hg
  have hok2 := hok
  simp only [Wcc.ok, Bool.and_eq_true] at hok2
  obtain ⟨ho1, ho2⟩ := hok2
  have hpos := Opt.ok_pos ho1
  have hmax := (Go.bounds_i64 hg.1).2
  rw [hok] at hck
  have hb0 := Blk.new w 55 c.vals
  have r0 : rowOf (w.alloc (.cells c.vals.toArray 55)) w.heap.size 0 13 = some c.vals.toArray := hb0.row 0 13 (by simp [Wcc.len])
  have hB0 : Below w.heap.size w (w.alloc (.cells c.vals.toArray 55)) := (Below.refl _ _).alloc (Nat.le_refl _) _
  have hbl : (optB c.before.is c.before.n).length ≤ 12 := c.before.bytes_len
  clear hok
  go_enter Try.func78, Try.ntmps78
  go_wp2_with fail
  refine (hck _).mono ?_
  rintro e w1 ⟨rfl, hb1⟩
  have hA1 := hb0.stays hb1
  have hB1 := below_then hB0 hb1
  have hW1 := hW.stays hB1
  have hT1 : Touch (foot g sv) w w1 := Touch.of_below hB1 _
  have r1 : rowOf w1 w.heap.size 0 2 = some c.before.vals.toArray := hA1.row 0 2 (by simp [Wcc.len])
  have HT1 := Lib.hid hT1
  clear hck hb0 r0 hB0 hb1 hB1 hT1
  go_wp2_with fail
  refine (wOpt_any g sv l c.before.is c.before.n _ hW1 hpos (by omega) (by omega)).mono ?_
  rintro e w2 ⟨rfl, sv2, hM2⟩
  have hA2 := hW1.keeps hA1 (by decide) (by decide) hM2.2.2
  have HM2 := Lib.hid (MovedTo.next (fun _ h => .inl h) HT1.out hM2)
  have hW2 := hM2.1
  have r2 : rowOf w2 w.heap.size 2 11 = some c.after.vals.toArray := hA2.row 2 11 (by simp [Wcc.len])
  have HF := Lib.hid (show l ++ optB c.before.is c.before.n ++ c.after.bytes = l ++ c.bytes by simp [Wcc.bytes, Opt.bytes])
  clear hM2 hA1 hW1 hA2 r1
  go_wp2_with fail
  refine (putPost_any g sv2 _ c.after _ hW2 ho2 hg.2 (by rw [List.length_append]; omega)).mono ?_
  rintro e w3 ⟨rfl, sv3, hM3⟩
  have HM3 := Lib.hid (MovedTo.next HM2.out.2.1 HM2.out.2.2 hM3)
  clear hM3 hW2 r2
  go_wp2
  go_ret
  refine ⟨rfl, sv3, ?_⟩
  have := HM3.out
  rw [HF.out] at this
  exact this
end Go.Proofs.Ytjepemfllgjhfaa
