/-
  Layer 5, walks of the document's own: the bytes of attributes, of what is told of a node, of what was and is; and that what is read, laid once more, is the bytes. Conditions: what is laid may be.
-/
import Derived.Test.YtapcjojlkeaadaaGreatDoorP27
import Derived.Test.YtapcjojlkeaadaaGreatDoorP28
import Derived.Test.YtapcjojlkeaadaaGreatDoorP14
import Derived.Test.YtapcjojlkeaadaaGreatDoorP30
namespace Go.Proofs.YtapcjojlkeaadaaGreatDoor
open Go.RowKit
attribute [local go_sem ↓] Go.wp_at_zero Go.wp_at_succ
attribute [local go_sem] rowAt_ptr rowOf_drew rowOf_drewN rowOf_alloc_past rowOf_new
attribute [local go_sem ↓] ldAttrR ldOpt ldPost

attribute [local go_sem] Attr.at0 Attr.lat0 Attr.at1 Attr.lat1 Attr.at2 Attr.lat2 Attr.at3 Attr.lat3 Attr.at4 Attr.lat4 Attr.at5 Attr.lat5 Attr.at6 Attr.lat6 Attr.at7 Attr.lat7 Attr.at8 Attr.lat8 Attr.at9 Attr.lat9 Attr.sub0_10 Attr.lsub0_10 Attr.len Post.at0 Post.lat0 Post.at1 Post.lat1 Post.at2 Post.lat2 Post.at3 Post.lat3 Post.at4 Post.lat4 Post.at5 Post.lat5 Post.at6 Post.lat6 Post.at7 Post.lat7 Post.at8 Post.lat8 Post.at9 Post.lat9 Post.at10 Post.lat10 Post.sub0_11 Post.lsub0_11 Post.sub1_10 Post.lsub1_10 Post.len Wcc.at0 Wcc.lat0 Wcc.at1 Wcc.lat1 Wcc.at2 Wcc.lat2 Wcc.at3 Wcc.lat3 Wcc.at4 Wcc.lat4 Wcc.at5 Wcc.lat5 Wcc.at6 Wcc.lat6 Wcc.at7 Wcc.lat7 Wcc.at8 Wcc.lat8 Wcc.at9 Wcc.lat9 Wcc.at10 Wcc.lat10 Wcc.at11 Wcc.lat11 Wcc.at12 Wcc.lat12 Wcc.sub0_13 Wcc.lsub0_13 Wcc.sub0_2 Wcc.lsub0_2 Wcc.sub2_11 Wcc.lsub2_11 Wcc.sub3_10 Wcc.lsub3_10 Wcc.len Opt.at0 Opt.lat0 Opt.at1 Opt.lat1 Opt.sub0_2 Opt.lsub0_2 Opt.len

section
attribute [local go_sem ↓] add_bs

attribute [local go_sem] num_len List.length_append

set_option maxRecDepth 20000 in
set_option maxHeartbeats 3200000 in
theorem attrBytes8_nat (t m k u g s i n c z : Nat) (w : World) (h4 : ∀ x ∈ [t, m, k, u, g, i], x < 4294967296) (h8 : ∀ x ∈ [s, n, c, z], (x : Int) ≤ 9223372036854775807) :
    Calls Tryz.prog 50 #[.agg (Attr.mk t m k u g s i n c z).vals.toArray] w fun e w' => e = .returned (.string (bs (Attr.mk t m k u g s i n c z).bytes)) ∧ Below w.heap.size w w' := by
  have HF := Lib.hid (show (Attr.mk t m k u g s i n c z).bytes = num t 4 ++ num m 4 ++ num k 4 ++ num u 4 ++ num g 4 ++ num s 8 ++ num i 4 ++ num n 8 ++ num c 8 ++ num z 8 by simp only [Attr.bytes, Int.toNat_natCast])
  simp only [List.mem_cons, List.not_mem_nil, or_false, forall_eq_or_imp, forall_eq] at h4 h8
  obtain ⟨b1, b2, b3, b4, b5, b6⟩ := h4
  obtain ⟨c1, c2, c3, c4⟩ := h8
  have d1 : (t : Int) ≤ 9223372036854775807 := by omega
  have d2 : (m : Int) ≤ 9223372036854775807 := by omega
  have d3 : (k : Int) ≤ 9223372036854775807 := by omega
  have d4 : (u : Int) ≤ 9223372036854775807 := by omega
  have d5 : (g : Int) ≤ 9223372036854775807 := by omega
  have d6 : (i : Int) ≤ 9223372036854775807 := by omega
  clear b1 b2 b3 b4 b5 b6
  have hb := Blk.new w 25 (Attr.mk t m k u g s i n c z).vals
  have hB0 : Below w.heap.size w (w.alloc (.cells (Attr.mk t m k u g s i n c z).vals.toArray 25)) := (Below.refl _ _).alloc (Nat.le_refl _) _
  have hcx := hb.cell
  have hlt := hb.lt
  clear hb
  go_enter Tryz.func50, Tryz.ntmps50
  go_wp2_with fail
  generalize w.alloc (.cells (Attr.mk t m k u g s i n c z).vals.toArray 25) = w1 at *
  go_region_held3 (fun W => Stb w1 W) (first | exact Stb.start | assumption | (exact Stb.alloc (by assumption) _) | (exact Stb.call (by assumption) (by assumption))) (first
    | (go_at_call_of 24 (t); refine (refNum_any t 4 _ (by assumption) (by decide)).mono ?_; rintro e w2 ⟨rfl, hb⟩)
    | (go_at_call_of 24 (m); refine (refNum_any m 4 _ (by assumption) (by decide)).mono ?_; rintro e w2 ⟨rfl, hb⟩)
    | (go_at_call_of 24 (k); refine (refNum_any k 4 _ (by assumption) (by decide)).mono ?_; rintro e w2 ⟨rfl, hb⟩)
    | (go_at_call_of 24 (u); refine (refNum_any u 4 _ (by assumption) (by decide)).mono ?_; rintro e w2 ⟨rfl, hb⟩)
    | (go_at_call_of 24 (g); refine (refNum_any g 4 _ (by assumption) (by decide)).mono ?_; rintro e w2 ⟨rfl, hb⟩)
    | (go_at_call_of 24 (s); refine (refNum_any s 8 _ (by assumption) (by decide)).mono ?_; rintro e w2 ⟨rfl, hb⟩)
    | (go_at_call_of 24 (i); refine (refNum_any i 4 _ (by assumption) (by decide)).mono ?_; rintro e w2 ⟨rfl, hb⟩)
    | (go_at_call_of 24 (n); refine (refNum_any n 8 _ (by assumption) (by decide)).mono ?_; rintro e w2 ⟨rfl, hb⟩)
    | (go_at_call_of 24 (c); refine (refNum_any c 8 _ (by assumption) (by decide)).mono ?_; rintro e w2 ⟨rfl, hb⟩)
    | (go_at_call_of 24 (z); refine (refNum_any z 8 _ (by assumption) (by decide)).mono ?_; rintro e w2 ⟨rfl, hb⟩)
    | fail)
  have hs5 : Stb w1 w2 := by assumption
  have HB := Lib.hid (below_then hB0 hs5.below)
  clear hs5
  go_wp2
  go_ret
  exact ⟨ret_string (by rw [HF.out]; simp only [List.append_assoc]), HB.out⟩
end
theorem attrBytes8_any (x : Attr) (w : World) (hok : x.ok = true) (hg : x.good) : Calls Tryz.prog 50 #[.agg x.vals.toArray] w fun e w' => e = .returned (.string (bs x.bytes)) ∧ Below w.heap.size w w' := by
  obtain ⟨t, m, k, u, g, s, i, n, c, z, rfl, h1, h2⟩ := Attr.nats hok hg
  exact attrBytes8_nat t m k u g s i n c z w h1 h2

set_option maxHeartbeats 800000 in
theorem postBytes8_any (p : Post) (w : World) (hok : p.ok = true) (hg : p.good) : Calls Tryz.prog 26 #[.agg p.vals.toArray] w fun e w' => e = .returned (.string (bs p.bytes)) ∧ Below w.heap.size w w' := by
  have hb0 := Blk.new w 27 p.vals
  have hB0 : Below w.heap.size w (w.alloc (.cells p.vals.toArray 27)) := (Below.refl _ _).alloc (Nat.le_refl _) _
  have hca := hb0.cell
  have HO := Lib.hid hok
  clear hok
  go_enter Tryz.func26, Tryz.ntmps26
  cases hi : p.is
  · have HF := Lib.hid (show truth false = p.bytes by simp [Post.bytes, hi])
    go_wp2_with fail
    refine (refTruth_any _ _).mono ?_
    rintro e w1 ⟨rfl, hb1⟩
    go_wp2
    go_ret
    exact ⟨ret_string HF.out, below_then hB0 hb1⟩
  · have HF := Lib.hid (show truth true ++ p.attr.bytes = p.bytes by simp [Post.bytes, hi])
    have hao : p.attr.ok = true := by have := HO.out; simpa [Post.ok, hi] using this
    go_wp2_with fail
    generalize hw : w.alloc (.cells p.vals.toArray 27) = w1 at *
    have r0 : rowOf w1 w.heap.size 1 10 = some p.attr.vals.toArray := hb0.row 1 10 (by simp [Post.len])
    have hl1 : (truth true).length = 4 := by simp [truth, num_len]
    have hl2 := p.attr.bytes_len
    have hlt := hb0.lt
    go_region_held3 (fun W => Stb w1 W) (first | exact Stb.start | assumption | (exact Stb.alloc (by assumption) _) | (exact Stb.call (by assumption) (by assumption))) (first
      | (go_at_call 28; refine (refTruth_any _ _).mono ?_; rintro e w2 ⟨rfl, hb⟩)
      | (go_at_call 50; refine (attrBytes8_any _ _ (by assumption) (by assumption)).mono ?_; rintro e w2 ⟨rfl, hb⟩)
      | fail)
    have hs5 : Stb w1 w2 := by assumption
    have HB := Lib.hid (below_then hB0 hs5.below)
    clear hs5
    go_wp2
    go_ret
    exact ⟨ret_string (by rw [HF.out]), HB.out⟩

set_option maxHeartbeats 800000 in
theorem wccBytes8_any (c : Wcc) (w : World) (hok : c.ok = true) (hg : c.good) : Calls Tryz.prog 27 #[.agg c.vals.toArray] w fun e w' => e = .returned (.string (bs c.bytes)) ∧ Below w.heap.size w w' := by
  have hb0 := Blk.new w 31 c.vals
  have hB0 : Below w.heap.size w (w.alloc (.cells c.vals.toArray 31)) := (Below.refl _ _).alloc (Nat.le_refl _) _
  have ho1 : c.before.ok 9223372036854775807 = true := by unfold Wcc.ok at hok; simp at hok; exact hok.1
  have ho2 : c.after.ok = true := by unfold Wcc.ok at hok; simp at hok; exact hok.2
  have hp := Opt.ok_pos ho1
  have hm := (Go.bounds_i64 hg.1).2
  have HF := Lib.hid (show c.before.bytes ++ c.after.bytes = c.bytes from rfl)
  clear hok
  go_enter Tryz.func27, Tryz.ntmps27
  go_wp2_with fail
  generalize hw : w.alloc (.cells c.vals.toArray 31) = w1 at *
  have r0 : rowOf w1 w.heap.size 0 2 = some c.before.vals.toArray := hb0.row 0 2 (by simp [Wcc.len])
  have r1 : rowOf w1 w.heap.size 2 11 = some c.after.vals.toArray := hb0.row 2 11 (by simp [Wcc.len])
  have hl1 := c.before.bytes_len
  have hl2 := c.after.bytes_len
  have hl3 : ¬ 9223372036854775807 < c.before.bytes.length + c.after.bytes.length := by omega
  have hlt := hb0.lt
  go_region_held3 (fun W => Stb w1 W) (first | exact Stb.start | assumption | (exact Stb.alloc (by assumption) _) | (exact Stb.call (by assumption) (by assumption))) (first
    | (go_at_call 51; refine (refOptO_any _ _ (by assumption) (by assumption)).mono ?_; rintro e w2 ⟨rfl, hb⟩)
    | (go_at_call 26; refine (postBytes8_any _ _ (by assumption) (by exact hg.2)).mono ?_; rintro e w2 ⟨rfl, hb⟩)
    | fail)
  have hs5 : Stb w1 w2 := by assumption
  have HB := Lib.hid (below_then hB0 hs5.below)
  clear hs5
  go_wp2
  go_ret
  exact ⟨ret_string (by rw [HF.out]), HB.out⟩
end Go.Proofs.YtapcjojlkeaadaaGreatDoor
